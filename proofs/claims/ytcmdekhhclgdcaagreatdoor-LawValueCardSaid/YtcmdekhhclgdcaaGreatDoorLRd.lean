/- priorartref17.Default: what it makes is one's own. -/
import Derived.Test.YtcmdekhhclgdcaaGreatDoorLPk
namespace Go.Proofs.YtcmdekhhclgdcaaGreatDoor
open Go.RowKit Go.Shelf
set_option linter.unusedSimpArgs false
set_option linter.unusedVariables false
def DefP17 (w : World) (e : Ending) (w' : World) : Prop := ∃ v1 v2 H, e = .returned (.agg #[v1, v2]) ∧ Mem w noH [own mono_CalE 2 53 v1 (defC 12), own mono_LstW 1 22 v2 (defBs 12)] H w'
set_option maxRecDepth 100000 in
set_option maxHeartbeats 4000000 in
theorem refDef17_c (w : World) : Calls Tryz.prog 5 #[] w (DefP17 w) := by
  have hM0 := ((((Mem.start w noH (noH_le _)).new #[.slice none 0 0, .slice none 0 0] 26).new' #[.slice none 0 0, .slice none 0 0] 26 (n := w.heap.size + 1) (by simp)).nil mono_CalE 2 53).nil mono_LstW 1 22
  simp only [List.nil_append, List.cons_append] at hM0
  go_enter Tryz.func5, Tryz.ntmps5
  go_wp2_with fail
  generalize (w.alloc _).alloc _ = W at *
  go_loopw [2] (fun i wr => ∃ k : Nat, k ≤ 12 ∧ i = .int .i64 k ∧ ∃ (H : PH) (v1 v2 : Value), Mem w noH [box w.heap.size #[.slice none 0 0, .slice none 0 0] 26, box (w.heap.size + 1) #[v1, v2] 26, own mono_CalE 2 53 v1 (defC k), own mono_LstW 1 22 v2 (defBs k)] H wr) (fun i _ => 12 - (intOf i).toNat)
  case atStart => exact ⟨0, by omega, rfl, noH, _, _, hM0⟩
  case round =>
    clear hM0
    obtain ⟨k, hk, rfl, H, v1, v2, hM⟩ := hrel
    obtain ⟨a1, c1, rfl, -⟩ := hM.form 2 rfl
    obtain ⟨a2, c2, rfl, -⟩ := hM.form 3 rfl
    have hd1 := defC_succ k
    have hd2 := defBs_succ k
    have hl1 := defC_len k
    have hl2 := defBs_len k
    generalize hcs : defC k = cs at *
    generalize hbs : defBs k = bs at *
    replace hcs := Lib.hid hcs
    replace hbs := Lib.hid hbs
    replace hd1 := Lib.hid hd1
    replace hd2 := Lib.hid hd2
    rw [hl1] at hM
    rw [hl2] at hM
    try simp only [hl1, hl2]
    replace hl1 := Lib.hid hl1
    replace hl2 := Lib.hid hl2
    by_cases hlt : k < 12
    · have hlt' : (k : Int) < 12 := by omega
      have q0 : _ = some (Value.slice a1 k c1) := (hM.box 1 rfl).facts.1 0
      have hsz : w.heap.size + 1 < wr.heap.size := hM.lt (i := 1) rfl rfl
      have hdc := fun w => refDefault_c k w (by omega)
      replace hdc := Lib.hid hdc
      go_upto_region 5 with (fail)
      (refine wp_region_I 5 (by kernel_rfl) (by kernel_rfl) ?_; simp only [List.toList_toArray, List.take_succ_cons, List.take_zero, List.drop_succ_cons, List.drop_zero])
      (refine walkI_is (u := ?_) rfl (by simp) rfl ?_ ?_; rotate_left; (focus (intro A w' hS hA K hK; (simp only [List.map_cons, List.map_nil, knows, Is, Op.operands, Call.operands, List.lookup_cons, List.lookup_nil, Nat.reduceBEq, Bool.false_eq_true, if_false, if_true, Act.eval, Array.getD_eq_getD_getElem?, List.getElem?_toArray, List.getElem?_cons_succ, List.getElem?_cons_zero, Option.getD_some, and_true, true_and, List.append_toArray, List.nil_append, List.cons_append, List.toList_toArray, Array.toList_append, Option.toArray, List.append_nil] at hA); first | fail | (obtain ⟨hSc, hSf, hSs⟩ := hS.cells; go_simp; exact hK _ (by repeat (first | (with_reducible assumption) | (with_reducible exact Ext.rfl' _) | (with_reducible exact Ext.new _ _) | (with_reducible refine Ext.alloc' ?_ _) | (with_reducible refine Ext.drew' ?_) | (with_reducible refine Ext.drewN' ?_ _) | (with_reducible refine Ext.set' ?_ ?_ _; rotate_left; (focus (first | omega | (simp; done) | (simp; omega)))) | (with_reducible refine Ext.then (b := ?_) ?_ ?_; rotate_left; rotate_left; (with_reducible assumption))))))); (try simp only [List.nil_append, List.cons_append]))
      (refine walkI_is (u := ?_) rfl (by simp) rfl ?_ ?_; rotate_left; (focus (intro A w' hS hA K hK; (simp only [List.map_cons, List.map_nil, knows, Is, Op.operands, Call.operands, List.lookup_cons, List.lookup_nil, Nat.reduceBEq, Bool.false_eq_true, if_false, if_true, Act.eval, Array.getD_eq_getD_getElem?, List.getElem?_toArray, List.getElem?_cons_succ, List.getElem?_cons_zero, Option.getD_some, and_true, true_and, List.append_toArray, List.nil_append, List.cons_append, List.toList_toArray, Array.toList_append, Option.toArray, List.append_nil] at hA); first | fail | (obtain ⟨hSc, hSf, hSs⟩ := hS.cells; go_simp; exact hK _ (by repeat (first | (with_reducible assumption) | (with_reducible exact Ext.rfl' _) | (with_reducible exact Ext.new _ _) | (with_reducible refine Ext.alloc' ?_ _) | (with_reducible refine Ext.drew' ?_) | (with_reducible refine Ext.drewN' ?_ _) | (with_reducible refine Ext.set' ?_ ?_ _; rotate_left; (focus (first | omega | (simp; done) | (simp; omega)))) | (with_reducible refine Ext.then (b := ?_) ?_ ?_; rotate_left; rotate_left; (with_reducible assumption))))))); (try simp only [List.nil_append, List.cons_append]))
      (refine walkI_is (u := ?_) rfl (by simp) rfl ?_ ?_; rotate_left; (focus (intro A w' hS hA K hK; (simp only [List.map_cons, List.map_nil, knows, Is, Op.operands, Call.operands, List.lookup_cons, List.lookup_nil, Nat.reduceBEq, Bool.false_eq_true, if_false, if_true, Act.eval, Array.getD_eq_getD_getElem?, List.getElem?_toArray, List.getElem?_cons_succ, List.getElem?_cons_zero, Option.getD_some, and_true, true_and, List.append_toArray, List.nil_append, List.cons_append, List.toList_toArray, Array.toList_append, Option.toArray, List.append_nil] at hA); first | fail | (obtain ⟨hSc, hSf, hSs⟩ := hS.cells; go_simp; exact hK _ (by repeat (first | (with_reducible assumption) | (with_reducible exact Ext.rfl' _) | (with_reducible exact Ext.new _ _) | (with_reducible refine Ext.alloc' ?_ _) | (with_reducible refine Ext.drew' ?_) | (with_reducible refine Ext.drewN' ?_ _) | (with_reducible refine Ext.set' ?_ ?_ _; rotate_left; (focus (first | omega | (simp; done) | (simp; omega)))) | (with_reducible refine Ext.then (b := ?_) ?_ ?_; rotate_left; rotate_left; (with_reducible assumption))))))); (try simp only [List.nil_append, List.cons_append]))
      (refine walkI_step (fun v w' => ∃ p n q p' n' q', v = .agg #[.slice p n q, .slice p' n' q'] ∧ CalR (up noH wr w') v (defCal k)) rfl (by simp) rfl (fun v a b he ⟨p, n, q, p', n', q', h1, h2⟩ e => ⟨p, n, q, p', n', q', h1, h2.mono (up_then he e)⟩) ?_ ?_; (focus (intro A w' hS hA K hK; (simp only [List.map_cons, List.map_nil, knows, Is, Op.operands, Call.operands, List.lookup_cons, List.lookup_nil, Nat.reduceBEq, Bool.false_eq_true, if_false, if_true, Act.eval, Array.getD_eq_getD_getElem?, List.getElem?_toArray, List.getElem?_cons_succ, List.getElem?_cons_zero, Option.getD_some, and_true, true_and, List.append_toArray, List.nil_append, List.cons_append, List.toList_toArray, Array.toList_append, Option.toArray, List.append_nil] at hA); (go_simp; refine (hdc.out w').mono ?_; rintro e w6 ⟨v6, rfl, h4, h5⟩; obtain ⟨x, y, rfl, q1, q2⟩ := id h5; obtain ⟨pa, pc, rfl, -⟩ := q1.form; obtain ⟨qa, qc, rfl, -⟩ := q2.form; exact hK _ _ h4 ⟨_, _, _, _, _, _, rfl, h5.mono (up_sub (noH_le _) hS)⟩))); (try simp only [List.nil_append, List.cons_append]))
      (refine walkI_step (fun v w' => ∃ g p n q p' n' q', v = .slice (some ⟨g, 0, none⟩) 1 1 ∧ Proofs.YtcmdekhhclgdcaaGreatDoor.Own w' g #[.slice p n q, .slice p' n' q'] 53 ∧ CalR (up noH wr w') (.agg #[.slice p n q, .slice p' n' q']) (defCal k)) rfl (by simp) rfl (fun v a b he ⟨g, p, n, q, p', n', q', h1, h2, h3⟩ e => ⟨g, p, n, q, p', n', q', h1, h2.keep e, h3.mono (up_then he e)⟩) ?_ ?_; (focus (intro A w' hS hA K hK; (simp only [List.map_cons, List.map_nil, knows, Is, Op.operands, Call.operands, List.lookup_cons, List.lookup_nil, Nat.reduceBEq, Bool.false_eq_true, if_false, if_true, Act.eval, Array.getD_eq_getD_getElem?, List.getElem?_toArray, List.getElem?_cons_succ, List.getElem?_cons_zero, Option.getD_some, and_true, true_and, List.append_toArray, List.nil_append, List.cons_append, List.toList_toArray, Array.toList_append, Option.toArray, List.append_nil] at hA); (obtain ⟨p, n, q, p', n', q', hA1, hA2⟩ := hA; rw [hA1] at hA2; go_simp; exact hK _ _ (Ext.new _ _) ⟨_, p, n, q, p', n', q', rfl, Proofs.YtcmdekhhclgdcaaGreatDoor.Own.new _ _ _, hA2.mono (up_then hS (Ext.new _ _))⟩))); (try simp only [List.nil_append, List.cons_append]))
      (refine walkI_nil ?_; simp only [List.nil_append, List.cons_append, fins, Is, forall_eq, Act.put, List.setIfInBounds_toArray, List.set_cons_zero, List.set_cons_succ])
      rintro w5 hx5 v9 - v10 ⟨g, p, n, q, p', n', q', rfl, hOw, hcr⟩
      have hM5 := hM.up hx5
      have hS := Src.lit1 (w := w5) (b := g) (sz := 2) (E := CalE) (H := up H wr w5) (x := defCal k) (cs := [.slice p n q, .slice p' n' q']) ⟨p, n, q, p', n', q', rfl, hcr.mono (up_mono fun k o hk => by cases hk)⟩ rfl (fun j => by rw [hOw.facts.1 j]; simp)
      have hcl : cs.length ≤ 12 := by rw [hl1.out]; omega
      have hbl : bs.length ≤ 12 := by rw [hl2.out]; omega
      clear hM q0 hsz hdc hOw hcr hx5
      generalize up H wr w5 = H1 at *
      go_wp2_with (first | (at_builtin; refine wpList_append_M 2 rfl _ _ 23 rfl Tryz.underlying23 infoRCal rfl rfl rfl hM5 rfl hS one_CalE (by simp; omega) (by simp; omega) ?c5))
      case c5 =>
        intro v6 w6 hM6
        try simp only [List.set_cons_succ, List.set_cons_zero] at hM6
        rw [← hd1.out] at hM6
        have hM7 := hM6.set 1 rfl 0 v6
        simp only [List.set_cons_succ, List.set_cons_zero, List.setIfInBounds_toArray] at hM7
        obtain ⟨na, nc, rfl, -⟩ := hM6.form 2 rfl
        rw [defC_len] at hM7
        simp only [defC_len]
        have q1 : _ = some (Value.slice a1 k c1) := (hM6.box 1 rfl).facts.1 0
        have f1 := (hM6.box 1 rfl).facts.2 0
        have hsz : w.heap.size + 1 < w6.heap.size := hM6.lt (i := 1) rfl rfl
        clear hM5 hS
        go_upto_region 6 with (fail)
        generalize w6.setCell _ _ = W7 at *
        clear q1 f1 hM6 hsz
        have q2 : _ = some (Value.slice a2 k c2) := (hM7.box 1 rfl).facts.1 1
        have hsz : w.heap.size + 1 < W7.heap.size := hM7.lt (i := 1) rfl rfl
        have hx8 := Ext.new W7 (.cells #[.int .i64 12, .int .i64 2, .int .i64 4, .int .i64 18, .int .i64 9, .int .i64 2, .int .i64 6, .int .i64 20, .int .i64 3, .int .i64 (100 + 10 * k), .int .i64 500, .int .i64 300, .int .i64 800, .int .i64 1000, .int .i64 200, .int .i64 150, .int .i64 50, .int .i64 50, .int .i64 60] 3)
        have hO8 := Proofs.YtcmdekhhclgdcaaGreatDoor.Own.new W7 #[.int .i64 12, .int .i64 2, .int .i64 4, .int .i64 18, .int .i64 9, .int .i64 2, .int .i64 6, .int .i64 20, .int .i64 3, .int .i64 (100 + 10 * k), .int .i64 500, .int .i64 300, .int .i64 800, .int .i64 1000, .int .i64 200, .int .i64 150, .int .i64 50, .int .i64 50, .int .i64 60] 3
        have hir : IntsR (up noH W7 _) (.slice (some ⟨W7.heap.size, 0, none⟩) 19 19) (defB k) := ints_own (zs := defB k) hx8 (Nat.le_refl _) hO8 (defB_I (by omega)) (by unfold defB; simp)
        have hM8 := (hM7.up hx8).ext (Ext.new _ (.cells #[.slice (some ⟨W7.heap.size, 0, none⟩) 19 19] 22))
        have hS2 := Src.lit1 (w := (W7.alloc (.cells #[.int .i64 12, .int .i64 2, .int .i64 4, .int .i64 18, .int .i64 9, .int .i64 2, .int .i64 6, .int .i64 20, .int .i64 3, .int .i64 (100 + 10 * k), .int .i64 500, .int .i64 300, .int .i64 800, .int .i64 1000, .int .i64 200, .int .i64 150, .int .i64 50, .int .i64 50, .int .i64 60] 3)).alloc (.cells #[.slice (some ⟨W7.heap.size, 0, none⟩) 19 19] 22)) (b := W7.heap.size + 1) (sz := 1) (E := LstW) (H := up H1 W7 (W7.alloc (.cells #[.int .i64 12, .int .i64 2, .int .i64 4, .int .i64 18, .int .i64 9, .int .i64 2, .int .i64 6, .int .i64 20, .int .i64 3, .int .i64 (100 + 10 * k), .int .i64 500, .int .i64 300, .int .i64 800, .int .i64 1000, .int .i64 200, .int .i64 150, .int .i64 50, .int .i64 50, .int .i64 60] 3))) (x := defB k) (cs := [.slice (some ⟨W7.heap.size, 0, none⟩) 19 19]) ⟨W7.heap.size, 19, #[.int .i64 12, .int .i64 2, .int .i64 4, .int .i64 18, .int .i64 9, .int .i64 2, .int .i64 6, .int .i64 20, .int .i64 3, .int .i64 (100 + 10 * k), .int .i64 500, .int .i64 300, .int .i64 800, .int .i64 1000, .int .i64 200, .int .i64 150, .int .i64 50, .int .i64 50, .int .i64 60], 3, rfl, hir.mono mono_IntR (up_mono fun k o hk => by cases hk), (if_neg (Nat.lt_irrefl _)).trans hO8⟩ rfl (fun j => by rw [(Proofs.YtcmdekhhclgdcaaGreatDoor.Own.new' (W7.alloc _) #[.slice (some ⟨W7.heap.size, 0, none⟩) 19 19] 22 (n := W7.heap.size + 1) (by simp)).facts.1 j]; simp)
        generalize up H1 W7 _ = H2 at *
        clear hir hO8 hx8 hM7
        go_wp2_with (first | (at_builtin; refine wpList_append_M 3 rfl _ _ 24 rfl Tryz.underlying24 infoLst rfl rfl rfl hM8 rfl hS2 one_LstW (by simp; omega) (by simp; omega) ?d5))
        case d5 =>
          intro v9 w9 hM9
          try simp only [List.set_cons_succ, List.set_cons_zero] at hM9
          rw [← hd2.out] at hM9
          have hM10 := hM9.set 1 rfl 1 v9
          simp only [List.set_cons_succ, List.set_cons_zero, List.setIfInBounds_toArray] at hM10
          have q3 : _ = some (Value.slice a2 k c2) := (hM9.box 1 rfl).facts.1 1
          have f3 := (hM9.box 1 rfl).facts.2 1
          have hsz3 : w.heap.size + 1 < w9.heap.size := hM9.lt (i := 1) rfl rfl
          obtain ⟨nb, nd, rfl, -⟩ := hM9.form 3 rfl
          clear hM8 hS2 hM9 q2
          go_wp2_with fail
          go_roundw
          case rel => exact ⟨k + 1, by omega, rfl, H2, _, _, hM10⟩
          case measure => simp [intOf]; omega
    · obtain rfl : k = 12 := by omega
      have q0 : _ = some (Value.slice a1 12 c1) := (hM.box 1 rfl).facts.1 0
      have q1 : _ = some (Value.slice a2 12 c2) := (hM.box 1 rfl).facts.1 1
      have k0 : _ = some (Value.slice none 0 0) := (hM.box 0 rfl).facts.1 0
      have k1 : _ = some (Value.slice none 0 0) := (hM.box 0 rfl).facts.1 1
      have m0 := (hM.box 0 rfl).facts.2 0
      have m1 := (hM.box 0 rfl).facts.2 1
      have hsz : w.heap.size + 1 < wr.heap.size := hM.lt (i := 1) rfl rfl
      have hMf := (hM.set 0 rfl 0 (Value.slice a1 12 c1)).set 0 rfl 1 (Value.slice a2 12 c2)
      simp only [List.set_cons_succ, List.set_cons_zero, List.setIfInBounds_toArray] at hMf
      have z0 : _ = some (Value.slice a1 12 c1) := (hMf.box 0 rfl).facts.1 0
      have z1 : _ = some (Value.slice a2 12 c2) := (hMf.box 0 rfl).facts.1 1
      go_wp2_with fail
      refine bodyPost_ret (v := .agg #[Value.slice a1 12 c1, Value.slice a2 12 c2]) (by simp [results, Tryz.results5, go_sem, z0, z1]) rfl ?_
      have hMp := hMf.pick [2, 3] (by decide)
      simp only [List.map_cons, List.map_nil, List.getElem?_cons_zero, List.getElem?_cons_succ, Option.getD_some] at hMp
      refine ⟨_, _, H, rfl, ?_⟩
      rw [hcs.out, hbs.out]; exact hMp
end Go.Proofs.YtcmdekhhclgdcaaGreatDoor
