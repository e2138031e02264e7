/- priorartref17.Some: it gives rules. -/
import Derived.Test.YtcmdekhhclgdcaaGreatDoorLRd
import Derived.Test.YtcmdekhhclgdcaaGreatDoorLSo
import Derived.Test.YtcmdekhhclgdcaaGreatDoorLMem
import Derived.Test.YtcmdekhhclgdcaaGreatDoorGenA
namespace Go.Proofs.YtcmdekhhclgdcaaGreatDoor
open Go.RowKit Go.Shelf
set_option linter.unusedSimpArgs false
set_option linter.unusedVariables false
/-- rules come back -/
def RulA (w : World) (e : Ending) (w' : World) : Prop := ∃ v r, e = .returned v ∧ r.1.length ≤ 13 ∧ Ext w w' ∧ RulR (ph w') v r
abbrev smL (b4 b5 : Nat) (vc vb : Value) (cs : List Cal) (bs : List (List Int)) : List Chunk :=
  [box b4 #[.slice none 0 0, .slice none 0 0] 26, own mono_CalE 2 53 vc cs, own mono_LstW 1 22 vb bs, box b5 #[vc, vb] 26]
theorem frz_of {W : World} {g : Nat} {c : Array Value} {T : TypeId} (h : W.heap[g]? = some (.cells c T (0, 0))) (j : Nat) : W.frozen? ⟨g, j, none⟩ = false := by simp [World.frozen?, h]
theorem lits5 (t : Nat) (ht : t < 5) : Hid (∀ (w : World) (g : Nat), Proofs.YtcmdekhhclgdcaaGreatDoor.Own w g #[.int .i64 (-1), .int .i64 0, .int .i64 101, .int .i64 121, .int .i64 2199023255552] 3 → ∃ z, w.cell? ⟨g, t, none⟩ = some (.int .i64 z) ∧ I64 z) := by
  intro w g h
  match t, ht with
  | 0, _ => exact ⟨_, h.facts.1 0, by unfold I64; omega⟩
  | 1, _ => exact ⟨_, h.facts.1 1, by unfold I64; omega⟩
  | 2, _ => exact ⟨_, h.facts.1 2, by unfold I64; omega⟩
  | 3, _ => exact ⟨_, h.facts.1 3, by unfold I64; omega⟩
  | 4, _ => exact ⟨_, h.facts.1 4, by unfold I64; omega⟩
/-- a row of the base values -/
theorem sm_row {w W : World} {b4 b5 : Nat} {vc : Value} {a2 : Option Addr} {n2 c2 : Nat} {cs : List Cal} {bs : List (List Int)} {H : PH} (h : Mem w noH (smL b4 b5 vc (.slice a2 n2 c2) cs bs) H W) (k : Nat) (hk : k < bs.length) (h19 : ∀ x ∈ bs, x.length = 19) :
    ∃ gB g1 q1 cc T, a2 = some ⟨gB, 0, none⟩ ∧ W.cell? ⟨gB, k, none⟩ = some (.slice (some ⟨g1, 0, none⟩) 19 q1) ∧ gB < W.heap.size ∧ g1 < W.heap.size ∧ H g1 = some (.cells cc T (0, 0)) ∧ W.frozen? ⟨gB, k, none⟩ = false ∧
      (∀ j, j < 19 → ∃ z, W.cell? ⟨g1, j, none⟩ = some (.int .i64 z) ∧ W.frozen? ⟨g1, j, none⟩ = false) ∧ IntsR H (.slice (some ⟨g1, 0, none⟩) bs[k].length q1) bs[k] := by
  obtain ⟨gB, cap, ds, hv, hl, hc, ⟨g1, q1, cc, T, rfl, hr, hg⟩, hlt⟩ := h.get 2 rfl k hk
  simp only [Value.slice.injEq] at hv
  obtain ⟨rfl, -, -⟩ := hv
  have h9 := h19 _ (List.getElem_mem hk)
  have hgw : W.heap[g1]? = some (.cells cc T (0, 0)) := h.ple g1 _ hg
  have hc0 := hc 0 (by omega)
  rw [Nat.mul_one, Nat.add_zero] at hc0
  refine ⟨gB, g1, q1, cc, T, rfl, ?_, hlt, (Array.getElem?_eq_some_iff.1 hgw).1, hg, ?_, fun j hj => ?_, hr⟩
  · rw [hc0]; simp [h9]
  · have hb : OwnC H W LstW 1 22 (.slice (some ⟨gB, 0, none⟩) n2 c2) bs := h.ok 2 _ rfl
    rcases hb with ⟨e, -⟩ | ⟨g', cap', cur, e, k1, -⟩
    · cases e
    · simp only [Value.slice.injEq, Option.some.injEq, Addr.mk.injEq] at e
      obtain ⟨⟨rfl, -⟩, -⟩ := e
      exact frz_of k1 _
  · obtain ⟨gb, go, e, ic, -⟩ := IntsR.at (hr.mono mono_IntR h.ple) j (by omega)
    cases e
    rw [Nat.zero_add] at ic
    exact ⟨_, ic, frz_of hgw _⟩
set_option maxRecDepth 100000 in
set_option maxHeartbeats 40000000 in
theorem some17_c (l : List Int) (vl : Value) (n : Int) (w : World) (hl : IntsR (ph w) vl l) (hn : I64 n) : Calls Tryz.prog 6 #[vl, .int .i64 n] w (RulA w) := by
  have har2 := fun w => around_c n 1048576 w hn (by omega) (by omega)
  obtain ⟨q0, q1⟩ := aroundV_range (m := 1048576) hn (by omega)
  generalize aroundV n 1048576 = q at *
  obtain ⟨la, lc, rfl, llen, hl⟩ := hl.form
  have hsu := fun w hl => someU_c l (.slice la l.length lc) w hl
  replace hsu := Lib.hid hsu
  replace har2 := Lib.hid har2
  have hM0 := (Mem.start w noH (noH_le _)).new #[.slice none 0 0, .slice none 0 0] 26
  simp only [List.nil_append] at hM0
  go_enter Tryz.func6, Tryz.ntmps6
  go_wp2_with fail
  refine (refDef17_c _).mono ?_
  rintro e w2 ⟨v1, v2, H, rfl, hMd⟩
  obtain ⟨a1, c1, rfl, -⟩ := hMd.form 0 rfl
  obtain ⟨a2, c2, rfl, -⟩ := hMd.form 1 rfl
  obtain ⟨H1, hM1⟩ : ∃ H1, Mem w noH _ H1 w2 := ⟨_, memJoin hM0 hMd⟩
  simp only [List.cons_append, List.nil_append] at hM1
  have hM2 := hM1.new #[.slice a1 (defC 12).length c1, .slice a2 (defBs 12).length c2] 26
  simp only [List.cons_append, List.nil_append] at hM2
  have hst : Hid ((defC 12).length = 12 ∧ (defBs 12).length = 12 ∧ ∀ x ∈ defBs 12, x.length = 19) := Lib.hid ⟨defC_len 12, defBs_len 12, fun x hx => by
    unfold defBs at hx
    obtain ⟨k, -, rfl⟩ := List.mem_map.1 hx
    rfl⟩
  rw [defC_len, defBs_len] at hM2
  simp only [defC_len, defBs_len]
  generalize defC 12 = cs0 at *
  generalize defBs 12 = bs0 at *
  clear hM0 hM1 hMd
  go_upto_region 2 with (fail)
  generalize w2.alloc _ = W2 at *
  generalize w2.heap.size = b5 at *
  go_upto_block 0 with (fail)
  go_cut [] (fun wx => ∃ (H : PH) (cs : List Cal) (bs : List (List Int)), Hid (cs.length = 12 ∧ bs.length = 12 ∧ ∀ x ∈ bs, x.length = 19) ∧ Mem w noH (smL w.heap.size b5 (.slice a1 12 c1) (.slice a2 12 c2) cs bs) H wx)
  case first =>
    go_wp2_with fail
    go_loopw [6] (fun vi wr => ∃ (k : Nat) (H : PH) (cs : List Cal) (bs : List (List Int)), k ≤ l.length ∧ vi = .int .i64 k ∧ Hid (cs.length = 12 ∧ bs.length = 12 ∧ ∀ x ∈ bs, x.length = 19) ∧ Mem w noH (smL w.heap.size b5 (.slice a1 12 c1) (.slice a2 12 c2) cs bs) H wr) (fun vi _ => l.length - (intOf vi).toNat)
    case atStart => exact ⟨0, H1, cs0, bs0, by omega, rfl, hst, hM2⟩
    case round =>
      clear hM2 hst
      obtain ⟨k, H, cs, bs, hk, rfl, hh, hM⟩ := hrel
      by_cases h1 : k < l.length
      · have hja : decide (k < l.length) = true := decide_eq_true h1
        by_cases h2 : k < 6
        · have hjb : decide ((k : Int) < 6) = true := decide_eq_true (by omega)
          have hjc : decide (k < 6) = true := decide_eq_true h2
          obtain ⟨gb, go, rfl, gc, gi, gl⟩ := IntsR.at (hl.mono mono_IntR hM.ex.ple) k h1
          have har := around_c l[k] 1048576 wr gi (by omega) (by omega)
          obtain ⟨p0, p1⟩ := aroundV_range (m := 1048576) gi (by omega)
          generalize l[k] = y at *
          generalize aroundV y 1048576 = p at *
          go_wp2_with fail
          refine RetV_at har ?_
          intro w3 hx3
          have hM3 := hM.ext hx3
          obtain ⟨r, er⟩ : ∃ j : Nat, p % 12 = j := ⟨(p % 12).toNat, by omega⟩
          obtain ⟨s, es⟩ : ∃ j : Nat, p / 12 % 19 = j := ⟨(p / 12 % 19).toNat, by omega⟩
          have hr12 : r < bs.length := by have := hh.out.2.1; omega
          obtain ⟨gB, g1, q9, cc, T, rfl, k1, k2, k3, k4, -, k5, -⟩ := sm_row hM3 r hr12 hh.out.2.2
          obtain ⟨z, k6, k7⟩ := k5 s (by omega)
          have c5 : _ = some (Value.slice (some ⟨gB, 0, none⟩) 12 c2) := (hM3.box 3 rfl).facts.1 1
          have l5 : b5 < w3.heap.size := hM3.lt (i := 3) rfl rfl
          obtain ⟨H', cs', bs', e1, e2, e3, hM4⟩ := memPoke (j := s) (n := p / 228 % 90) hM3 hh.out.2.2 k4 (by unfold I64; omega)
          have hr9 : (r : Int) < 12 := by omega
          have hs9 : (s : Int) < 19 := by omega
          have hr9' : r < 12 := by omega
          have hs9' : s < 19 := by omega
          have hh2 := Lib.hid (show cs'.length = 12 ∧ bs'.length = 12 ∧ ∀ x ∈ bs', x.length = 19 from ⟨e1.trans hh.out.1, e2.trans hh.out.2.1, e3⟩)
          clear k5 hM hM3 har gc hr12 e1 e2 e3 hx3
          go_wp2_with fail
          go_roundw
          case rel => exact ⟨k + 1, H', cs', bs', by omega, rfl, hh2, hM4⟩
          case measure => simp [intOf]; omega
        · have hjb : decide ((k : Int) < 6) = false := decide_eq_false (by omega)
          have hjc : decide (k < 6) = false := decide_eq_false h2
          go_wp2_with fail
          go_meet
          case rel => exact ⟨H, cs, bs, hh, hM⟩
      · have hja : decide (k < l.length) = false := decide_eq_false h1
        go_wp2_with fail
        go_meet
        case rel => exact ⟨H, cs, bs, hh, hM⟩
  case rest =>
    clear hM2 hst
    obtain ⟨H, cs, bs, hh, hM⟩ := hcut
    go_wp2_with fail
    refine RetV_at (har2.out _) ?_
    intro w3 hx3
    have hM3 := hM.ext hx3
    have hl3 := hl.mono mono_IntR hM3.ex.ple
    clear hM hx3 har2
    obtain ⟨r, er⟩ : ∃ j : Nat, q % 12 = j := ⟨(q % 12).toNat, by omega⟩
    have hr9' : r < 12 := by omega
    have hr9 : (r : Int) < 12 := by omega
    have hrc : r < cs.length := by have := hh.out.1; omega
    obtain ⟨gC, capC, dC, hv, -, -, -, lC⟩ := hM3.get 1 rfl r hrc
    simp only [Value.slice.injEq] at hv
    obtain ⟨rfl, -, -⟩ := hv
    clear dC
    have c5 : _ = some (Value.slice (some ⟨gC, 0, none⟩) 12 c1) := (hM3.box 3 rfl).facts.1 0
    have l5 : b5 < w3.heap.size := hM3.lt (i := 3) rfl rfl
    go_upto_region 8 with (fail)
    (refine wp_region_I 6 (by kernel_rfl) (by kernel_rfl) ?_; simp only [List.toList_toArray, List.take_succ_cons, List.take_zero, List.drop_succ_cons, List.drop_zero])
    (refine walkI_is (u := ?_) rfl (by simp) rfl ?_ ?_; rotate_left; (focus (intro A w' hS hA K hK; (simp only [List.map_cons, List.map_nil, knows, Is, Op.operands, Call.operands, List.lookup_cons, List.lookup_nil, Nat.reduceBEq, Bool.false_eq_true, if_false, if_true, Act.eval, Array.getD_eq_getD_getElem?, List.getElem?_toArray, List.getElem?_cons_succ, List.getElem?_cons_zero, Option.getD_some, and_true, true_and, List.append_toArray, List.nil_append, List.cons_append, List.toList_toArray, Array.toList_append, Option.toArray, List.append_nil] at hA); first | fail | (obtain ⟨hSc, hSf, hSs⟩ := hS.cells; go_simp; exact hK _ (by repeat (first | (with_reducible assumption) | (with_reducible exact Ext.rfl' _) | (with_reducible exact Ext.new _ _) | (with_reducible refine Ext.alloc' ?_ _) | (with_reducible refine Ext.drew' ?_) | (with_reducible refine Ext.drewN' ?_ _) | (with_reducible refine Ext.set' ?_ ?_ _; rotate_left; (focus (first | omega | (simp; done) | (simp; omega)))) | (with_reducible refine Ext.then (b := ?_) ?_ ?_; rotate_left; rotate_left; (with_reducible assumption))))))); (try simp only [List.nil_append, List.cons_append]))
    (refine walkI_is (u := ?_) rfl (by simp) rfl ?_ ?_; rotate_left; (focus (intro A w' hS hA K hK; (simp only [List.map_cons, List.map_nil, knows, Is, Op.operands, Call.operands, List.lookup_cons, List.lookup_nil, Nat.reduceBEq, Bool.false_eq_true, if_false, if_true, Act.eval, Array.getD_eq_getD_getElem?, List.getElem?_toArray, List.getElem?_cons_succ, List.getElem?_cons_zero, Option.getD_some, and_true, true_and, List.append_toArray, List.nil_append, List.cons_append, List.toList_toArray, Array.toList_append, Option.toArray, List.append_nil] at hA); first | fail | (obtain ⟨hSc, hSf, hSs⟩ := hS.cells; go_simp; exact hK _ (by repeat (first | (with_reducible assumption) | (with_reducible exact Ext.rfl' _) | (with_reducible exact Ext.new _ _) | (with_reducible refine Ext.alloc' ?_ _) | (with_reducible refine Ext.drew' ?_) | (with_reducible refine Ext.drewN' ?_ _) | (with_reducible refine Ext.set' ?_ ?_ _; rotate_left; (focus (first | omega | (simp; done) | (simp; omega)))) | (with_reducible refine Ext.then (b := ?_) ?_ ?_; rotate_left; rotate_left; (with_reducible assumption))))))); (try simp only [List.nil_append, List.cons_append]))
    (refine walkI_is (u := ?_) rfl (by simp) rfl ?_ ?_; rotate_left; (focus (intro A w' hS hA K hK; (simp only [List.map_cons, List.map_nil, knows, Is, Op.operands, Call.operands, List.lookup_cons, List.lookup_nil, Nat.reduceBEq, Bool.false_eq_true, if_false, if_true, Act.eval, Array.getD_eq_getD_getElem?, List.getElem?_toArray, List.getElem?_cons_succ, List.getElem?_cons_zero, Option.getD_some, and_true, true_and, List.append_toArray, List.nil_append, List.cons_append, List.toList_toArray, Array.toList_append, Option.toArray, List.append_nil] at hA); first | fail | (obtain ⟨hSc, hSf, hSs⟩ := hS.cells; go_simp; exact hK _ (by repeat (first | (with_reducible assumption) | (with_reducible exact Ext.rfl' _) | (with_reducible exact Ext.new _ _) | (with_reducible refine Ext.alloc' ?_ _) | (with_reducible refine Ext.drew' ?_) | (with_reducible refine Ext.drewN' ?_ _) | (with_reducible refine Ext.set' ?_ ?_ _; rotate_left; (focus (first | omega | (simp; done) | (simp; omega)))) | (with_reducible refine Ext.then (b := ?_) ?_ ?_; rotate_left; rotate_left; (with_reducible assumption))))))); (try simp only [List.nil_append, List.cons_append]))
    (refine walkI_is (u := ?_) rfl (by simp) rfl ?_ ?_; rotate_left; (focus (intro A w' hS hA K hK; (simp only [List.map_cons, List.map_nil, knows, Is, Op.operands, Call.operands, List.lookup_cons, List.lookup_nil, Nat.reduceBEq, Bool.false_eq_true, if_false, if_true, Act.eval, Array.getD_eq_getD_getElem?, List.getElem?_toArray, List.getElem?_cons_succ, List.getElem?_cons_zero, Option.getD_some, and_true, true_and, List.append_toArray, List.nil_append, List.cons_append, List.toList_toArray, Array.toList_append, Option.toArray, List.append_nil] at hA); first | fail | (obtain ⟨hSc, hSf, hSs⟩ := hS.cells; go_simp; exact hK _ (by repeat (first | (with_reducible assumption) | (with_reducible exact Ext.rfl' _) | (with_reducible exact Ext.new _ _) | (with_reducible refine Ext.alloc' ?_ _) | (with_reducible refine Ext.drew' ?_) | (with_reducible refine Ext.drewN' ?_ _) | (with_reducible refine Ext.set' ?_ ?_ _; rotate_left; (focus (first | omega | (simp; done) | (simp; omega)))) | (with_reducible refine Ext.then (b := ?_) ?_ ?_; rotate_left; rotate_left; (with_reducible assumption))))))); (try simp only [List.nil_append, List.cons_append]))
    (refine walkI_is (u := ?_) rfl (by simp) rfl ?_ ?_; rotate_left; (focus (intro A w' hS hA K hK; (simp only [List.map_cons, List.map_nil, knows, Is, Op.operands, Call.operands, List.lookup_cons, List.lookup_nil, Nat.reduceBEq, Bool.false_eq_true, if_false, if_true, Act.eval, Array.getD_eq_getD_getElem?, List.getElem?_toArray, List.getElem?_cons_succ, List.getElem?_cons_zero, Option.getD_some, and_true, true_and, List.append_toArray, List.nil_append, List.cons_append, List.toList_toArray, Array.toList_append, Option.toArray, List.append_nil] at hA); first | fail | (obtain ⟨hSc, hSf, hSs⟩ := hS.cells; go_simp; exact hK _ (by repeat (first | (with_reducible assumption) | (with_reducible exact Ext.rfl' _) | (with_reducible exact Ext.new _ _) | (with_reducible refine Ext.alloc' ?_ _) | (with_reducible refine Ext.drew' ?_) | (with_reducible refine Ext.drewN' ?_ _) | (with_reducible refine Ext.set' ?_ ?_ _; rotate_left; (focus (first | omega | (simp; done) | (simp; omega)))) | (with_reducible refine Ext.then (b := ?_) ?_ ?_; rotate_left; rotate_left; (with_reducible assumption))))))); (try simp only [List.nil_append, List.cons_append]))
    (refine walkI_step (fun v w' => ∃ p n c p' n' c' cc, v = .agg #[.slice p n c, .slice p' n' c'] ∧ CalR (up noH w3 w') v cc) rfl (by simp) rfl (fun v a b he ⟨p, n, c, p', n', c', cc, h1, h2⟩ e => ⟨p, n, c, p', n', c', cc, h1, h2.mono (up_then he e)⟩) ?_ ?_; (focus (intro A w' hS hA K hK; (simp only [List.map_cons, List.map_nil, knows, Is, Op.operands, Call.operands, List.lookup_cons, List.lookup_nil, Nat.reduceBEq, Bool.false_eq_true, if_false, if_true, Act.eval, Array.getD_eq_getD_getElem?, List.getElem?_toArray, List.getElem?_cons_succ, List.getElem?_cons_zero, Option.getD_some, and_true, true_and, List.append_toArray, List.nil_append, List.cons_append, List.toList_toArray, Array.toList_append, Option.toArray, List.append_nil] at hA); (go_simp; refine (hsu.out w' (hl3.mono mono_IntR hS.ple)).mono ?_; rintro e w6 ⟨v6, cc, rfl, h4, h5, -⟩; obtain ⟨x, y, rfl, q1, q2⟩ := id h5; obtain ⟨pa, pc, rfl, -⟩ := q1.form; obtain ⟨qa, qc, rfl, -⟩ := q2.form; exact hK _ _ h4 ⟨_, _, _, _, _, _, _, rfl, h5.mono (up_sub (noH_le _) hS)⟩))); (try simp only [List.nil_append, List.cons_append]))
    (refine walkI_nil ?_; simp only [List.nil_append, List.cons_append, fins, Is, forall_eq, Act.put, List.setIfInBounds_toArray, List.set_cons_zero, List.set_cons_succ])
    rintro w5 hx5 v45 ⟨pp, pn, pc, pp', pn', pc', cc, rfl, hcc⟩
    have hM5 := hM3.up hx5
    have hcE : CalE (up H w3 w5) [.slice pp pn pc, .slice pp' pn' pc'] cc := ⟨pp, pn, pc, pp', pn', pc', rfl, hcc.mono (up_mono fun k o hk => by cases hk)⟩
    have lC5 : gC < w5.heap.size := by have := hx5.size; omega
    clear hM3 c5 l5 lC hx5 hl3 hsu hcc
    generalize up H w3 w5 = H5 at *
    go_upto_region 9 with (refine wpList_store_M (xs := cs) (n := 12) (cap := c1) (g := gC) rfl 53 _ _ rfl r rfl (cs := [.slice pp pn pc, .slice pp' pn' pc']) rfl (x' := cc) hM5 1 rfl hrc hcE rfl (fun u hu => one_CalE _ _ hcE u hu) (by kernel_rfl) ?c5)
    case c5 =>
      intro w6 hM6
      replace hM6 : Mem w noH (smL w.heap.size b5 (.slice (some ⟨gC, 0, none⟩) 12 c1) (.slice a2 12 c2) (cs.set r cc) bs) H5 w6 := hM6
      have hh6 : Hid ((cs.set r cc).length = 12 ∧ bs.length = 12 ∧ ∀ x ∈ bs, x.length = 19) := Lib.hid ⟨by rw [List.length_set]; exact hh.out.1, hh.out.2.1, hh.out.2.2⟩
      generalize cs.set r cc = cs6 at *
      have lC6 : gC < w6.heap.size := hM6.lt (i := 1) rfl rfl
      clear hM5 hcE hh lC5
      have hsr : 0 ≤ q / 12 % 23 := by omega
      have hr6 : r < bs.length := by have := hh6.out.2.1; omega
      have hr6c : r < cs6.length := by have := hh6.out.1; omega
      by_cases s0 : q / 12 % 23 = 0
      · have b0 : (q / 12 % 23 == 0) = true := by simpa using s0
        clear s0
        have er2 : q.tmod 12 = (r : Int) := by rw [Int.tmod_eq_emod_of_nonneg q0]; exact er
        obtain ⟨gB, g1, q9, ct, T, rfl, k1, k2, k3, k4, kB, k5, kR⟩ := sm_row hM6 r hr6 hh6.out.2.2
        have c5b : _ = some (Value.slice (some ⟨gB, 0, none⟩) 12 c2) := (hM6.box 3 rfl).facts.1 1
        have l5 : b5 < w6.heap.size := hM6.lt (i := 3) rfl rfl
        obtain ⟨s, es⟩ : ∃ j : Nat, q / 276 % 19 = j := ⟨(q / 276 % 19).toNat, by omega⟩
        have hs9 : (s : Int) < 19 := by omega
        have hs9' : s < 19 := by omega
        have es2 : (q.tdiv 276).tmod 19 = (s : Int) := by rw [Int.tdiv_eq_ediv_of_nonneg q0, Int.tmod_eq_emod_of_nonneg (by omega)]; exact es
        obtain ⟨t, et⟩ : ∃ j : Nat, q / 5244 % 5 = j := ⟨(q / 5244 % 5).toNat, by omega⟩
        have ht5 : (t : Int) < 5 := by omega
        have ht5' : t < 5 := by omega
        have hw1 : IntKind.i64.wrap (q.tdiv 5244) = q.tdiv 5244 := by rw [IntKind.wrap_i64]; rw [Int.tdiv_eq_ediv_of_nonneg q0]; omega
        have hw2 : IntKind.i64.wrap (q.tdiv 276) = q.tdiv 276 := by rw [IntKind.wrap_i64]; rw [Int.tdiv_eq_ediv_of_nonneg q0]; omega
        have et2 : (q.tdiv 5244).tmod 5 = (t : Int) := by rw [Int.tdiv_eq_ediv_of_nonneg q0, Int.tmod_eq_emod_of_nonneg (by omega)]; exact et
        obtain ⟨z, k6, k7⟩ := k5 s hs9'
        have hlit := lits5 t ht5'
        clear k5 kR kB
        go_upto_region 11 with (fail)
        (refine wp_region_I 15 (by kernel_rfl) (by kernel_rfl) ?_; simp only [List.toList_toArray, List.take_succ_cons, List.take_zero, List.drop_succ_cons, List.drop_zero])
        (refine walkI_is (u := ?_) rfl (by simp) rfl ?_ ?_; rotate_left; (focus (intro A w' hS hA K hK; (simp only [List.map_cons, List.map_nil, knows, Is, Op.operands, Call.operands, List.lookup_cons, List.lookup_nil, Nat.reduceBEq, Bool.false_eq_true, if_false, if_true, Act.eval, Array.getD_eq_getD_getElem?, List.getElem?_toArray, List.getElem?_cons_succ, List.getElem?_cons_zero, Option.getD_some, and_true, true_and, List.append_toArray, List.nil_append, List.cons_append, List.toList_toArray, Array.toList_append, Option.toArray, List.append_nil] at hA); first | fail | (obtain ⟨hSc, hSf, hSs⟩ := hS.cells; go_simp; exact hK _ (by repeat (first | (with_reducible assumption) | (with_reducible exact Ext.rfl' _) | (with_reducible exact Ext.new _ _) | (with_reducible refine Ext.alloc' ?_ _) | (with_reducible refine Ext.drew' ?_) | (with_reducible refine Ext.drewN' ?_ _) | (with_reducible refine Ext.set' ?_ ?_ _; rotate_left; (focus (first | omega | (simp; done) | (simp; omega)))) | (with_reducible refine Ext.then (b := ?_) ?_ ?_; rotate_left; rotate_left; (with_reducible assumption))))))); (try simp only [List.nil_append, List.cons_append]))
        (refine walkI_is (u := ?_) rfl (by simp) rfl ?_ ?_; rotate_left; (focus (intro A w' hS hA K hK; (simp only [List.map_cons, List.map_nil, knows, Is, Op.operands, Call.operands, List.lookup_cons, List.lookup_nil, Nat.reduceBEq, Bool.false_eq_true, if_false, if_true, Act.eval, Array.getD_eq_getD_getElem?, List.getElem?_toArray, List.getElem?_cons_succ, List.getElem?_cons_zero, Option.getD_some, and_true, true_and, List.append_toArray, List.nil_append, List.cons_append, List.toList_toArray, Array.toList_append, Option.toArray, List.append_nil] at hA); first | fail | (obtain ⟨hSc, hSf, hSs⟩ := hS.cells; go_simp; exact hK _ (by repeat (first | (with_reducible assumption) | (with_reducible exact Ext.rfl' _) | (with_reducible exact Ext.new _ _) | (with_reducible refine Ext.alloc' ?_ _) | (with_reducible refine Ext.drew' ?_) | (with_reducible refine Ext.drewN' ?_ _) | (with_reducible refine Ext.set' ?_ ?_ _; rotate_left; (focus (first | omega | (simp; done) | (simp; omega)))) | (with_reducible refine Ext.then (b := ?_) ?_ ?_; rotate_left; rotate_left; (with_reducible assumption))))))); (try simp only [List.nil_append, List.cons_append]))
        (refine walkI_is (u := ?_) rfl (by simp) rfl ?_ ?_; rotate_left; (focus (intro A w' hS hA K hK; (simp only [List.map_cons, List.map_nil, knows, Is, Op.operands, Call.operands, List.lookup_cons, List.lookup_nil, Nat.reduceBEq, Bool.false_eq_true, if_false, if_true, Act.eval, Array.getD_eq_getD_getElem?, List.getElem?_toArray, List.getElem?_cons_succ, List.getElem?_cons_zero, Option.getD_some, and_true, true_and, List.append_toArray, List.nil_append, List.cons_append, List.toList_toArray, Array.toList_append, Option.toArray, List.append_nil] at hA); first | fail | (obtain ⟨hSc, hSf, hSs⟩ := hS.cells; go_simp; exact hK _ (by repeat (first | (with_reducible assumption) | (with_reducible exact Ext.rfl' _) | (with_reducible exact Ext.new _ _) | (with_reducible refine Ext.alloc' ?_ _) | (with_reducible refine Ext.drew' ?_) | (with_reducible refine Ext.drewN' ?_ _) | (with_reducible refine Ext.set' ?_ ?_ _; rotate_left; (focus (first | omega | (simp; done) | (simp; omega)))) | (with_reducible refine Ext.then (b := ?_) ?_ ?_; rotate_left; rotate_left; (with_reducible assumption))))))); (try simp only [List.nil_append, List.cons_append]))
        (refine walkI_is (u := ?_) rfl (by simp) rfl ?_ ?_; rotate_left; (focus (intro A w' hS hA K hK; (simp only [List.map_cons, List.map_nil, knows, Is, Op.operands, Call.operands, List.lookup_cons, List.lookup_nil, Nat.reduceBEq, Bool.false_eq_true, if_false, if_true, Act.eval, Array.getD_eq_getD_getElem?, List.getElem?_toArray, List.getElem?_cons_succ, List.getElem?_cons_zero, Option.getD_some, and_true, true_and, List.append_toArray, List.nil_append, List.cons_append, List.toList_toArray, Array.toList_append, Option.toArray, List.append_nil] at hA); first | fail | (obtain ⟨hSc, hSf, hSs⟩ := hS.cells; go_simp; exact hK _ (by repeat (first | (with_reducible assumption) | (with_reducible exact Ext.rfl' _) | (with_reducible exact Ext.new _ _) | (with_reducible refine Ext.alloc' ?_ _) | (with_reducible refine Ext.drew' ?_) | (with_reducible refine Ext.drewN' ?_ _) | (with_reducible refine Ext.set' ?_ ?_ _; rotate_left; (focus (first | omega | (simp; done) | (simp; omega)))) | (with_reducible refine Ext.then (b := ?_) ?_ ?_; rotate_left; rotate_left; (with_reducible assumption))))))); (try simp only [List.nil_append, List.cons_append]))
        (refine walkI_is (u := ?_) rfl (by simp) rfl ?_ ?_; rotate_left; (focus (intro A w' hS hA K hK; (simp only [List.map_cons, List.map_nil, knows, Is, Op.operands, Call.operands, List.lookup_cons, List.lookup_nil, Nat.reduceBEq, Bool.false_eq_true, if_false, if_true, Act.eval, Array.getD_eq_getD_getElem?, List.getElem?_toArray, List.getElem?_cons_succ, List.getElem?_cons_zero, Option.getD_some, and_true, true_and, List.append_toArray, List.nil_append, List.cons_append, List.toList_toArray, Array.toList_append, Option.toArray, List.append_nil] at hA); first | fail | (obtain ⟨hSc, hSf, hSs⟩ := hS.cells; go_simp; exact hK _ (by repeat (first | (with_reducible assumption) | (with_reducible exact Ext.rfl' _) | (with_reducible exact Ext.new _ _) | (with_reducible refine Ext.alloc' ?_ _) | (with_reducible refine Ext.drew' ?_) | (with_reducible refine Ext.drewN' ?_ _) | (with_reducible refine Ext.set' ?_ ?_ _; rotate_left; (focus (first | omega | (simp; done) | (simp; omega)))) | (with_reducible refine Ext.then (b := ?_) ?_ ?_; rotate_left; rotate_left; (with_reducible assumption))))))); (try simp only [List.nil_append, List.cons_append]))
        (refine walkI_is (u := ?_) rfl (by simp) rfl ?_ ?_; rotate_left; (focus (intro A w' hS hA K hK; (simp only [List.map_cons, List.map_nil, knows, Is, Op.operands, Call.operands, List.lookup_cons, List.lookup_nil, Nat.reduceBEq, Bool.false_eq_true, if_false, if_true, Act.eval, Array.getD_eq_getD_getElem?, List.getElem?_toArray, List.getElem?_cons_succ, List.getElem?_cons_zero, Option.getD_some, and_true, true_and, List.append_toArray, List.nil_append, List.cons_append, List.toList_toArray, Array.toList_append, Option.toArray, List.append_nil] at hA); first | fail | (obtain ⟨hSc, hSf, hSs⟩ := hS.cells; go_simp; exact hK _ (by repeat (first | (with_reducible assumption) | (with_reducible exact Ext.rfl' _) | (with_reducible exact Ext.new _ _) | (with_reducible refine Ext.alloc' ?_ _) | (with_reducible refine Ext.drew' ?_) | (with_reducible refine Ext.drewN' ?_ _) | (with_reducible refine Ext.set' ?_ ?_ _; rotate_left; (focus (first | omega | (simp; done) | (simp; omega)))) | (with_reducible refine Ext.then (b := ?_) ?_ ?_; rotate_left; rotate_left; (with_reducible assumption))))))); (try simp only [List.nil_append, List.cons_append]))
        (refine walkI_is (u := ?_) rfl (by simp) rfl ?_ ?_; rotate_left; (focus (intro A w' hS hA K hK; (simp only [List.map_cons, List.map_nil, knows, Is, Op.operands, Call.operands, List.lookup_cons, List.lookup_nil, Nat.reduceBEq, Bool.false_eq_true, if_false, if_true, Act.eval, Array.getD_eq_getD_getElem?, List.getElem?_toArray, List.getElem?_cons_succ, List.getElem?_cons_zero, Option.getD_some, and_true, true_and, List.append_toArray, List.nil_append, List.cons_append, List.toList_toArray, Array.toList_append, Option.toArray, List.append_nil] at hA); first | fail | (obtain ⟨hSc, hSf, hSs⟩ := hS.cells; go_simp; exact hK _ (by repeat (first | (with_reducible assumption) | (with_reducible exact Ext.rfl' _) | (with_reducible exact Ext.new _ _) | (with_reducible refine Ext.alloc' ?_ _) | (with_reducible refine Ext.drew' ?_) | (with_reducible refine Ext.drewN' ?_ _) | (with_reducible refine Ext.set' ?_ ?_ _; rotate_left; (focus (first | omega | (simp; done) | (simp; omega)))) | (with_reducible refine Ext.then (b := ?_) ?_ ?_; rotate_left; rotate_left; (with_reducible assumption))))))); (try simp only [List.nil_append, List.cons_append]))
        (refine walkI_is (u := ?_) rfl (by simp) rfl ?_ ?_; rotate_left; (focus (intro A w' hS hA K hK; (simp only [List.map_cons, List.map_nil, knows, Is, Op.operands, Call.operands, List.lookup_cons, List.lookup_nil, Nat.reduceBEq, Bool.false_eq_true, if_false, if_true, Act.eval, Array.getD_eq_getD_getElem?, List.getElem?_toArray, List.getElem?_cons_succ, List.getElem?_cons_zero, Option.getD_some, and_true, true_and, List.append_toArray, List.nil_append, List.cons_append, List.toList_toArray, Array.toList_append, Option.toArray, List.append_nil] at hA); first | fail | (obtain ⟨hSc, hSf, hSs⟩ := hS.cells; go_simp; exact hK _ (by repeat (first | (with_reducible assumption) | (with_reducible exact Ext.rfl' _) | (with_reducible exact Ext.new _ _) | (with_reducible refine Ext.alloc' ?_ _) | (with_reducible refine Ext.drew' ?_) | (with_reducible refine Ext.drewN' ?_ _) | (with_reducible refine Ext.set' ?_ ?_ _; rotate_left; (focus (first | omega | (simp; done) | (simp; omega)))) | (with_reducible refine Ext.then (b := ?_) ?_ ?_; rotate_left; rotate_left; (with_reducible assumption))))))); (try simp only [List.nil_append, List.cons_append]))
        (refine walkI_is (u := ?_) rfl (by simp) rfl ?_ ?_; rotate_left; (focus (intro A w' hS hA K hK; (simp only [List.map_cons, List.map_nil, knows, Is, Op.operands, Call.operands, List.lookup_cons, List.lookup_nil, Nat.reduceBEq, Bool.false_eq_true, if_false, if_true, Act.eval, Array.getD_eq_getD_getElem?, List.getElem?_toArray, List.getElem?_cons_succ, List.getElem?_cons_zero, Option.getD_some, and_true, true_and, List.append_toArray, List.nil_append, List.cons_append, List.toList_toArray, Array.toList_append, Option.toArray, List.append_nil] at hA); first | fail | (obtain ⟨hSc, hSf, hSs⟩ := hS.cells; go_simp; exact hK _ (by repeat (first | (with_reducible assumption) | (with_reducible exact Ext.rfl' _) | (with_reducible exact Ext.new _ _) | (with_reducible refine Ext.alloc' ?_ _) | (with_reducible refine Ext.drew' ?_) | (with_reducible refine Ext.drewN' ?_ _) | (with_reducible refine Ext.set' ?_ ?_ _; rotate_left; (focus (first | omega | (simp; done) | (simp; omega)))) | (with_reducible refine Ext.then (b := ?_) ?_ ?_; rotate_left; rotate_left; (with_reducible assumption))))))); (try simp only [List.nil_append, List.cons_append]))
        (refine walkI_step (fun v w' => ∃ g, v = .slice (some ⟨g, 0, none⟩) 5 5 ∧ Proofs.YtcmdekhhclgdcaaGreatDoor.Own w' g #[.int .i64 (-1), .int .i64 0, .int .i64 101, .int .i64 121, .int .i64 2199023255552] 3) rfl (by simp) rfl (fun v a b he ⟨g, h1, h2⟩ e => ⟨g, h1, h2.keep e⟩) ?_ ?_; (focus (intro A w' hS hA K hK; (simp only [List.map_cons, List.map_nil, knows, Is, Op.operands, Call.operands, List.lookup_cons, List.lookup_nil, Nat.reduceBEq, Bool.false_eq_true, if_false, if_true, Act.eval, Array.getD_eq_getD_getElem?, List.getElem?_toArray, List.getElem?_cons_succ, List.getElem?_cons_zero, Option.getD_some, and_true, true_and, List.append_toArray, List.nil_append, List.cons_append, List.toList_toArray, Array.toList_append, Option.toArray, List.append_nil] at hA); (go_simp; exact hK _ _ (Ext.new _ _) ⟨_, rfl, Proofs.YtcmdekhhclgdcaaGreatDoor.Own.new _ _ _⟩))); (try simp only [List.nil_append, List.cons_append]))
        (refine walkI_is (u := ?_) rfl (by simp) rfl ?_ ?_; rotate_left; (focus (intro A w' hS hA K hK; (simp only [List.map_cons, List.map_nil, knows, Is, Op.operands, Call.operands, List.lookup_cons, List.lookup_nil, Nat.reduceBEq, Bool.false_eq_true, if_false, if_true, Act.eval, Array.getD_eq_getD_getElem?, List.getElem?_toArray, List.getElem?_cons_succ, List.getElem?_cons_zero, Option.getD_some, and_true, true_and, List.append_toArray, List.nil_append, List.cons_append, List.toList_toArray, Array.toList_append, Option.toArray, List.append_nil] at hA); first | fail | (obtain ⟨hSc, hSf, hSs⟩ := hS.cells; go_simp; exact hK _ (by repeat (first | (with_reducible assumption) | (with_reducible exact Ext.rfl' _) | (with_reducible exact Ext.new _ _) | (with_reducible refine Ext.alloc' ?_ _) | (with_reducible refine Ext.drew' ?_) | (with_reducible refine Ext.drewN' ?_ _) | (with_reducible refine Ext.set' ?_ ?_ _; rotate_left; (focus (first | omega | (simp; done) | (simp; omega)))) | (with_reducible refine Ext.then (b := ?_) ?_ ?_; rotate_left; rotate_left; (with_reducible assumption))))))); (try simp only [List.nil_append, List.cons_append]))
        (refine walkI_is (u := ?_) rfl (by simp) rfl ?_ ?_; rotate_left; (focus (intro A w' hS hA K hK; (simp only [List.map_cons, List.map_nil, knows, Is, Op.operands, Call.operands, List.lookup_cons, List.lookup_nil, Nat.reduceBEq, Bool.false_eq_true, if_false, if_true, Act.eval, Array.getD_eq_getD_getElem?, List.getElem?_toArray, List.getElem?_cons_succ, List.getElem?_cons_zero, Option.getD_some, and_true, true_and, List.append_toArray, List.nil_append, List.cons_append, List.toList_toArray, Array.toList_append, Option.toArray, List.append_nil] at hA); first | fail | (obtain ⟨hSc, hSf, hSs⟩ := hS.cells; go_simp; exact hK _ (by repeat (first | (with_reducible assumption) | (with_reducible exact Ext.rfl' _) | (with_reducible exact Ext.new _ _) | (with_reducible refine Ext.alloc' ?_ _) | (with_reducible refine Ext.drew' ?_) | (with_reducible refine Ext.drewN' ?_ _) | (with_reducible refine Ext.set' ?_ ?_ _; rotate_left; (focus (first | omega | (simp; done) | (simp; omega)))) | (with_reducible refine Ext.then (b := ?_) ?_ ?_; rotate_left; rotate_left; (with_reducible assumption))))))); (try simp only [List.nil_append, List.cons_append]))
        (refine walkI_is (u := ?_) rfl (by simp) rfl ?_ ?_; rotate_left; (focus (intro A w' hS hA K hK; (simp only [List.map_cons, List.map_nil, knows, Is, Op.operands, Call.operands, List.lookup_cons, List.lookup_nil, Nat.reduceBEq, Bool.false_eq_true, if_false, if_true, Act.eval, Array.getD_eq_getD_getElem?, List.getElem?_toArray, List.getElem?_cons_succ, List.getElem?_cons_zero, Option.getD_some, and_true, true_and, List.append_toArray, List.nil_append, List.cons_append, List.toList_toArray, Array.toList_append, Option.toArray, List.append_nil] at hA); first | fail | (obtain ⟨hSc, hSf, hSs⟩ := hS.cells; go_simp; exact hK _ (by repeat (first | (with_reducible assumption) | (with_reducible exact Ext.rfl' _) | (with_reducible exact Ext.new _ _) | (with_reducible refine Ext.alloc' ?_ _) | (with_reducible refine Ext.drew' ?_) | (with_reducible refine Ext.drewN' ?_ _) | (with_reducible refine Ext.set' ?_ ?_ _; rotate_left; (focus (first | omega | (simp; done) | (simp; omega)))) | (with_reducible refine Ext.then (b := ?_) ?_ ?_; rotate_left; rotate_left; (with_reducible assumption))))))); (try simp only [List.nil_append, List.cons_append]))
        (refine walkI_step (fun v w' => ∃ g, v = .pointer (some ⟨g, t, none⟩) ∧ Proofs.YtcmdekhhclgdcaaGreatDoor.Own w' g #[.int .i64 (-1), .int .i64 0, .int .i64 101, .int .i64 121, .int .i64 2199023255552] 3) rfl (by simp) rfl (fun v a b he ⟨g, h1, h2⟩ e => ⟨g, h1, h2.keep e⟩) ?_ ?_; (focus (intro A w' hS hA K hK; (simp only [List.map_cons, List.map_nil, knows, Is, Op.operands, Call.operands, List.lookup_cons, List.lookup_nil, Nat.reduceBEq, Bool.false_eq_true, if_false, if_true, Act.eval, Array.getD_eq_getD_getElem?, List.getElem?_toArray, List.getElem?_cons_succ, List.getElem?_cons_zero, Option.getD_some, and_true, true_and, List.append_toArray, List.nil_append, List.cons_append, List.toList_toArray, Array.toList_append, Option.toArray, List.append_nil] at hA); (obtain ⟨⟨g, hA1, hA2⟩, hA3⟩ := hA; go_simp; exact hK _ _ (Ext.rfl' _) ⟨_, rfl, hA2⟩))); (try simp only [List.nil_append, List.cons_append]))
        (refine walkI_step (fun v w' => ∃ z, v = .int .i64 z ∧ I64 z) rfl (by simp) rfl (fun v a b he h1 e => h1) ?_ ?_; (focus (intro A w' hS hA K hK; (simp only [List.map_cons, List.map_nil, knows, Is, Op.operands, Call.operands, List.lookup_cons, List.lookup_nil, Nat.reduceBEq, Bool.false_eq_true, if_false, if_true, Act.eval, Array.getD_eq_getD_getElem?, List.getElem?_toArray, List.getElem?_cons_succ, List.getElem?_cons_zero, Option.getD_some, and_true, true_and, List.append_toArray, List.nil_append, List.cons_append, List.toList_toArray, Array.toList_append, Option.toArray, List.append_nil] at hA); (obtain ⟨g, hA1, hA2⟩ := hA; obtain ⟨z, hz, hzI⟩ := hlit.out w' g hA2; have hgl := hA2.lt; go_simp; exact hK _ _ (Ext.rfl' _) ⟨_, rfl, hzI⟩))); (try simp only [List.nil_append, List.cons_append]))
        (refine walkI_nil ?_; simp only [List.nil_append, List.cons_append, fins, Is, forall_eq, Act.put, List.setIfInBounds_toArray, List.set_cons_zero, List.set_cons_succ])
        rintro w7 hx7 v61 - v65 - v66 ⟨z', rfl, hzI⟩
        have hM7 := hM6.ext hx7
        obtain ⟨H', cs', bs', el, -, -, hM8⟩ := memPoke (j := s) (n := z') hM7 hh6.out.2.2 k4 hzI
        replace k6 := hx7.cell1 k6
        replace k7 : w7.frozen? ⟨g1, s, none⟩ = false := (hx7.cells.2.1 g1 s k3).trans k7
        replace k3 : g1 < w7.heap.size := by have := hx7.size; omega
        clear hlit c5b l5 k1 k2 hM6 hM7 hx7
        go_upto_region 20 with (fail)
        generalize w7.setCell _ _ = W8 at *
        have z4 : _ = some (Value.slice none 0 0) := (hM8.box 0 rfl).facts.1 0
        have z5 : _ = some (Value.slice none 0 0) := (hM8.box 0 rfl).facts.1 1
        have y4 := (hM8.box 0 rfl).facts.2 0
        have y5 := (hM8.box 0 rfl).facts.2 1
        have z6 : _ = some (Value.slice (some ⟨gC, 0, none⟩) 12 c1) := (hM8.box 3 rfl).facts.1 0
        have z7 : _ = some (Value.slice (some ⟨gB, 0, none⟩) 12 c2) := (hM8.box 3 rfl).facts.1 1
        have x5 : b5 < _ := hM8.lt (i := 3) rfl rfl
        have x4 : w.heap.size < _ := hM8.lt (i := 0) rfl rfl
        have hMz := (hM8.set 0 rfl 0 (Value.slice (some ⟨gC, 0, none⟩) 12 c1)).set 0 rfl 1 (Value.slice (some ⟨gB, 0, none⟩) 12 c2)
        simp only [List.set_cons_succ, List.set_cons_zero, List.setIfInBounds_toArray] at hMz
        have z0 : _ = some (Value.slice (some ⟨gC, 0, none⟩) 12 c1) := (hMz.box 0 rfl).facts.1 0
        have z1 : _ = some (Value.slice (some ⟨gB, 0, none⟩) 12 c2) := (hMz.box 0 rfl).facts.1 1
        go_wp2_with fail
        refine bodyPost_ret (v := .agg #[(Value.slice (some ⟨gC, 0, none⟩) 12 c1), (Value.slice (some ⟨gB, 0, none⟩) 12 c2)]) (by simp [results, Tryz.results6, go_sem, z0, z1]) rfl ?_
        exact ⟨_, (cs', bs'), rfl, by have := hh6.out.1; dsimp only; omega, hMz.ex, ⟨_, _, rfl, hMz.rep 1 rfl, (hMz.rep 2 rfl).weaken fun _ _ h => h.lst⟩⟩
      · have b0 : (q / 12 % 23 == 0) = false := by simpa using s0
        by_cases s1 : q / 12 % 23 = 1
        · have b1 : (q / 12 % 23 == 1) = true := by simpa using s1
          clear s0 s1
          have er2 : q.tmod 12 = (r : Int) := by rw [Int.tmod_eq_emod_of_nonneg q0]; exact er
          obtain ⟨gB, g1, q9, ct, T, rfl, k1, k2, k3, k4, kB, k5, kR⟩ := sm_row hM6 r hr6 hh6.out.2.2
          have c5b : _ = some (Value.slice (some ⟨gB, 0, none⟩) 12 c2) := (hM6.box 3 rfl).facts.1 1
          have l5 : b5 < w6.heap.size := hM6.lt (i := 3) rfl rfl
          have hq9 : 18 ≤ q9 := by
            have h9 := hh6.out.2.2 _ (List.getElem_mem hr6)
            obtain ⟨a9, cap9, e9, u2, u3, u4⟩ := kR
            simp only [Value.slice.injEq] at e9
            omega
          have hq9i : (18 : Int) ≤ (q9 : Int) := by omega
          have hLW : ∀ ds, LstW H5 ds bs[r] → LstW H5 (ds.set 0 (.slice (some ⟨g1, 0, none⟩) 18 q9)) (bs[r].take 18) := by
            rintro ds ⟨g9, q8, c9, T9, rfl, -, -⟩
            have h9 := hh6.out.2.2 _ (List.getElem_mem hr6)
            refine ⟨g1, q9, ct, T, by simp [h9], ?_, k4⟩
            obtain ⟨a9, cap9, e9, u2, u3, u4⟩ := kR
            simp only [Value.slice.injEq] at e9
            obtain ⟨rfl, -, rfl⟩ := e9
            refine ⟨_, _, rfl, by simp; omega, u3, ?_⟩
            rcases u4 with u4 | ⟨b, o, u5, u6⟩
            · exact .inl (by rw [u4]; rfl)
            · refine .inr ⟨b, o, u5, RowRep.of fun i hi => ?_⟩
              have hi' : i < bs[r].length := by rw [List.length_take] at hi; omega
              obtain ⟨c9, v1, v2, v3⟩ := u6.get i hi'
              exact ⟨c9, v1, v2, by rw [List.getElem_take]; exact v3⟩
          replace hLW := Lib.hid hLW
          have hbr := Lib.hid (List.getElem?_eq_getElem hr6)
          generalize bs[r] = br at *
          clear k5 kR k4
          go_upto_region 13 with (fail)
          (refine wp_region_I 11 (by kernel_rfl) (by kernel_rfl) ?_; simp only [List.toList_toArray, List.take_succ_cons, List.take_zero, List.drop_succ_cons, List.drop_zero])
          (refine walkI_is (u := ?_) rfl (by simp) rfl ?_ ?_; rotate_left; (focus (intro A w' hS hA K hK; (simp only [List.map_cons, List.map_nil, knows, Is, Op.operands, Call.operands, List.lookup_cons, List.lookup_nil, Nat.reduceBEq, Bool.false_eq_true, if_false, if_true, Act.eval, Array.getD_eq_getD_getElem?, List.getElem?_toArray, List.getElem?_cons_succ, List.getElem?_cons_zero, Option.getD_some, and_true, true_and, List.append_toArray, List.nil_append, List.cons_append, List.toList_toArray, Array.toList_append, Option.toArray, List.append_nil] at hA); first | fail | (obtain ⟨hSc, hSf, hSs⟩ := hS.cells; go_simp; exact hK _ (by repeat (first | (with_reducible assumption) | (with_reducible exact Ext.rfl' _) | (with_reducible exact Ext.new _ _) | (with_reducible refine Ext.alloc' ?_ _) | (with_reducible refine Ext.drew' ?_) | (with_reducible refine Ext.drewN' ?_ _) | (with_reducible refine Ext.set' ?_ ?_ _; rotate_left; (focus (first | omega | (simp; done) | (simp; omega)))) | (with_reducible refine Ext.then (b := ?_) ?_ ?_; rotate_left; rotate_left; (with_reducible assumption))))))); (try simp only [List.nil_append, List.cons_append]))
          (refine walkI_is (u := ?_) rfl (by simp) rfl ?_ ?_; rotate_left; (focus (intro A w' hS hA K hK; (simp only [List.map_cons, List.map_nil, knows, Is, Op.operands, Call.operands, List.lookup_cons, List.lookup_nil, Nat.reduceBEq, Bool.false_eq_true, if_false, if_true, Act.eval, Array.getD_eq_getD_getElem?, List.getElem?_toArray, List.getElem?_cons_succ, List.getElem?_cons_zero, Option.getD_some, and_true, true_and, List.append_toArray, List.nil_append, List.cons_append, List.toList_toArray, Array.toList_append, Option.toArray, List.append_nil] at hA); first | fail | (obtain ⟨hSc, hSf, hSs⟩ := hS.cells; go_simp; exact hK _ (by repeat (first | (with_reducible assumption) | (with_reducible exact Ext.rfl' _) | (with_reducible exact Ext.new _ _) | (with_reducible refine Ext.alloc' ?_ _) | (with_reducible refine Ext.drew' ?_) | (with_reducible refine Ext.drewN' ?_ _) | (with_reducible refine Ext.set' ?_ ?_ _; rotate_left; (focus (first | omega | (simp; done) | (simp; omega)))) | (with_reducible refine Ext.then (b := ?_) ?_ ?_; rotate_left; rotate_left; (with_reducible assumption))))))); (try simp only [List.nil_append, List.cons_append]))
          (refine walkI_is (u := ?_) rfl (by simp) rfl ?_ ?_; rotate_left; (focus (intro A w' hS hA K hK; (simp only [List.map_cons, List.map_nil, knows, Is, Op.operands, Call.operands, List.lookup_cons, List.lookup_nil, Nat.reduceBEq, Bool.false_eq_true, if_false, if_true, Act.eval, Array.getD_eq_getD_getElem?, List.getElem?_toArray, List.getElem?_cons_succ, List.getElem?_cons_zero, Option.getD_some, and_true, true_and, List.append_toArray, List.nil_append, List.cons_append, List.toList_toArray, Array.toList_append, Option.toArray, List.append_nil] at hA); first | fail | (obtain ⟨hSc, hSf, hSs⟩ := hS.cells; go_simp; exact hK _ (by repeat (first | (with_reducible assumption) | (with_reducible exact Ext.rfl' _) | (with_reducible exact Ext.new _ _) | (with_reducible refine Ext.alloc' ?_ _) | (with_reducible refine Ext.drew' ?_) | (with_reducible refine Ext.drewN' ?_ _) | (with_reducible refine Ext.set' ?_ ?_ _; rotate_left; (focus (first | omega | (simp; done) | (simp; omega)))) | (with_reducible refine Ext.then (b := ?_) ?_ ?_; rotate_left; rotate_left; (with_reducible assumption))))))); (try simp only [List.nil_append, List.cons_append]))
          (refine walkI_is (u := ?_) rfl (by simp) rfl ?_ ?_; rotate_left; (focus (intro A w' hS hA K hK; (simp only [List.map_cons, List.map_nil, knows, Is, Op.operands, Call.operands, List.lookup_cons, List.lookup_nil, Nat.reduceBEq, Bool.false_eq_true, if_false, if_true, Act.eval, Array.getD_eq_getD_getElem?, List.getElem?_toArray, List.getElem?_cons_succ, List.getElem?_cons_zero, Option.getD_some, and_true, true_and, List.append_toArray, List.nil_append, List.cons_append, List.toList_toArray, Array.toList_append, Option.toArray, List.append_nil] at hA); first | fail | (obtain ⟨hSc, hSf, hSs⟩ := hS.cells; go_simp; exact hK _ (by repeat (first | (with_reducible assumption) | (with_reducible exact Ext.rfl' _) | (with_reducible exact Ext.new _ _) | (with_reducible refine Ext.alloc' ?_ _) | (with_reducible refine Ext.drew' ?_) | (with_reducible refine Ext.drewN' ?_ _) | (with_reducible refine Ext.set' ?_ ?_ _; rotate_left; (focus (first | omega | (simp; done) | (simp; omega)))) | (with_reducible refine Ext.then (b := ?_) ?_ ?_; rotate_left; rotate_left; (with_reducible assumption))))))); (try simp only [List.nil_append, List.cons_append]))
          (refine walkI_is (u := ?_) rfl (by simp) rfl ?_ ?_; rotate_left; (focus (intro A w' hS hA K hK; (simp only [List.map_cons, List.map_nil, knows, Is, Op.operands, Call.operands, List.lookup_cons, List.lookup_nil, Nat.reduceBEq, Bool.false_eq_true, if_false, if_true, Act.eval, Array.getD_eq_getD_getElem?, List.getElem?_toArray, List.getElem?_cons_succ, List.getElem?_cons_zero, Option.getD_some, and_true, true_and, List.append_toArray, List.nil_append, List.cons_append, List.toList_toArray, Array.toList_append, Option.toArray, List.append_nil] at hA); first | fail | (obtain ⟨hSc, hSf, hSs⟩ := hS.cells; go_simp; exact hK _ (by repeat (first | (with_reducible assumption) | (with_reducible exact Ext.rfl' _) | (with_reducible exact Ext.new _ _) | (with_reducible refine Ext.alloc' ?_ _) | (with_reducible refine Ext.drew' ?_) | (with_reducible refine Ext.drewN' ?_ _) | (with_reducible refine Ext.set' ?_ ?_ _; rotate_left; (focus (first | omega | (simp; done) | (simp; omega)))) | (with_reducible refine Ext.then (b := ?_) ?_ ?_; rotate_left; rotate_left; (with_reducible assumption))))))); (try simp only [List.nil_append, List.cons_append]))
          (refine walkI_is (u := ?_) rfl (by simp) rfl ?_ ?_; rotate_left; (focus (intro A w' hS hA K hK; (simp only [List.map_cons, List.map_nil, knows, Is, Op.operands, Call.operands, List.lookup_cons, List.lookup_nil, Nat.reduceBEq, Bool.false_eq_true, if_false, if_true, Act.eval, Array.getD_eq_getD_getElem?, List.getElem?_toArray, List.getElem?_cons_succ, List.getElem?_cons_zero, Option.getD_some, and_true, true_and, List.append_toArray, List.nil_append, List.cons_append, List.toList_toArray, Array.toList_append, Option.toArray, List.append_nil] at hA); first | fail | (obtain ⟨hSc, hSf, hSs⟩ := hS.cells; go_simp; exact hK _ (by repeat (first | (with_reducible assumption) | (with_reducible exact Ext.rfl' _) | (with_reducible exact Ext.new _ _) | (with_reducible refine Ext.alloc' ?_ _) | (with_reducible refine Ext.drew' ?_) | (with_reducible refine Ext.drewN' ?_ _) | (with_reducible refine Ext.set' ?_ ?_ _; rotate_left; (focus (first | omega | (simp; done) | (simp; omega)))) | (with_reducible refine Ext.then (b := ?_) ?_ ?_; rotate_left; rotate_left; (with_reducible assumption))))))); (try simp only [List.nil_append, List.cons_append]))
          (refine walkI_is (u := ?_) rfl (by simp) rfl ?_ ?_; rotate_left; (focus (intro A w' hS hA K hK; (simp only [List.map_cons, List.map_nil, knows, Is, Op.operands, Call.operands, List.lookup_cons, List.lookup_nil, Nat.reduceBEq, Bool.false_eq_true, if_false, if_true, Act.eval, Array.getD_eq_getD_getElem?, List.getElem?_toArray, List.getElem?_cons_succ, List.getElem?_cons_zero, Option.getD_some, and_true, true_and, List.append_toArray, List.nil_append, List.cons_append, List.toList_toArray, Array.toList_append, Option.toArray, List.append_nil] at hA); first | fail | (obtain ⟨hSc, hSf, hSs⟩ := hS.cells; go_simp; exact hK _ (by repeat (first | (with_reducible assumption) | (with_reducible exact Ext.rfl' _) | (with_reducible exact Ext.new _ _) | (with_reducible refine Ext.alloc' ?_ _) | (with_reducible refine Ext.drew' ?_) | (with_reducible refine Ext.drewN' ?_ _) | (with_reducible refine Ext.set' ?_ ?_ _; rotate_left; (focus (first | omega | (simp; done) | (simp; omega)))) | (with_reducible refine Ext.then (b := ?_) ?_ ?_; rotate_left; rotate_left; (with_reducible assumption))))))); (try simp only [List.nil_append, List.cons_append]))
          (refine walkI_is (u := ?_) rfl (by simp) rfl ?_ ?_; rotate_left; (focus (intro A w' hS hA K hK; (simp only [List.map_cons, List.map_nil, knows, Is, Op.operands, Call.operands, List.lookup_cons, List.lookup_nil, Nat.reduceBEq, Bool.false_eq_true, if_false, if_true, Act.eval, Array.getD_eq_getD_getElem?, List.getElem?_toArray, List.getElem?_cons_succ, List.getElem?_cons_zero, Option.getD_some, and_true, true_and, List.append_toArray, List.nil_append, List.cons_append, List.toList_toArray, Array.toList_append, Option.toArray, List.append_nil] at hA); first | fail | (obtain ⟨hSc, hSf, hSs⟩ := hS.cells; go_simp; exact hK _ (by repeat (first | (with_reducible assumption) | (with_reducible exact Ext.rfl' _) | (with_reducible exact Ext.new _ _) | (with_reducible refine Ext.alloc' ?_ _) | (with_reducible refine Ext.drew' ?_) | (with_reducible refine Ext.drewN' ?_ _) | (with_reducible refine Ext.set' ?_ ?_ _; rotate_left; (focus (first | omega | (simp; done) | (simp; omega)))) | (with_reducible refine Ext.then (b := ?_) ?_ ?_; rotate_left; rotate_left; (with_reducible assumption))))))); (try simp only [List.nil_append, List.cons_append]))
          (refine walkI_is (u := ?_) rfl (by simp) rfl ?_ ?_; rotate_left; (focus (intro A w' hS hA K hK; (simp only [List.map_cons, List.map_nil, knows, Is, Op.operands, Call.operands, List.lookup_cons, List.lookup_nil, Nat.reduceBEq, Bool.false_eq_true, if_false, if_true, Act.eval, Array.getD_eq_getD_getElem?, List.getElem?_toArray, List.getElem?_cons_succ, List.getElem?_cons_zero, Option.getD_some, and_true, true_and, List.append_toArray, List.nil_append, List.cons_append, List.toList_toArray, Array.toList_append, Option.toArray, List.append_nil] at hA); first | fail | (obtain ⟨hSc, hSf, hSs⟩ := hS.cells; go_simp; exact hK _ (by repeat (first | (with_reducible assumption) | (with_reducible exact Ext.rfl' _) | (with_reducible exact Ext.new _ _) | (with_reducible refine Ext.alloc' ?_ _) | (with_reducible refine Ext.drew' ?_) | (with_reducible refine Ext.drewN' ?_ _) | (with_reducible refine Ext.set' ?_ ?_ _; rotate_left; (focus (first | omega | (simp; done) | (simp; omega)))) | (with_reducible refine Ext.then (b := ?_) ?_ ?_; rotate_left; rotate_left; (with_reducible assumption))))))); (try simp only [List.nil_append, List.cons_append]))
          (refine walkI_is (u := ?_) rfl (by simp) rfl ?_ ?_; rotate_left; (focus (intro A w' hS hA K hK; (simp only [List.map_cons, List.map_nil, knows, Is, Op.operands, Call.operands, List.lookup_cons, List.lookup_nil, Nat.reduceBEq, Bool.false_eq_true, if_false, if_true, Act.eval, Array.getD_eq_getD_getElem?, List.getElem?_toArray, List.getElem?_cons_succ, List.getElem?_cons_zero, Option.getD_some, and_true, true_and, List.append_toArray, List.nil_append, List.cons_append, List.toList_toArray, Array.toList_append, Option.toArray, List.append_nil] at hA); first | fail | (obtain ⟨hSc, hSf, hSs⟩ := hS.cells; go_simp; exact hK _ (by repeat (first | (with_reducible assumption) | (with_reducible exact Ext.rfl' _) | (with_reducible exact Ext.new _ _) | (with_reducible refine Ext.alloc' ?_ _) | (with_reducible refine Ext.drew' ?_) | (with_reducible refine Ext.drewN' ?_ _) | (with_reducible refine Ext.set' ?_ ?_ _; rotate_left; (focus (first | omega | (simp; done) | (simp; omega)))) | (with_reducible refine Ext.then (b := ?_) ?_ ?_; rotate_left; rotate_left; (with_reducible assumption))))))); (try simp only [List.nil_append, List.cons_append]))
          (refine walkI_is (u := ?_) rfl (by simp) rfl ?_ ?_; rotate_left; (focus (intro A w' hS hA K hK; (simp only [List.map_cons, List.map_nil, knows, Is, Op.operands, Call.operands, List.lookup_cons, List.lookup_nil, Nat.reduceBEq, Bool.false_eq_true, if_false, if_true, Act.eval, Array.getD_eq_getD_getElem?, List.getElem?_toArray, List.getElem?_cons_succ, List.getElem?_cons_zero, Option.getD_some, and_true, true_and, List.append_toArray, List.nil_append, List.cons_append, List.toList_toArray, Array.toList_append, Option.toArray, List.append_nil] at hA); first | fail | (obtain ⟨hSc, hSf, hSs⟩ := hS.cells; go_simp; exact hK _ (by repeat (first | (with_reducible assumption) | (with_reducible exact Ext.rfl' _) | (with_reducible exact Ext.new _ _) | (with_reducible refine Ext.alloc' ?_ _) | (with_reducible refine Ext.drew' ?_) | (with_reducible refine Ext.drewN' ?_ _) | (with_reducible refine Ext.set' ?_ ?_ _; rotate_left; (focus (first | omega | (simp; done) | (simp; omega)))) | (with_reducible refine Ext.then (b := ?_) ?_ ?_; rotate_left; rotate_left; (with_reducible assumption))))))); (try simp only [List.nil_append, List.cons_append]))
          (refine walkI_nil ?_; simp only [List.nil_append, List.cons_append, fins, Is, forall_eq, Act.put, List.setIfInBounds_toArray, List.set_cons_zero, List.set_cons_succ])
          intro w7 hx7
          have hM7 := hM6.ext hx7
          obtain ⟨g7, cap7, e7, f7, ⟨u7, c7⟩, l7, hM8⟩ := hM7.setAt 2 rfl r 0 (by omega) hbr.out (x' := br.take 18) (u := .slice (some ⟨g1, 0, none⟩) 18 q9) hLW.out
          simp only [Value.slice.injEq, Option.some.injEq, Addr.mk.injEq] at e7
          obtain ⟨⟨rfl, -⟩, -⟩ := e7
          rw [Nat.mul_one, Nat.add_zero] at f7 c7 hM8
          replace hM8 : Mem w noH (smL w.heap.size b5 (.slice (some ⟨gC, 0, none⟩) 12 c1) (.slice (some ⟨gB, 0, none⟩) 12 c2) cs6 (bs.set r (br.take 18))) H5 _ := hM8
          clear hM6 hM7 hx7 k1 k2 k3 kB l5 c5b hLW
          go_upto_region 20 with (fail)
          generalize w7.setCell _ _ = W8 at *
          have z4 : _ = some (Value.slice none 0 0) := (hM8.box 0 rfl).facts.1 0
          have z5 : _ = some (Value.slice none 0 0) := (hM8.box 0 rfl).facts.1 1
          have y4 := (hM8.box 0 rfl).facts.2 0
          have y5 := (hM8.box 0 rfl).facts.2 1
          have z6 : _ = some (Value.slice (some ⟨gC, 0, none⟩) 12 c1) := (hM8.box 3 rfl).facts.1 0
          have z7 : _ = some (Value.slice (some ⟨gB, 0, none⟩) 12 c2) := (hM8.box 3 rfl).facts.1 1
          have x5 : b5 < _ := hM8.lt (i := 3) rfl rfl
          have x4 : w.heap.size < _ := hM8.lt (i := 0) rfl rfl
          have hMz := (hM8.set 0 rfl 0 (Value.slice (some ⟨gC, 0, none⟩) 12 c1)).set 0 rfl 1 (Value.slice (some ⟨gB, 0, none⟩) 12 c2)
          simp only [List.set_cons_succ, List.set_cons_zero, List.setIfInBounds_toArray] at hMz
          have z0 : _ = some (Value.slice (some ⟨gC, 0, none⟩) 12 c1) := (hMz.box 0 rfl).facts.1 0
          have z1 : _ = some (Value.slice (some ⟨gB, 0, none⟩) 12 c2) := (hMz.box 0 rfl).facts.1 1
          go_wp2_with fail
          refine bodyPost_ret (v := .agg #[(Value.slice (some ⟨gC, 0, none⟩) 12 c1), (Value.slice (some ⟨gB, 0, none⟩) 12 c2)]) (by simp [results, Tryz.results6, go_sem, z0, z1]) rfl ?_
          exact ⟨_, (cs6, (bs.set r (br.take 18))), rfl, by have := hh6.out.1; dsimp only; omega, hMz.ex, ⟨_, _, rfl, hMz.rep 1 rfl, (hMz.rep 2 rfl).weaken fun _ _ h => h.lst⟩⟩
        · have b1 : (q / 12 % 23 == 1) = false := by simpa using s1
          by_cases s2 : q / 12 % 23 = 2
          · have b2 : (q / 12 % 23 == 2) = true := by simpa using s2
            clear s0 s1 s2
            obtain ⟨gB, g1, q9, ct, T, rfl, k1, k2, k3, k4, kB, k5, kR⟩ := sm_row hM6 r hr6 hh6.out.2.2
            have c5b : _ = some (Value.slice (some ⟨gB, 0, none⟩) 12 c2) := (hM6.box 3 rfl).facts.1 1
            have f5b := (hM6.box 3 rfl).facts.2 1
            have l5 : b5 < w6.heap.size := hM6.lt (i := 3) rfl rfl
            obtain ⟨cur, u1, u2, u3, u4⟩ := hM6.cur 2 rfl
            have hcut := hM6.cut 2 rfl u4 11 (by rw [hh6.out.2.1]; omega) u1 rfl rfl
            rw [setRow_self _ _ _ _ _ u1] at hcut
            have hM8 := hcut.set 3 rfl 1 (.slice (some ⟨gB, 0, none⟩) 11 c2)
            replace hM8 : Mem w noH (smL w.heap.size b5 (.slice (some ⟨gC, 0, none⟩) 12 c1) (.slice (some ⟨gB, 0, none⟩) 11 c2) cs6 (bs.take 11)) H5 _ := hM8
            have hc11 : 11 ≤ c2 := by have := hh6.out.2.1; omega
            have hc11i : (11 : Int) ≤ (c2 : Int) := by omega
            clear hM6 hcut k1 k2 k3 kB k4 k5 kR u1 u2 u3 u4
            go_upto_region 20 with (fail)
            generalize w6.setCell _ _ = W8 at *
            have z4 : _ = some (Value.slice none 0 0) := (hM8.box 0 rfl).facts.1 0
            have z5 : _ = some (Value.slice none 0 0) := (hM8.box 0 rfl).facts.1 1
            have y4 := (hM8.box 0 rfl).facts.2 0
            have y5 := (hM8.box 0 rfl).facts.2 1
            have z6 : _ = some (Value.slice (some ⟨gC, 0, none⟩) 12 c1) := (hM8.box 3 rfl).facts.1 0
            have z7 : _ = some (Value.slice (some ⟨gB, 0, none⟩) 11 c2) := (hM8.box 3 rfl).facts.1 1
            have x5 : b5 < _ := hM8.lt (i := 3) rfl rfl
            have x4 : w.heap.size < _ := hM8.lt (i := 0) rfl rfl
            have hMz := (hM8.set 0 rfl 0 (Value.slice (some ⟨gC, 0, none⟩) 12 c1)).set 0 rfl 1 (Value.slice (some ⟨gB, 0, none⟩) 11 c2)
            simp only [List.set_cons_succ, List.set_cons_zero, List.setIfInBounds_toArray] at hMz
            have z0 : _ = some (Value.slice (some ⟨gC, 0, none⟩) 12 c1) := (hMz.box 0 rfl).facts.1 0
            have z1 : _ = some (Value.slice (some ⟨gB, 0, none⟩) 11 c2) := (hMz.box 0 rfl).facts.1 1
            go_wp2_with fail
            refine bodyPost_ret (v := .agg #[(Value.slice (some ⟨gC, 0, none⟩) 12 c1), (Value.slice (some ⟨gB, 0, none⟩) 11 c2)]) (by simp [results, Tryz.results6, go_sem, z0, z1]) rfl ?_
            exact ⟨_, (cs6, (bs.take 11)), rfl, by have := hh6.out.1; dsimp only; omega, hMz.ex, ⟨_, _, rfl, hMz.rep 1 rfl, (hMz.rep 2 rfl).weaken fun _ _ h => h.lst⟩⟩
          · have b2 : (q / 12 % 23 == 2) = false := by simpa using s2
            by_cases s3 : q / 12 % 23 = 3
            · have b3 : (q / 12 % 23 == 3) = true := by simpa using s3
              clear s0 s1 s2 s3
              have c5a : _ = some (Value.slice (some ⟨gC, 0, none⟩) 12 c1) := (hM6.box 3 rfl).facts.1 0
              have l5 : b5 < w6.heap.size := hM6.lt (i := 3) rfl rfl
              have hM7 := hM6.ext (Ext.new w6 (.cells #[.slice none 0 0, .slice none 0 0] 53))
              have hS := Src.lit1 (w := w6.alloc (.cells #[.slice none 0 0, .slice none 0 0] 53)) (b := w6.heap.size) (sz := 2) (E := CalE) (H := H5) (x := (([], []) : Cal)) (cs := [.slice none 0 0, .slice none 0 0]) ⟨none, 0, 0, none, 0, 0, rfl, _, _, rfl, SliceRep.nil _ _ _, SliceRep.nil _ _ _⟩ rfl (fun j => by rw [(Proofs.YtcmdekhhclgdcaaGreatDoor.Own.new w6 #[.slice none 0 0, .slice none 0 0] 53).facts.1 j]; simp)
              have h12 := hh6.out.1
              go_upto_region 17 with (fail)
              go_wp2_with (first | (at_builtin; refine wpList_append_M 1 rfl _ _ 23 rfl Tryz.underlying23 infoRCal rfl rfl rfl hM7 rfl hS one_CalE (by simp; omega) (by simp; omega) ?e5))
              case e5 =>
                intro v8 w8 hM8
                obtain ⟨na, nc, rfl, -⟩ := hM8.form 1 rfl
                have c8 : _ = some (Value.slice (some ⟨gC, 0, none⟩) 12 c1) := (hM8.box 3 rfl).facts.1 0
                have f8 := (hM8.box 3 rfl).facts.2 0
                have l8 : b5 < w8.heap.size := hM8.lt (i := 3) rfl rfl
                have hM9 := hM8.set 3 rfl 0 (.slice na (cs6 ++ [([], [])] : List Cal).length nc)
                replace hM9 : Mem w noH (smL w.heap.size b5 (.slice na (cs6 ++ [([], [])] : List Cal).length nc) (.slice a2 12 c2) (cs6 ++ [([], [])]) bs) H5 _ := hM9
                have h13 : (cs6 ++ [([], [])] : List Cal).length = 13 := by simp [h12]
                rw [h13] at hM9
                simp only [h13]
                clear hM6 hM7 hM8 hS c5a l5
                go_upto_region 20 with (fail)
                generalize w8.setCell _ _ = W8 at *
                have z4 : _ = some (Value.slice none 0 0) := (hM9.box 0 rfl).facts.1 0
                have z5 : _ = some (Value.slice none 0 0) := (hM9.box 0 rfl).facts.1 1
                have y4 := (hM9.box 0 rfl).facts.2 0
                have y5 := (hM9.box 0 rfl).facts.2 1
                have z6 : _ = some (Value.slice na 13 nc) := (hM9.box 3 rfl).facts.1 0
                have z7 : _ = some (Value.slice a2 12 c2) := (hM9.box 3 rfl).facts.1 1
                have x5 : b5 < _ := hM9.lt (i := 3) rfl rfl
                have x4 : w.heap.size < _ := hM9.lt (i := 0) rfl rfl
                have hMz := (hM9.set 0 rfl 0 (Value.slice na 13 nc)).set 0 rfl 1 (Value.slice a2 12 c2)
                simp only [List.set_cons_succ, List.set_cons_zero, List.setIfInBounds_toArray] at hMz
                have z0 : _ = some (Value.slice na 13 nc) := (hMz.box 0 rfl).facts.1 0
                have z1 : _ = some (Value.slice a2 12 c2) := (hMz.box 0 rfl).facts.1 1
                go_wp2_with fail
                refine bodyPost_ret (v := .agg #[(Value.slice na 13 nc), (Value.slice a2 12 c2)]) (by simp [results, Tryz.results6, go_sem, z0, z1]) rfl ?_
                exact ⟨_, ((cs6 ++ [([], [])]), bs), rfl, by dsimp only; rw [h13]; omega, hMz.ex, ⟨_, _, rfl, hMz.rep 1 rfl, (hMz.rep 2 rfl).weaken fun _ _ h => h.lst⟩⟩
            · have b3 : (q / 12 % 23 == 3) = false := by simpa using s3
              by_cases s4 : q / 12 % 23 = 4
              · have b4 : (q / 12 % 23 == 4) = true := by simpa using s4
                clear s0 s1 s2 s3 s4
                have c5a : _ = some (Value.slice (some ⟨gC, 0, none⟩) 12 c1) := (hM6.box 3 rfl).facts.1 0
                have l5 : b5 < w6.heap.size := hM6.lt (i := 3) rfl rfl
                have hx7 := Ext.new w6 (.cells #[.int .i64 7] 3)
                have hM7 := hM6.up hx7
                have hlit : IntsR (up H5 w6 _) (.slice (some ⟨w6.heap.size, 0, none⟩) 1 1) [7] := (ints_own (zs := [7]) hx7 (Nat.le_refl _) (Proofs.YtcmdekhhclgdcaaGreatDoor.Own.new w6 #[.int .i64 7] 3) (by unfold I64; simp) (by simp)).mono mono_IntR (up_mono fun k o hk => by cases hk)
                have hCE : ∀ ds, CalE (up H5 w6 (w6.alloc (.cells #[.int .i64 7] 3))) ds cs6[r] → CalE (up H5 w6 (w6.alloc (.cells #[.int .i64 7] 3))) (ds.set 0 (.slice (some ⟨w6.heap.size, 0, none⟩) 1 1)) ([7], cs6[r].2) := by
                  rintro ds ⟨p, n, q, p', n', q', rfl, a, b, e, h1, h2⟩
                  cases e
                  exact ⟨some ⟨w6.heap.size, 0, none⟩, 1, 1, p', n', q', by simp, _, _, rfl, hlit, h2⟩
                replace hCE := Lib.hid hCE
                have hcr := Lib.hid (List.getElem?_eq_getElem hr6c)
                generalize cs6[r] = cr at *
                obtain ⟨g7, cap7, e7, f7, ⟨u7, c7⟩, l7, hM8⟩ := hM7.setAt 1 rfl r 0 (by omega) hcr.out (x' := ([7], cr.2)) (u := .slice (some ⟨w6.heap.size, 0, none⟩) 1 1) hCE.out
                simp only [Value.slice.injEq, Option.some.injEq, Addr.mk.injEq] at e7
                obtain ⟨⟨rfl, -⟩, -⟩ := e7
                rw [Nat.add_zero] at f7 c7 hM8
                replace hM8 : Mem w noH (smL w.heap.size b5 (.slice (some ⟨gC, 0, none⟩) 12 c1) (.slice a2 12 c2) (cs6.set r ([7], cr.2)) bs) _ _ := hM8
                rw [World.setCell_alloc_past _ _ _ _ lC6] at hM8
                generalize up H5 w6 _ = H7 at *
                clear hM6 hM7 hCE hlit hx7
                go_upto_region 20 with (fail)
                generalize (w6.setCell _ _).alloc _ = W8 at *
                have z4 : _ = some (Value.slice none 0 0) := (hM8.box 0 rfl).facts.1 0
                have z5 : _ = some (Value.slice none 0 0) := (hM8.box 0 rfl).facts.1 1
                have y4 := (hM8.box 0 rfl).facts.2 0
                have y5 := (hM8.box 0 rfl).facts.2 1
                have z6 : _ = some (Value.slice (some ⟨gC, 0, none⟩) 12 c1) := (hM8.box 3 rfl).facts.1 0
                have z7 : _ = some (Value.slice a2 12 c2) := (hM8.box 3 rfl).facts.1 1
                have x5 : b5 < _ := hM8.lt (i := 3) rfl rfl
                have x4 : w.heap.size < _ := hM8.lt (i := 0) rfl rfl
                have hMz := (hM8.set 0 rfl 0 (Value.slice (some ⟨gC, 0, none⟩) 12 c1)).set 0 rfl 1 (Value.slice a2 12 c2)
                simp only [List.set_cons_succ, List.set_cons_zero, List.setIfInBounds_toArray] at hMz
                have z0 : _ = some (Value.slice (some ⟨gC, 0, none⟩) 12 c1) := (hMz.box 0 rfl).facts.1 0
                have z1 : _ = some (Value.slice a2 12 c2) := (hMz.box 0 rfl).facts.1 1
                go_wp2_with fail
                refine bodyPost_ret (v := .agg #[(Value.slice (some ⟨gC, 0, none⟩) 12 c1), (Value.slice a2 12 c2)]) (by simp [results, Tryz.results6, go_sem, z0, z1]) rfl ?_
                exact ⟨_, ((cs6.set r ([7], cr.2)), bs), rfl, by have := hh6.out.1; dsimp only; rw [List.length_set]; omega, hMz.ex, ⟨_, _, rfl, hMz.rep 1 rfl, (hMz.rep 2 rfl).weaken fun _ _ h => h.lst⟩⟩
              · have b4 : (q / 12 % 23 == 4) = false := by simpa using s4
                clear s0 s1 s2 s3 s4
                have z4 : _ = some (Value.slice none 0 0) := (hM6.box 0 rfl).facts.1 0
                have z5 : _ = some (Value.slice none 0 0) := (hM6.box 0 rfl).facts.1 1
                have y4 := (hM6.box 0 rfl).facts.2 0
                have y5 := (hM6.box 0 rfl).facts.2 1
                have z6 : _ = some (Value.slice (some ⟨gC, 0, none⟩) 12 c1) := (hM6.box 3 rfl).facts.1 0
                have z7 : _ = some (Value.slice a2 12 c2) := (hM6.box 3 rfl).facts.1 1
                have x5 : b5 < _ := hM6.lt (i := 3) rfl rfl
                have x4 : w.heap.size < _ := hM6.lt (i := 0) rfl rfl
                have hMz := (hM6.set 0 rfl 0 (Value.slice (some ⟨gC, 0, none⟩) 12 c1)).set 0 rfl 1 (Value.slice a2 12 c2)
                simp only [List.set_cons_succ, List.set_cons_zero, List.setIfInBounds_toArray] at hMz
                have z0 : _ = some (Value.slice (some ⟨gC, 0, none⟩) 12 c1) := (hMz.box 0 rfl).facts.1 0
                have z1 : _ = some (Value.slice a2 12 c2) := (hMz.box 0 rfl).facts.1 1
                go_wp2_with fail
                refine bodyPost_ret (v := .agg #[(Value.slice (some ⟨gC, 0, none⟩) 12 c1), (Value.slice a2 12 c2)]) (by simp [results, Tryz.results6, go_sem, z0, z1]) rfl ?_
                exact ⟨_, (cs6, bs), rfl, by have := hh6.out.1; dsimp only; omega, hMz.ex, ⟨_, _, rfl, hMz.rep 1 rfl, (hMz.rep 2 rfl).weaken fun _ _ h => h.lst⟩⟩
end Go.Proofs.YtcmdekhhclgdcaaGreatDoor
