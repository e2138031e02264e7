/- TermBreaks: the walk. -/
import Derived.Test.YtcmdekhhclgdcaaDoorTLives
namespace Go.Proofs.YtcmdekhhclgdcaaDoor
open Go.RowKit Go.Shelf
set_option linter.unusedSimpArgs false
set_option linter.unusedVariables false
attribute [local go_sem] eqIv_run
def BrkV (te : Int) (file : Int) (xs : List Ac) (v : Value) (w' : World) : Prop := ∃ a c l, v = .tuple #[.slice a l.length c, .int .i64 te] ∧ IvsR (ph w') (.slice a l.length c) l ∧ (te = 0 → BrkOk file xs l) ∧ (te ≠ 0 → l = [])
def IvV (te : Int) (file : Int) (xs : List Ac) (v : Value) (w' : World) : Prop := ∃ a c l, v = .slice a l.length c ∧ IvsR (ph w') (.slice a l.length c) l ∧ (te = 0 → BrkOk file xs l) ∧ (te ≠ 0 → l = [])
theorem BrkV.keep {te file : Int} {xs : List Ac} {v : Value} {a b : World} (h : BrkV te file xs v a) (e : Ext a b) : BrkV te file xs v b := by
  obtain ⟨p, c, l, h1, h2, h3⟩ := h
  exact ⟨p, c, l, h1, h2.mono mono_IvR e.ple, h3⟩
theorem IvV.keep {te file : Int} {xs : List Ac} {v : Value} {a b : World} (h : IvV te file xs v a) (e : Ext a b) : IvV te file xs v b := by
  obtain ⟨p, c, l, h1, h2, h3⟩ := h
  exact ⟨p, c, l, h1, h2.mono mono_IvR e.ple, h3⟩
set_option maxRecDepth 100000 in
set_option maxHeartbeats 4000000 in
theorem termBreaks_c (l : List Int) (vl : Value) (from' file how by' : Int) (w : World) (hl : IntsR (ph w) vl l) (hf : I64 from') (hfi : I64 file) (hh : I64 how) (hb : I64 by') (hV : VL (ph w)) :
    Calls Tryd.prog 3 #[vl, .int .i64 from', .int .i64 file, .int .i64 how, .int .i64 by'] w (RetV w (.bool true)) := by
  have har := around_c from' 131073 w hf (by omega) (by omega)
  obtain ⟨d0, d1⟩ := aroundV_range (m := 131073) hf (by omega)
  generalize aroundV from' 131073 = d at *
  have hac := fun w hl => acts_c l vl d 10 w hl d0 (by omega) (by omega)
  obtain ⟨la, lc, rfl, llen, hl⟩ := hl.form
  go_enter Tryd.func3, Tryd.ntmps3
  go_wp2_with fail
  refine RetV_at har ?_
  intro w1 hx1
  go_wp2_with fail
  refine (hac _ (hl.mono mono_IntR hx1.ple)).mono ?_
  rintro e w2 ⟨v1, xs1, rfl, hx2, hl1, ho1⟩
  have hA1 := ho1.rep mono_ActR (noH_le _)
  have hxl1 : xs1.length ≤ 10 := by omega
  clear ho1 hac har hl1
  obtain ⟨p1, c1, rfl, -⟩ := hA1.form
  have hxw2 := hx1.then hx2
  go_wp2_with fail
  refine (bent_c xs1 _ how by' w2 hA1 (by omega) hh hb).mono ?_
  rintro e w3 ⟨v2, xs2, rfl, hx3, hl2, ho2⟩
  have hA2 := ho2.rep mono_ActR (noH_le _)
  replace hA1 := hA1.mono mono_ActR hx3.ple
  clear ho2
  obtain ⟨p2, c2, rfl, -⟩ := hA2.form
  have hxw3 := hxw2.then hx3
  have hO := (Proofs.YtcmdekhhclgdcaaDoor.Own.new w3 #[.slice p1 xs1.length c1, .slice p2 xs2.length c2, .slice none 0 0] 24).alloc (.cells #[.int .i64 0, .int .i64 1, .int .i64 file] 3)
  have hP : Proofs.YtcmdekhhclgdcaaDoor.Own ((w3.alloc (.cells #[.slice p1 xs1.length c1, .slice p2 xs2.length c2, .slice none 0 0] 24)).alloc (.cells #[.int .i64 0, .int .i64 1, .int .i64 file] 3)) (w3.heap.size + 1) #[.int .i64 0, .int .i64 1, .int .i64 file] 3 := Proofs.YtcmdekhhclgdcaaDoor.Own.new' _ _ _ (by simp)
  have hxW : Ext w3 ((w3.alloc (.cells #[.slice p1 xs1.length c1, .slice p2 xs2.length c2, .slice none 0 0] 24)).alloc (.cells #[.int .i64 0, .int .i64 1, .int .i64 file] 3)) := (by repeat (first | (with_reducible assumption) | (with_reducible exact Ext.rfl' _) | (with_reducible exact Ext.new _ _) | (with_reducible refine Ext.alloc' ?_ _) | (with_reducible refine Ext.drew' ?_) | (with_reducible refine Ext.drewN' ?_ _) | (with_reducible refine Ext.set' ?_ ?_ _; rotate_left; (focus (first | omega | (simp; done) | (simp; omega)))) | (with_reducible refine Ext.then (b := ?_) ?_ ?_; rotate_left; rotate_left; (with_reducible assumption))))
  go_upto_region 5 with (fail)
  generalize (w3.alloc _).alloc _ = W at *
  have hxW0 := hxw3.then hxW
  have hacts : Hid (∀ i : Nat, i < 3 → ∃ p c xs, W.cell? ⟨w3.heap.size, i, none⟩ = some (.slice p (List.length xs) c) ∧ ActsR (ph W) (.slice p xs.length c) xs ∧ xs.length ≤ 100) := by
    intro i hi
    have h := hO.facts.1 i
    match i, hi with
    | 0, _ => exact ⟨_, _, xs1, h, hA1.mono mono_ActR hxW.ple, by omega⟩
    | 1, _ => exact ⟨_, _, xs2, h, hA2.mono mono_ActR hxW.ple, by omega⟩
    | 2, _ => exact ⟨_, _, [], h, SliceRep.nil _ _ _, by simp⟩
  have hfile : Hid (∀ i : Nat, i < 3 → ∃ f, W.cell? ⟨w3.heap.size + 1, i, none⟩ = some (.int .i64 f)) := by
    intro i hi
    have h := hP.facts.1 i
    match i, hi with
    | 0, _ => exact ⟨_, h⟩
    | 1, _ => exact ⟨_, h⟩
    | 2, _ => exact ⟨_, h⟩
  have g1 : w3.heap.size + 1 < W.heap.size := hP.lt
  have g0 : w3.heap.size < W.heap.size := hO.lt
  have hVW := hV.mono hxW0.ple
  clear hO hP hA1 hA2 hxW hxw3 hxw2 hx3 hx2 hx1 hl hV
  go_wp2_with fail
  go_loopw [15] (fun i wr => ∃ n : Nat, n ≤ 3 ∧ i = .int .i64 n ∧ Ext W wr) (fun i _ => 3 - (intOf i).toNat)
  case atStart => exact ⟨0, by omega, rfl, Ext.rfl' _⟩
  case round =>
    obtain ⟨n, hn, rfl, hxn⟩ := hrel
    by_cases hn3 : n < 3
    · have hn3' : (n : Int) < 3 := by omega
      obtain ⟨pa, ca, xs, cA, hA, hxl⟩ := hacts.out n hn3
      go_wp2_with fail
      go_loopw [16] (fun i w2 => ∃ m : Nat, m ≤ 3 ∧ i = .int .i64 m ∧ Ext W w2) (fun i _ => 3 - (intOf i).toNat)
      case atStart => exact ⟨0, by omega, rfl, hxn⟩
      case round =>
        obtain ⟨m, hm, rfl, hxm⟩ := hrel
        by_cases hm3 : m < 3
        · have hm3' : (m : Int) < 3 := by omega
          obtain ⟨f, cF⟩ := hfile.out m hm3
          have hAm := hA.mono mono_ActR hxm.ple
          replace cA := hxm.cell1 cA
          replace cF := hxm.cell1 cF
          have gA := Nat.lt_of_lt_of_le g0 hxm.size
          have gF := Nat.lt_of_lt_of_le g1 hxm.size
          have hbr := fun w (hx : Ext wr w) => breaks_c f xs _ w (hAm.mono mono_ActR hx.ple) (by omega)
          have hck := fun w (hx : Ext wr w) => rtcheck_c f xs _ w (hAm.mono mono_ActR hx.ple)
          have hrb := fun w (hx : Ext wr w) (h : tchk f xs = 0) => rbreaks_c f xs _ w (hAm.mono mono_ActR hx.ple) (by omega) h
          unfold BrkP at hbr
          unfold RBrkP at hrb
          generalize tchk f xs = te at *
          replace hrb := Lib.hid hrb
          replace hbr := Lib.hid hbr
          go_upto_region 11 with (fail)
          (refine wp_region_I 13 (by kernel_rfl) (by kernel_rfl) ?_; simp only [List.toList_toArray, List.take_succ_cons, List.take_zero, List.drop_succ_cons, List.drop_zero])
          (repeat (first | (refine walkI_no rfl (by simp) rfl rfl rfl ?_ ?_; (focus (simp [undef]; done)); (try simp only [List.nil_append, List.cons_append])) | (refine walkI_is (u := ?_) rfl (by simp) rfl ?_ ?_; rotate_left; (focus (intro A w' hS hA K hK; (simp only [List.map_cons, List.map_nil, knows, Is, Op.operands, Call.operands, List.lookup_cons, List.lookup_nil, Nat.reduceBEq, Bool.false_eq_true, if_false, if_true, Act.eval, Array.getD_eq_getD_getElem?, List.getElem?_toArray, List.getElem?_cons_succ, List.getElem?_cons_zero, Option.getD_some, and_true, true_and, List.append_toArray, List.nil_append, List.cons_append, List.toList_toArray, Array.toList_append, Option.toArray, List.append_nil] at hA); first | fail | (obtain ⟨hSc, hSf, hSs⟩ := hS.cells; go_simp; exact hK _ (by repeat (first | (with_reducible assumption) | (with_reducible exact Ext.rfl' _) | (with_reducible exact Ext.new _ _) | (with_reducible refine Ext.alloc' ?_ _) | (with_reducible refine Ext.drew' ?_) | (with_reducible refine Ext.drewN' ?_ _) | (with_reducible refine Ext.set' ?_ ?_ _; rotate_left; (focus (first | omega | (simp; done) | (simp; omega)))) | (with_reducible refine Ext.then (b := ?_) ?_ ?_; rotate_left; rotate_left; (with_reducible assumption))))))); (try simp only [List.nil_append, List.cons_append])) | (refine walkI_yesis (u := ?_) rfl (by simp) rfl rfl rfl ?_ ?_; rotate_left; (focus (intro A w' hS hA K hK; (simp only [List.map_cons, List.map_nil, knows, Is, Op.operands, Call.operands, List.lookup_cons, List.lookup_nil, Nat.reduceBEq, Bool.false_eq_true, if_false, if_true, Act.eval, Array.getD_eq_getD_getElem?, List.getElem?_toArray, List.getElem?_cons_succ, List.getElem?_cons_zero, Option.getD_some, and_true, true_and, List.append_toArray, List.nil_append, List.cons_append, List.toList_toArray, Array.toList_append, Option.toArray, List.append_nil] at hA); first | fail | (obtain ⟨hSc, hSf, hSs⟩ := hS.cells; go_simp; exact hK _ (by repeat (first | (with_reducible assumption) | (with_reducible exact Ext.rfl' _) | (with_reducible exact Ext.new _ _) | (with_reducible refine Ext.alloc' ?_ _) | (with_reducible refine Ext.drew' ?_) | (with_reducible refine Ext.drewN' ?_ _) | (with_reducible refine Ext.set' ?_ ?_ _; rotate_left; (focus (first | omega | (simp; done) | (simp; omega)))) | (with_reducible refine Ext.then (b := ?_) ?_ ?_; rotate_left; rotate_left; (with_reducible assumption))))))); (try simp only [List.nil_append, List.cons_append]))))
          (refine walkI_step (BrkV te f xs) rfl (by simp) rfl (fun v a b hx h hy => h.keep hy) ?_ ?_; (focus (intro A w' hS hA K hK; (simp only [List.map_cons, List.map_nil, knows, Is, Op.operands, Call.operands, List.lookup_cons, List.lookup_nil, Nat.reduceBEq, Bool.false_eq_true, if_false, if_true, Act.eval, Array.getD_eq_getD_getElem?, List.getElem?_toArray, List.getElem?_cons_succ, List.getElem?_cons_zero, Option.getD_some, and_true, true_and, List.append_toArray, List.nil_append, List.cons_append, List.toList_toArray, Array.toList_append, Option.toArray, List.append_nil] at hA); (go_simp; refine (hbr.out w' hS).mono ?_; rintro e w6 ⟨va, la, rfl, h4, h5, h6, h7⟩; obtain ⟨p, c, rfl, -⟩ := h5.form; exact hK _ _ h4 ⟨_, _, la, rfl, h5, h6, fun h => (h7 h).2⟩))); (try simp only [List.nil_append, List.cons_append]))
          (refine walkI_step (BrkV te f xs) rfl (by simp) rfl (fun v a b hx h hy => h.keep hy) ?_ ?_; (focus (intro A w' hS hA K hK; (simp only [List.map_cons, List.map_nil, knows, Is, Op.operands, Call.operands, List.lookup_cons, List.lookup_nil, Nat.reduceBEq, Bool.false_eq_true, if_false, if_true, Act.eval, Array.getD_eq_getD_getElem?, List.getElem?_toArray, List.getElem?_cons_succ, List.getElem?_cons_zero, Option.getD_some, and_true, true_and, List.append_toArray, List.nil_append, List.cons_append, List.toList_toArray, Array.toList_append, Option.toArray, List.append_nil] at hA); (go_simp; exact hK _ _ (Ext.rfl' _) hA))); (try simp only [List.nil_append, List.cons_append]))
          (refine walkI_step (IvV te f xs) rfl (by simp) rfl (fun v a b hx h hy => h.keep hy) ?_ ?_; (focus (intro A w' hS hA K hK; (simp only [List.map_cons, List.map_nil, knows, Is, Op.operands, Call.operands, List.lookup_cons, List.lookup_nil, Nat.reduceBEq, Bool.false_eq_true, if_false, if_true, Act.eval, Array.getD_eq_getD_getElem?, List.getElem?_toArray, List.getElem?_cons_succ, List.getElem?_cons_zero, Option.getD_some, and_true, true_and, List.append_toArray, List.nil_append, List.cons_append, List.toList_toArray, Array.toList_append, Option.toArray, List.append_nil] at hA); (obtain ⟨a, c, l, h1, h2⟩ := hA; go_simp; exact hK _ _ (Ext.rfl' _) ⟨a, c, l, rfl, h2⟩))); (try simp only [List.nil_append, List.cons_append]))
          (refine walkI_is (u := ?_) rfl (by simp) rfl ?_ ?_; rotate_left; (focus (intro A w' hS hA K hK; (simp only [List.map_cons, List.map_nil, knows, Is, Op.operands, Call.operands, List.lookup_cons, List.lookup_nil, Nat.reduceBEq, Bool.false_eq_true, if_false, if_true, Act.eval, Array.getD_eq_getD_getElem?, List.getElem?_toArray, List.getElem?_cons_succ, List.getElem?_cons_zero, Option.getD_some, and_true, true_and, List.append_toArray, List.nil_append, List.cons_append, List.toList_toArray, Array.toList_append, Option.toArray, List.append_nil] at hA); first | (obtain ⟨a, c, l, h1, h2⟩ := hA; go_simp; exact hK _ (Ext.rfl' _)) | (obtain ⟨hSc, hSf, hSs⟩ := hS.cells; go_simp; exact hK _ (by repeat (first | (with_reducible assumption) | (with_reducible exact Ext.rfl' _) | (with_reducible exact Ext.new _ _) | (with_reducible refine Ext.alloc' ?_ _) | (with_reducible refine Ext.drew' ?_) | (with_reducible refine Ext.drewN' ?_ _) | (with_reducible refine Ext.set' ?_ ?_ _; rotate_left; (focus (first | omega | (simp; done) | (simp; omega)))) | (with_reducible refine Ext.then (b := ?_) ?_ ?_; rotate_left; rotate_left; (with_reducible assumption))))))); (try simp only [List.nil_append, List.cons_append]))
          (refine walkI_step (IvV te f xs) rfl (by simp) rfl (fun v a b hx h hy => h.keep hy) ?_ ?_; (focus (intro A w' hS hA K hK; (simp only [List.map_cons, List.map_nil, knows, Is, Op.operands, Call.operands, List.lookup_cons, List.lookup_nil, Nat.reduceBEq, Bool.false_eq_true, if_false, if_true, Act.eval, Array.getD_eq_getD_getElem?, List.getElem?_toArray, List.getElem?_cons_succ, List.getElem?_cons_zero, Option.getD_some, and_true, true_and, List.append_toArray, List.nil_append, List.cons_append, List.toList_toArray, Array.toList_append, Option.toArray, List.append_nil] at hA); (go_simp; exact hK _ _ (Ext.rfl' _) hA))); (try simp only [List.nil_append, List.cons_append]))
          (refine walkI_nil ?_; simp only [List.nil_append, List.cons_append, fins, Is, forall_eq, Act.put, List.setIfInBounds_toArray, List.set_cons_zero, List.set_cons_succ])
          rintro w5 hx5 v52 - v43 - v53 - v17 ⟨xp, xcp, lx, rfl, hX, hok, hnil⟩
          have cA5 := hx5.cell1 cA
          have cF5 := hx5.cell1 cF
          have gA5 := Nat.lt_of_lt_of_le gA hx5.size
          have gF5 := Nat.lt_of_lt_of_le gF hx5.size
          go_upto_region 12 with (fail)
          clear cA cF gA gF
          (refine wp_region_I 9 (by kernel_rfl) (by kernel_rfl) ?_; simp only [List.toList_toArray, List.take_succ_cons, List.take_zero, List.drop_succ_cons, List.drop_zero])
          (repeat (first | (refine walkI_no rfl (by simp) rfl rfl rfl ?_ ?_; (focus (simp [undef]; done)); (try simp only [List.nil_append, List.cons_append])) | (refine walkI_is (u := ?_) rfl (by simp) rfl ?_ ?_; rotate_left; (focus (intro A w' hS hA K hK; (simp only [List.map_cons, List.map_nil, knows, Is, Op.operands, Call.operands, List.lookup_cons, List.lookup_nil, Nat.reduceBEq, Bool.false_eq_true, if_false, if_true, Act.eval, Array.getD_eq_getD_getElem?, List.getElem?_toArray, List.getElem?_cons_succ, List.getElem?_cons_zero, Option.getD_some, and_true, true_and, List.append_toArray, List.nil_append, List.cons_append, List.toList_toArray, Array.toList_append, Option.toArray, List.append_nil] at hA); first | (go_simp; refine RetV_at (hck w' (hx5.then hS)) ?_; intro w6 hx6; exact hK _ hx6) | (obtain ⟨hSc, hSf, hSs⟩ := hS.cells; go_simp; exact hK _ (by repeat (first | (with_reducible assumption) | (with_reducible exact Ext.rfl' _) | (with_reducible exact Ext.new _ _) | (with_reducible refine Ext.alloc' ?_ _) | (with_reducible refine Ext.drew' ?_) | (with_reducible refine Ext.drewN' ?_ _) | (with_reducible refine Ext.set' ?_ ?_ _; rotate_left; (focus (first | omega | (simp; done) | (simp; omega)))) | (with_reducible refine Ext.then (b := ?_) ?_ ?_; rotate_left; rotate_left; (with_reducible assumption))))))); (try simp only [List.nil_append, List.cons_append])) | (refine walkI_yesis (u := ?_) rfl (by simp) rfl rfl rfl ?_ ?_; rotate_left; (focus (intro A w' hS hA K hK; (simp only [List.map_cons, List.map_nil, knows, Is, Op.operands, Call.operands, List.lookup_cons, List.lookup_nil, Nat.reduceBEq, Bool.false_eq_true, if_false, if_true, Act.eval, Array.getD_eq_getD_getElem?, List.getElem?_toArray, List.getElem?_cons_succ, List.getElem?_cons_zero, Option.getD_some, and_true, true_and, List.append_toArray, List.nil_append, List.cons_append, List.toList_toArray, Array.toList_append, Option.toArray, List.append_nil] at hA); first | (go_simp; refine RetV_at (hck w' (hx5.then hS)) ?_; intro w6 hx6; exact hK _ hx6) | (obtain ⟨hSc, hSf, hSs⟩ := hS.cells; go_simp; exact hK _ (by repeat (first | (with_reducible assumption) | (with_reducible exact Ext.rfl' _) | (with_reducible exact Ext.new _ _) | (with_reducible refine Ext.alloc' ?_ _) | (with_reducible refine Ext.drew' ?_) | (with_reducible refine Ext.drewN' ?_ _) | (with_reducible refine Ext.set' ?_ ?_ _; rotate_left; (focus (first | omega | (simp; done) | (simp; omega)))) | (with_reducible refine Ext.then (b := ?_) ?_ ?_; rotate_left; rotate_left; (with_reducible assumption))))))); (try simp only [List.nil_append, List.cons_append]))))
          (refine walkI_nil ?_; simp only [List.nil_append, List.cons_append, fins, Is, forall_eq, Act.put, List.setIfInBounds_toArray, List.set_cons_zero, List.set_cons_succ])
          rintro w6 hx6
          have hx7 := hx5.then hx6
          by_cases h0 : te = 0
          · subst h0
            have hok := hok rfl
            have cA6 := hx6.cell1 cA5
            have cF6 := hx6.cell1 cF5
            have gA6 := Nat.lt_of_lt_of_le gA5 hx6.size
            have gF6 := Nat.lt_of_lt_of_le gF5 hx6.size
            clear cA5 cF5 gA5 gF5 hbr hck hnil
            go_upto_region 18 with (fail)
            (refine wp_region_I 9 (by kernel_rfl) (by kernel_rfl) ?_; simp only [List.toList_toArray, List.take_succ_cons, List.take_zero, List.drop_succ_cons, List.drop_zero])
            (repeat (first | (refine walkI_no rfl (by simp) rfl rfl rfl ?_ ?_; (focus (simp [undef]; done)); (try simp only [List.nil_append, List.cons_append])) | (refine walkI_is (u := ?_) rfl (by simp) rfl ?_ ?_; rotate_left; (focus (intro A w' hS hA K hK; (simp only [List.map_cons, List.map_nil, knows, Is, Op.operands, Call.operands, List.lookup_cons, List.lookup_nil, Nat.reduceBEq, Bool.false_eq_true, if_false, if_true, Act.eval, Array.getD_eq_getD_getElem?, List.getElem?_toArray, List.getElem?_cons_succ, List.getElem?_cons_zero, Option.getD_some, and_true, true_and, List.append_toArray, List.nil_append, List.cons_append, List.toList_toArray, Array.toList_append, Option.toArray, List.append_nil] at hA); first | fail | (obtain ⟨hSc, hSf, hSs⟩ := hS.cells; go_simp; exact hK _ (by repeat (first | (with_reducible assumption) | (with_reducible exact Ext.rfl' _) | (with_reducible exact Ext.new _ _) | (with_reducible refine Ext.alloc' ?_ _) | (with_reducible refine Ext.drew' ?_) | (with_reducible refine Ext.drewN' ?_ _) | (with_reducible refine Ext.set' ?_ ?_ _; rotate_left; (focus (first | omega | (simp; done) | (simp; omega)))) | (with_reducible refine Ext.then (b := ?_) ?_ ?_; rotate_left; rotate_left; (with_reducible assumption))))))); (try simp only [List.nil_append, List.cons_append])) | (refine walkI_yesis (u := ?_) rfl (by simp) rfl rfl rfl ?_ ?_; rotate_left; (focus (intro A w' hS hA K hK; (simp only [List.map_cons, List.map_nil, knows, Is, Op.operands, Call.operands, List.lookup_cons, List.lookup_nil, Nat.reduceBEq, Bool.false_eq_true, if_false, if_true, Act.eval, Array.getD_eq_getD_getElem?, List.getElem?_toArray, List.getElem?_cons_succ, List.getElem?_cons_zero, Option.getD_some, and_true, true_and, List.append_toArray, List.nil_append, List.cons_append, List.toList_toArray, Array.toList_append, Option.toArray, List.append_nil] at hA); first | fail | (obtain ⟨hSc, hSf, hSs⟩ := hS.cells; go_simp; exact hK _ (by repeat (first | (with_reducible assumption) | (with_reducible exact Ext.rfl' _) | (with_reducible exact Ext.new _ _) | (with_reducible refine Ext.alloc' ?_ _) | (with_reducible refine Ext.drew' ?_) | (with_reducible refine Ext.drewN' ?_ _) | (with_reducible refine Ext.set' ?_ ?_ _; rotate_left; (focus (first | omega | (simp; done) | (simp; omega)))) | (with_reducible refine Ext.then (b := ?_) ?_ ?_; rotate_left; rotate_left; (with_reducible assumption))))))); (try simp only [List.nil_append, List.cons_append]))))
            (refine walkI_step (IvV 0 f xs) rfl (by simp) rfl (fun v a b hx h hy => h.keep hy) ?_ ?_; (focus (intro A w' hS hA K hK; (simp only [List.map_cons, List.map_nil, knows, Is, Op.operands, Call.operands, List.lookup_cons, List.lookup_nil, Nat.reduceBEq, Bool.false_eq_true, if_false, if_true, Act.eval, Array.getD_eq_getD_getElem?, List.getElem?_toArray, List.getElem?_cons_succ, List.getElem?_cons_zero, Option.getD_some, and_true, true_and, List.append_toArray, List.nil_append, List.cons_append, List.toList_toArray, Array.toList_append, Option.toArray, List.append_nil] at hA); (go_simp; refine (hrb.out w' (hx7.then hS) rfl).mono ?_; rintro e w8 ⟨va, la, rfl, h4, h5, h6⟩; obtain ⟨p, c, rfl, -⟩ := h5.form; exact hK _ _ h4 ⟨_, _, la, rfl, h5, fun _ => h6, fun h => absurd rfl h⟩))); (try simp only [List.nil_append, List.cons_append]))
            (refine walkI_nil ?_; simp only [List.nil_append, List.cons_append, fins, Is, forall_eq, Act.put, List.setIfInBounds_toArray, List.set_cons_zero, List.set_cons_succ])
            rintro w8 hx8 v80 ⟨yp, ycp, ly, rfl, hY, hok2, -⟩
            obtain rfl := hok.uniq (hok2 rfl)
            have hx9 := hx7.then hx8
            replace hX := hX.mono mono_IvR (hx6.then hx8).ple
            have hlb := hok.2.2.2
            clear hok hok2 hrb cA6 cF6 gA6 gF6
            go_wp2_with fail
            go_loopw [21] (fun i wr2 => ∃ j : Nat, j ≤ lx.length ∧ i = .int .i64 j ∧ Ext w8 wr2) (fun i _ => lx.length - (intOf i).toNat)
            case atStart => exact ⟨0, by omega, rfl, Ext.rfl' _⟩
            case round =>
              obtain ⟨j, hj, rfl, hxj⟩ := hrel
              by_cases hjl : j < lx.length
              · obtain ⟨g1', o1', rfl, p0, p1, pg, -⟩ := IvsR.at (hX.mono mono_IvR hxj.ple) j hjl
                obtain ⟨g2', o2', rfl, r0, r1, rg, -⟩ := IvsR.at (hY.mono mono_IvR hxj.ple) j hjl
                have hja : decide (j < lx.length) = true := by simpa using hjl
                generalize lx[j] = x at *
                obtain ⟨x0, x1⟩ := x
                dsimp only at p0 p1 r0 r1
                clear hX hY hAm
                go_upto_region 24 with (fail)
                (refine wp_region_I 9 (by kernel_rfl) (by kernel_rfl) ?_; simp only [List.toList_toArray, List.take_succ_cons, List.take_zero, List.drop_succ_cons, List.drop_zero])
                (repeat (first | (refine walkI_no rfl (by simp) rfl rfl rfl ?_ ?_; (focus (simp [undef]; done)); (try simp only [List.nil_append, List.cons_append])) | (refine walkI_is (u := ?_) rfl (by simp) rfl ?_ ?_; rotate_left; (focus (intro A w' hS hA K hK; (simp only [List.map_cons, List.map_nil, knows, Is, Op.operands, Call.operands, List.lookup_cons, List.lookup_nil, Nat.reduceBEq, Bool.false_eq_true, if_false, if_true, Act.eval, Array.getD_eq_getD_getElem?, List.getElem?_toArray, List.getElem?_cons_succ, List.getElem?_cons_zero, Option.getD_some, and_true, true_and, List.append_toArray, List.nil_append, List.cons_append, List.toList_toArray, Array.toList_append, Option.toArray, List.append_nil] at hA); first | fail | (obtain ⟨hSc, hSf, hSs⟩ := hS.cells; go_simp; exact hK _ (by repeat (first | (with_reducible assumption) | (with_reducible exact Ext.rfl' _) | (with_reducible exact Ext.new _ _) | (with_reducible refine Ext.alloc' ?_ _) | (with_reducible refine Ext.drew' ?_) | (with_reducible refine Ext.drewN' ?_ _) | (with_reducible refine Ext.set' ?_ ?_ _; rotate_left; (focus (first | omega | (simp; done) | (simp; omega)))) | (with_reducible refine Ext.then (b := ?_) ?_ ?_; rotate_left; rotate_left; (with_reducible assumption))))))); (try simp only [List.nil_append, List.cons_append])) | (refine walkI_yesis (u := ?_) rfl (by simp) rfl rfl rfl ?_ ?_; rotate_left; (focus (intro A w' hS hA K hK; (simp only [List.map_cons, List.map_nil, knows, Is, Op.operands, Call.operands, List.lookup_cons, List.lookup_nil, Nat.reduceBEq, Bool.false_eq_true, if_false, if_true, Act.eval, Array.getD_eq_getD_getElem?, List.getElem?_toArray, List.getElem?_cons_succ, List.getElem?_cons_zero, Option.getD_some, and_true, true_and, List.append_toArray, List.nil_append, List.cons_append, List.toList_toArray, Array.toList_append, Option.toArray, List.append_nil] at hA); first | fail | (obtain ⟨hSc, hSf, hSs⟩ := hS.cells; go_simp; exact hK _ (by repeat (first | (with_reducible assumption) | (with_reducible exact Ext.rfl' _) | (with_reducible exact Ext.new _ _) | (with_reducible refine Ext.alloc' ?_ _) | (with_reducible refine Ext.drew' ?_) | (with_reducible refine Ext.drewN' ?_ _) | (with_reducible refine Ext.set' ?_ ?_ _; rotate_left; (focus (first | omega | (simp; done) | (simp; omega)))) | (with_reducible refine Ext.then (b := ?_) ?_ ?_; rotate_left; rotate_left; (with_reducible assumption))))))); (try simp only [List.nil_append, List.cons_append]))))
                (refine walkI_nil ?_; simp only [List.nil_append, List.cons_append, fins, Is, forall_eq, Act.put, List.setIfInBounds_toArray, List.set_cons_zero, List.set_cons_succ])
                rintro w9 hx10
                go_wp2_with fail
                go_roundw
                case rel => exact ⟨j + 1, by omega, rfl, hxj.then hx10⟩
                case measure => simp [intOf]; omega
              · have hja : decide (j < lx.length) = false := by simpa using hjl
                go_wp2_with fail
                go_roundw
                case rel => exact ⟨m + 1, by omega, rfl, (hxm.then hx9).then hxj⟩
                case measure => simp [intOf]; omega
          · obtain rfl := hnil h0
            have hb0 : (te != 0) = true := by rw [bne_iff_ne]; exact h0
            clear hok hnil h0 hrb hbr hck
            go_wp2_with fail
            go_roundw
            case rel => exact ⟨m + 1, by omega, rfl, hxm.then hx7⟩
            case measure => simp [intOf]; omega
        · have hm3' : ¬ (m : Int) < 3 := by omega
          go_wp2_with fail
          go_roundw
          case rel => exact ⟨n + 1, by omega, rfl, hxm⟩
          case measure => simp [intOf]; omega
    · have hn3' : ¬ (n : Int) < 3 := by omega
      have hlv := lives_c wr (hVW.mono hxn.ple)
      go_wp2_with fail
      refine RetV_at hlv ?_
      intro w5 hx5
      go_wp2_with fail
      go_ret
      exact ⟨rfl, (hxW0.then hxn).then hx5⟩
theorem termBreaksLaw (vl : Value) (l : List Int) (from' file how by' : Int) (w : World) (hl : IntsR (ph w) vl l) (hn : l.length ≤ 140737488355328) (hf : I64 from') (hfi : I64 file) (hh : I64 how) (hb : I64 by') (hV : VL (ph w)) :
    Calls Tryd.prog 3 #[vl, .int .i64 from', .int .i64 file, .int .i64 how, .int .i64 by'] w (RetV w (.bool true)) := termBreaks_c l vl from' file how by' w hl hf hfi hh hb hV
end Go.Proofs.YtcmdekhhclgdcaaDoor
