/- package civil: number. -/
import Derived.Test.YtcmdekhhclgdcaaDoorMonths
import Derived.Test.YtcmdekhhclgdcaaDoorCalmI
namespace Go.Proofs.YtcmdekhhclgdcaaDoor
open Go.RowKit Go.Shelf
set_option linter.unusedSimpArgs false
set_option linter.unusedVariables false
attribute [local go_sem] Oper.semAt_some
theorem RetP_cell {w w' : World} (h : Ext w w') {b o : Nat} {v : Value} (hc : w.cell? ⟨b, o, none⟩ = some v) : w'.cell? ⟨b, o, none⟩ = some v := h.cell1 hc
theorem dayM_372 (y : Int) (k : Fin 12) : 0 ≤ dayM y k.val ∧ dayM y k.val ≤ 341 := by
  have := dayM_ge y k.val
  have := k.isLt
  omega
theorem VL.lt {w : World} (v : VL (ph w)) : 1 < w.heap.size := by
  have h := v 0 _ rfl
  rw [← cell_ph] at h
  exact cell_lt h
theorem VL.below {n : Nat} {W W' : World} (v : VL (ph W)) (b : Below n W W') (hn : 1 < n) : VL (ph W') := by
  intro j u hu
  have h := v j u hu
  unfold cellAt ph at *
  rw [b.block 1 hn]; exact h
/-- what the loop of number adds -/
def accN (y : Int) (m : Nat) (s : Int) (pre : List (Fin 12)) : Int := pre.foldl (fun s k => if k.val + 1 = m then s + dayM y k.val else s) s
theorem accN_snoc (y : Int) (m : Nat) (s : Int) (pre : List (Fin 12)) (k : Fin 12) : accN y m s (pre ++ [k]) = if k.val + 1 = m then accN y m s pre + dayM y k.val else accN y m s pre := by simp [accN]
theorem accN_bd (y : Int) (m : Nat) (s : Int) : ∀ (pre : List (Fin 12)), s ≤ accN y m s pre ∧ accN y m s pre ≤ s + 341 * pre.length := by
  intro pre
  induction pre generalizing s with
  | nil => simp [accN]
  | cons k pre ih =>
    have h1 := dayM_372 y k
    simp only [accN, List.foldl_cons, List.length_cons]
    split
    · have := ih (s + dayM y k.val)
      unfold accN at this; omega
    · have := ih s
      unfold accN at this; omega
theorem accN_all (y : Int) (m : Nat) (s : Int) (h1 : 1 ≤ m) (h2 : m ≤ 12) : accN y m s (List.finRange 12) = s + dayM y (m - 1) := by
  have h : ∀ K, K ≤ 12 → accN y m s (monthsTo K) = if m ≤ K then s + dayM y (m - 1) else s := by
    intro K
    induction K with
    | zero => intro _; rw [if_neg (by omega)]; rfl
    | succ K ih =>
      intro hK
      rw [monthsTo_succ (by omega), accN_snoc, ih (by omega)]
      by_cases e : K + 1 = m
      · subst e
        rw [if_pos rfl, if_neg (by omega), if_pos (Nat.le_refl _)]; rfl
      · rw [if_neg e]
        by_cases h : m ≤ K
        · rw [if_pos h, if_pos (by omega)]
        · rw [if_neg h, if_neg (by omega)]
  rw [← monthsTo_all, h 12 (Nat.le_refl _), if_pos h2]
set_option maxRecDepth 100000 in
set_option maxHeartbeats 2000000 in
theorem number_in (y d : Int) (m : Nat) (w : World) (hV : VL (ph w)) (hy0 : 1 ≤ y) (hy1 : y ≤ 100000) (hm0 : 1 ≤ m) (hm1 : m ≤ 12) (hd0 : 0 ≤ d) (hd1 : d ≤ 1000) :
    CallsIn Fence.wide 5 Tryd.prog 64 #[.agg #[.int .i64 y, .int .i64 m, .int .i64 d]] w fun e W' => e = .returned (.int .i64 (numV y m d)) ∧ Below w.heap.size w W' := by
  have hb1 := bef_mono (a := 1) (b := y) hy0
  have hb2 := bef_up (a := 1) (b := y) hy0
  have hb3 : bef 1 = 0 := by unfold bef; omega
  have hb4 := bef1900
  have q1 : 0 ≤ bef y := by omega
  have q2 : bef y ≤ 36600000 := by omega
  have q3 : 693595 ≤ bef 1900 := by omega
  have q4 : bef 1900 ≤ 693595 := by omega
  clear hb1 hb2 hb3 hb4
  refine callsIn_of_wp_marks Tryd.func64 rfl trivial ?_ rfl
  simp only [Tryd.ntmps64, List.size_toArray, List.length_cons, List.length_nil, Nat.reduceAdd, Nat.reduceSub, Array.replicate_succ, Array.replicate_zero, List.push_toArray, List.append_toArray, List.nil_append, List.cons_append]
  gi_wp2
  refine wpIn_wide.2 ?_
  have hO := Own.new w #[.int .i64 y, .int .i64 m, .int .i64 d] 94
  have hxW := Ext.new w (.cells #[.int .i64 y, .int .i64 m, .int .i64 d] 94)
  have hszW : (w.alloc (.cells #[.int .i64 y, .int .i64 m, .int .i64 d] 94)).heap.size = w.heap.size + 1 := by simp
  generalize w.alloc _ = W at *
  obtain ⟨hoc, hof⟩ := hO.facts
  have hltW := hO.lt
  have hw1 : IntKind.i64.wrap (bef y - bef 1900) = bef y - bef 1900 := by rw [IntKind.wrap_i64]; omega
  have hw2 : IntKind.i64.wrap (bef y - bef 1900 + d) = bef y - bef 1900 + d := by rw [IntKind.wrap_i64]; omega
  have hw3 : IntKind.i64.wrap (bef y - bef 1900 + d - 1) = bef y - bef 1900 + d - 1 := by rw [IntKind.wrap_i64]; omega
  (refine wp_region_I 10 (by kernel_rfl) (by kernel_rfl) ?_; simp only [List.toList_toArray, List.take_succ_cons, List.take_zero, List.drop_succ_cons, List.drop_zero])
  (refine walkI_is (u := ?_) rfl (by simp) rfl ?_ ?_; rotate_left; (focus (intro A w' hS hA K hK; (simp only [List.map_cons, List.map_nil, knows, Is, Op.operands, Call.operands, List.lookup_cons, List.lookup_nil, Nat.reduceBEq, Bool.false_eq_true, if_false, if_true, Act.eval, Array.getD_eq_getD_getElem?, List.getElem?_toArray, List.getElem?_cons_succ, List.getElem?_cons_zero, Option.getD_some, and_true, true_and, List.append_toArray, List.nil_append, List.cons_append, List.toList_toArray, Array.toList_append, Option.toArray, List.append_nil] at hA); first | fail | (obtain ⟨hSc, hSf, hSs⟩ := hS.cells; go_simp; exact hK _ (by repeat (first | (with_reducible assumption) | (with_reducible exact Ext.rfl' _) | (with_reducible exact Ext.new _ _) | (with_reducible refine Ext.alloc' ?_ _) | (with_reducible refine Ext.drew' ?_) | (with_reducible refine Ext.drewN' ?_ _) | (with_reducible refine Ext.set' ?_ ?_ _; rotate_left; (focus (first | omega | (simp; done) | (simp; omega)))) | (with_reducible refine Ext.then (b := ?_) ?_ ?_; rotate_left; rotate_left; (with_reducible assumption))))))); (try simp only [List.nil_append, List.cons_append]))
  (refine walkI_is (u := ?_) rfl (by simp) rfl ?_ ?_; rotate_left; (focus (intro A w' hS hA K hK; (simp only [List.map_cons, List.map_nil, knows, Is, Op.operands, Call.operands, List.lookup_cons, List.lookup_nil, Nat.reduceBEq, Bool.false_eq_true, if_false, if_true, Act.eval, Array.getD_eq_getD_getElem?, List.getElem?_toArray, List.getElem?_cons_succ, List.getElem?_cons_zero, Option.getD_some, and_true, true_and, List.append_toArray, List.nil_append, List.cons_append, List.toList_toArray, Array.toList_append, Option.toArray, List.append_nil] at hA); first | fail | (obtain ⟨hSc, hSf, hSs⟩ := hS.cells; go_simp; exact hK _ (by repeat (first | (with_reducible assumption) | (with_reducible exact Ext.rfl' _) | (with_reducible exact Ext.new _ _) | (with_reducible refine Ext.alloc' ?_ _) | (with_reducible refine Ext.drew' ?_) | (with_reducible refine Ext.drewN' ?_ _) | (with_reducible refine Ext.set' ?_ ?_ _; rotate_left; (focus (first | omega | (simp; done) | (simp; omega)))) | (with_reducible refine Ext.then (b := ?_) ?_ ?_; rotate_left; rotate_left; (with_reducible assumption))))))); (try simp only [List.nil_append, List.cons_append]))
  (refine walkI_is (u := ?_) rfl (by simp) rfl ?_ ?_; rotate_left; (focus (intro A w' hS hA K hK; (simp only [List.map_cons, List.map_nil, knows, Is, Op.operands, Call.operands, List.lookup_cons, List.lookup_nil, Nat.reduceBEq, Bool.false_eq_true, if_false, if_true, Act.eval, Array.getD_eq_getD_getElem?, List.getElem?_toArray, List.getElem?_cons_succ, List.getElem?_cons_zero, Option.getD_some, and_true, true_and, List.append_toArray, List.nil_append, List.cons_append, List.toList_toArray, Array.toList_append, Option.toArray, List.append_nil] at hA); first | (go_simp; refine RetP_at (before_c y _ (by omega) (by omega)) ?_; exact hK _ (by repeat (first | (with_reducible assumption) | (with_reducible exact Ext.rfl' _) | (with_reducible exact Ext.new _ _) | (with_reducible refine Ext.alloc' ?_ _) | (with_reducible refine Ext.drew' ?_) | (with_reducible refine Ext.drewN' ?_ _) | (with_reducible refine Ext.set' ?_ ?_ _; rotate_left; (focus (first | omega | (simp; done) | (simp; omega)))) | (with_reducible refine Ext.then (b := ?_) ?_ ?_; rotate_left; rotate_left; (with_reducible assumption))))) | (obtain ⟨hSc, hSf, hSs⟩ := hS.cells; go_simp; exact hK _ (by repeat (first | (with_reducible assumption) | (with_reducible exact Ext.rfl' _) | (with_reducible exact Ext.new _ _) | (with_reducible refine Ext.alloc' ?_ _) | (with_reducible refine Ext.drew' ?_) | (with_reducible refine Ext.drewN' ?_ _) | (with_reducible refine Ext.set' ?_ ?_ _; rotate_left; (focus (first | omega | (simp; done) | (simp; omega)))) | (with_reducible refine Ext.then (b := ?_) ?_ ?_; rotate_left; rotate_left; (with_reducible assumption))))))); (try simp only [List.nil_append, List.cons_append]))
  (refine walkI_is (u := ?_) rfl (by simp) rfl ?_ ?_; rotate_left; (focus (intro A w' hS hA K hK; (simp only [List.map_cons, List.map_nil, knows, Is, Op.operands, Call.operands, List.lookup_cons, List.lookup_nil, Nat.reduceBEq, Bool.false_eq_true, if_false, if_true, Act.eval, Array.getD_eq_getD_getElem?, List.getElem?_toArray, List.getElem?_cons_succ, List.getElem?_cons_zero, Option.getD_some, and_true, true_and, List.append_toArray, List.nil_append, List.cons_append, List.toList_toArray, Array.toList_append, Option.toArray, List.append_nil] at hA); first | (go_simp; refine RetP_at (before_c 1900 _ (by omega) (by omega)) ?_; exact hK _ (by repeat (first | (with_reducible assumption) | (with_reducible exact Ext.rfl' _) | (with_reducible exact Ext.new _ _) | (with_reducible refine Ext.alloc' ?_ _) | (with_reducible refine Ext.drew' ?_) | (with_reducible refine Ext.drewN' ?_ _) | (with_reducible refine Ext.set' ?_ ?_ _; rotate_left; (focus (first | omega | (simp; done) | (simp; omega)))) | (with_reducible refine Ext.then (b := ?_) ?_ ?_; rotate_left; rotate_left; (with_reducible assumption))))) | (obtain ⟨hSc, hSf, hSs⟩ := hS.cells; go_simp; exact hK _ (by repeat (first | (with_reducible assumption) | (with_reducible exact Ext.rfl' _) | (with_reducible exact Ext.new _ _) | (with_reducible refine Ext.alloc' ?_ _) | (with_reducible refine Ext.drew' ?_) | (with_reducible refine Ext.drewN' ?_ _) | (with_reducible refine Ext.set' ?_ ?_ _; rotate_left; (focus (first | omega | (simp; done) | (simp; omega)))) | (with_reducible refine Ext.then (b := ?_) ?_ ?_; rotate_left; rotate_left; (with_reducible assumption))))))); (try simp only [List.nil_append, List.cons_append]))
  (refine walkI_is (u := ?_) rfl (by simp) rfl ?_ ?_; rotate_left; (focus (intro A w' hS hA K hK; (simp only [List.map_cons, List.map_nil, knows, Is, Op.operands, Call.operands, List.lookup_cons, List.lookup_nil, Nat.reduceBEq, Bool.false_eq_true, if_false, if_true, Act.eval, Array.getD_eq_getD_getElem?, List.getElem?_toArray, List.getElem?_cons_succ, List.getElem?_cons_zero, Option.getD_some, and_true, true_and, List.append_toArray, List.nil_append, List.cons_append, List.toList_toArray, Array.toList_append, Option.toArray, List.append_nil] at hA); first | fail | (obtain ⟨hSc, hSf, hSs⟩ := hS.cells; go_simp; exact hK _ (by repeat (first | (with_reducible assumption) | (with_reducible exact Ext.rfl' _) | (with_reducible exact Ext.new _ _) | (with_reducible refine Ext.alloc' ?_ _) | (with_reducible refine Ext.drew' ?_) | (with_reducible refine Ext.drewN' ?_ _) | (with_reducible refine Ext.set' ?_ ?_ _; rotate_left; (focus (first | omega | (simp; done) | (simp; omega)))) | (with_reducible refine Ext.then (b := ?_) ?_ ?_; rotate_left; rotate_left; (with_reducible assumption))))))); (try simp only [List.nil_append, List.cons_append]))
  (refine walkI_is (u := ?_) rfl (by simp) rfl ?_ ?_; rotate_left; (focus (intro A w' hS hA K hK; (simp only [List.map_cons, List.map_nil, knows, Is, Op.operands, Call.operands, List.lookup_cons, List.lookup_nil, Nat.reduceBEq, Bool.false_eq_true, if_false, if_true, Act.eval, Array.getD_eq_getD_getElem?, List.getElem?_toArray, List.getElem?_cons_succ, List.getElem?_cons_zero, Option.getD_some, and_true, true_and, List.append_toArray, List.nil_append, List.cons_append, List.toList_toArray, Array.toList_append, Option.toArray, List.append_nil] at hA); first | fail | (obtain ⟨hSc, hSf, hSs⟩ := hS.cells; go_simp; exact hK _ (by repeat (first | (with_reducible assumption) | (with_reducible exact Ext.rfl' _) | (with_reducible exact Ext.new _ _) | (with_reducible refine Ext.alloc' ?_ _) | (with_reducible refine Ext.drew' ?_) | (with_reducible refine Ext.drewN' ?_ _) | (with_reducible refine Ext.set' ?_ ?_ _; rotate_left; (focus (first | omega | (simp; done) | (simp; omega)))) | (with_reducible refine Ext.then (b := ?_) ?_ ?_; rotate_left; rotate_left; (with_reducible assumption))))))); (try simp only [List.nil_append, List.cons_append]))
  (refine walkI_is (u := ?_) rfl (by simp) rfl ?_ ?_; rotate_left; (focus (intro A w' hS hA K hK; (simp only [List.map_cons, List.map_nil, knows, Is, Op.operands, Call.operands, List.lookup_cons, List.lookup_nil, Nat.reduceBEq, Bool.false_eq_true, if_false, if_true, Act.eval, Array.getD_eq_getD_getElem?, List.getElem?_toArray, List.getElem?_cons_succ, List.getElem?_cons_zero, Option.getD_some, and_true, true_and, List.append_toArray, List.nil_append, List.cons_append, List.toList_toArray, Array.toList_append, Option.toArray, List.append_nil] at hA); first | fail | (obtain ⟨hSc, hSf, hSs⟩ := hS.cells; go_simp; exact hK _ (by repeat (first | (with_reducible assumption) | (with_reducible exact Ext.rfl' _) | (with_reducible exact Ext.new _ _) | (with_reducible refine Ext.alloc' ?_ _) | (with_reducible refine Ext.drew' ?_) | (with_reducible refine Ext.drewN' ?_ _) | (with_reducible refine Ext.set' ?_ ?_ _; rotate_left; (focus (first | omega | (simp; done) | (simp; omega)))) | (with_reducible refine Ext.then (b := ?_) ?_ ?_; rotate_left; rotate_left; (with_reducible assumption))))))); (try simp only [List.nil_append, List.cons_append]))
  (refine walkI_is (u := ?_) rfl (by simp) rfl ?_ ?_; rotate_left; (focus (intro A w' hS hA K hK; (simp only [List.map_cons, List.map_nil, knows, Is, Op.operands, Call.operands, List.lookup_cons, List.lookup_nil, Nat.reduceBEq, Bool.false_eq_true, if_false, if_true, Act.eval, Array.getD_eq_getD_getElem?, List.getElem?_toArray, List.getElem?_cons_succ, List.getElem?_cons_zero, Option.getD_some, and_true, true_and, List.append_toArray, List.nil_append, List.cons_append, List.toList_toArray, Array.toList_append, Option.toArray, List.append_nil] at hA); first | fail | (obtain ⟨hSc, hSf, hSs⟩ := hS.cells; go_simp; exact hK _ (by repeat (first | (with_reducible assumption) | (with_reducible exact Ext.rfl' _) | (with_reducible exact Ext.new _ _) | (with_reducible refine Ext.alloc' ?_ _) | (with_reducible refine Ext.drew' ?_) | (with_reducible refine Ext.drewN' ?_ _) | (with_reducible refine Ext.set' ?_ ?_ _; rotate_left; (focus (first | omega | (simp; done) | (simp; omega)))) | (with_reducible refine Ext.then (b := ?_) ?_ ?_; rotate_left; rotate_left; (with_reducible assumption))))))); (try simp only [List.nil_append, List.cons_append]))
  (refine walkI_is (u := ?_) rfl (by simp) rfl ?_ ?_; rotate_left; (focus (intro A w' hS hA K hK; (simp only [List.map_cons, List.map_nil, knows, Is, Op.operands, Call.operands, List.lookup_cons, List.lookup_nil, Nat.reduceBEq, Bool.false_eq_true, if_false, if_true, Act.eval, Array.getD_eq_getD_getElem?, List.getElem?_toArray, List.getElem?_cons_succ, List.getElem?_cons_zero, Option.getD_some, and_true, true_and, List.append_toArray, List.nil_append, List.cons_append, List.toList_toArray, Array.toList_append, Option.toArray, List.append_nil] at hA); first | fail | (obtain ⟨hSc, hSf, hSs⟩ := hS.cells; go_simp; exact hK _ (by repeat (first | (with_reducible assumption) | (with_reducible exact Ext.rfl' _) | (with_reducible exact Ext.new _ _) | (with_reducible refine Ext.alloc' ?_ _) | (with_reducible refine Ext.drew' ?_) | (with_reducible refine Ext.drewN' ?_ _) | (with_reducible refine Ext.set' ?_ ?_ _; rotate_left; (focus (first | omega | (simp; done) | (simp; omega)))) | (with_reducible refine Ext.then (b := ?_) ?_ ?_; rotate_left; rotate_left; (with_reducible assumption))))))); (try simp only [List.nil_append, List.cons_append]))
  (refine walkI_step (fun v w' => ∃ g, v = .pointer (some ⟨g, 0, none⟩) ∧ Own w' g #[.int .i64 0] 3 ∧ W.heap.size ≤ g) rfl (by simp) rfl (fun v a b _ ⟨g, q1, q2, q3⟩ e => ⟨g, q1, q2.keep e, q3⟩) ?_ ?_; (focus (intro A w' hS hA K hK; (simp only [List.map_cons, List.map_nil, knows, Is, Op.operands, Call.operands, List.lookup_cons, List.lookup_nil, Nat.reduceBEq, Bool.false_eq_true, if_false, if_true, Act.eval, Array.getD_eq_getD_getElem?, List.getElem?_toArray, List.getElem?_cons_succ, List.getElem?_cons_zero, Option.getD_some, and_true, true_and, List.append_toArray, List.nil_append, List.cons_append, List.toList_toArray, Array.toList_append, Option.toArray, List.append_nil] at hA); (have hs' := hS.size; go_simp; exact hK _ _ (Ext.new _ _) ⟨_, rfl, Own.new _ _ _, hs'⟩))); (try simp only [List.nil_append, List.cons_append]))
  (refine walkI_nil ?_; simp only [List.nil_append, List.cons_append, fins, Is, forall_eq, Act.put, List.setIfInBounds_toArray, List.set_cons_zero, List.set_cons_succ])
  rintro w2 hx2 v9 ⟨g, rfl, ho, hg⟩
  clear hw1 hw2 hw3
  have hbd1 : -700000 ≤ bef y - bef 1900 + d - 1 := by omega
  have hbd2 : bef y - bef 1900 + d - 1 ≤ 36700000 := by omega
  obtain ⟨gc, gf⟩ := ho.facts
  have hgl := ho.lt
  have hb2' : Below w.heap.size w (w2.setCell ⟨g, 0, none⟩ (.int .i64 (bef y - bef 1900 + d - 1))) := (hxW.then hx2).set' (show w.heap.size ≤ g by omega) _
  have hO2 := (hO.keep hx2).setOther (p := ⟨g, 0, none⟩) (by simp; omega) (.int .i64 (bef y - bef 1900 + d - 1))
  have ho2 := ho.set 0 (.int .i64 (bef y - bef 1900 + d - 1))
  have hV2 : VL (ph (w2.setCell ⟨g, 0, none⟩ (.int .i64 (bef y - bef 1900 + d - 1)))) := hV.mono (Ext.ple hb2')
  generalize hbase : bef y - bef 1900 + d - 1 = base at *
  replace hbase := Lib.hid hbase
  go_wp2_with fail
  generalize hW3 : w2.setCell _ _ = W3 at *
  have hsz3 : w2.heap.size ≤ W3.heap.size := by rw [← hW3]; simp
  clear hW3
  obtain ⟨gc3, gf3⟩ := ho2.facts
  obtain ⟨oc3, of3⟩ := hO2.facts
  have k0 := gc3 0
  have k1 := gf3 0
  have k2 := oc3 1
  have k3 := oc3 0
  simp at k0 k2 k3
  have hg3 : w.heap.size < W3.heap.size := by omega
  have hg4 : g < W3.heap.size := by omega
  have hwV := hV.lt
  clear gc gf hoc hof gc3 gf3 oc3 of3 hO ho hO2 ho2 hx2 hxW hgl hltW
  gi_wp2_with (refine ⟨trivial, ?_⟩; gi_at_call 87; refine (callsIn_wide.2 (months_p _ _)).mono ?_; rintro e w' ⟨rfl, rfl⟩)
  have hb0 := cell_new_l W3 (.int .i64 y) 3
  have hB0 : Below w.heap.size w (W3.alloc (.cells #[.int .i64 y] 3)) := Below.alloc hb2' (by omega) _
  refine wpIn_rangeFunc_ownF rfl (by omega) (gf := 109) (lb := #[.pointer (some ⟨W3.heap.size, 0, none⟩)]) rfl trivial (enters_of Tryd.func109 (by kernel_rfl) rfl)
    (encs := fun x : Fin 12 => #[.int .i64 ((x.val : Int) + 1), .int .i64 (dayM y x.val)]) (Kp := KB w.heap.size W3.heap.size) (S := fun ys => ys = List.finRange 12) (Sp := fun _ => True) (N := 12)
    (w0 := W3.alloc (.cells #[.int .i64 y] 3))
    ?seq KB.then (KB.put (by simp; omega) (by simp)) (Below.refl _ _) (fun _ => rfl)
    (fun pre W => (W.cell? ⟨g, 0, none⟩ = some (.int .i64 (accN y m base pre)) ∧ W.frozen? ⟨g, 0, none⟩ = false ∧ W.cell? ⟨w.heap.size, 1, none⟩ = some (.int .i64 m)) ∧ Below w.heap.size w W)
    (fun _ _ _ => False)
    (OwnFrom.and (Own.from (fun s A B row hs hg hr => ⟨cell_kept hs.1 hg hr, (frozen_kept hs.1 hg hr).trans hs.2.1, cell_kept hs.2.2 hg hr⟩) _) (ownFrom_below (Nat.le_refl _) (by simp; omega)))
    (fun _ _ _ _ _ hs _ _ => hs)
    ⟨⟨cell_alloc_l _ k0, frozen_alloc_l _ k0 k1, cell_alloc_l _ k2⟩, hB0⟩
    ?a1 ?assign ?body ?done ?stop
  case assign =>
    intro l x W K hK
    gi_wp2
    exact hK
  case seq =>
    intro l J Jx W hW _ _ hY h0
    refine months_in 4 l W3.heap.size w.heap.size y (by omega) (by omega) (by omega) J Jx hY W ?_ h0 |>.mono ?_
    rotate_left
    · rintro e W' ⟨h1, ⟨ys, h2, h3⟩ | ⟨pre, h2⟩⟩
      · exact ⟨h1, .inl ⟨ys, h2, h3⟩⟩
      · exact ⟨h1, .inr ⟨pre, trivial, h2⟩⟩
    intro wr hkb
    exact ⟨hkb.2.trans ((hW.cell (p := ⟨_, 0, none⟩) (by simp)).trans hb0.1), (hV2.mono (Ext.ple ((Ext.new W3 _).then hW))).below hkb.1 hwV⟩
  case body =>
    rintro l pre x W ⟨⟨hc, hf, hm⟩, hB⟩ hlen
    have hx := dayM_372 y x
    have hab := accN_bd y m base pre
    have hs := Lib.hid (accN_snoc y m base pre x)
    generalize accN y m base pre = acc at *
    by_cases e : x.val + 1 = m
    · have eb : ((x.val : Int) + 1 == (m : Int)) = true := by rw [beq_iff_eq]; omega
      have hs2 : Hid (accN y m base (pre ++ [x]) = acc + dayM y x.val) := by show _ = _; rw [hs.out, if_pos e]
      clear hs e
      gi_wp2
      refine ⟨KeepsOthers.setCell _ _ _, ⟨(Below.refl w.heap.size W).setCell (p := ⟨g, 0, none⟩) (show w.heap.size ≤ g by omega) _, cell_set_other (by omega)⟩, ⟨?_, ?_, ?_⟩, hB.setCell (p := ⟨g, 0, none⟩) (show w.heap.size ≤ g by omega) _⟩
      · rw [hs2.out]; exact World.cell?_setCell_same' _ _ _ (by rw [hc]; rfl)
      · rw [World.frozen?_setCell]; exact hf
      · rw [cell_set_at (by omega)]; exact hm
    · have eb : ((x.val : Int) + 1 == (m : Int)) = false := by rw [beq_eq_false_iff_ne]; omega
      have hs2 : Hid (accN y m base (pre ++ [x]) = acc) := by show _ = _; rw [hs.out, if_neg e]
      clear hs e
      gi_wp2
      exact ⟨KeepsOthers.refl _, KB.rfl' _ _ _, ⟨by rw [hs2.out]; exact hc, hf, hm⟩, hB⟩
  case done =>
    rintro D xs W hD rfl ⟨⟨hc, hf, hm⟩, hB⟩ hK
    rw [accN_all _ _ _ hm0 hm1] at hc
    gi_wp2
    refine ⟨by simp, .inl ⟨_, _, rfl, run_takeDeferred hK, ?_⟩⟩
    refine ⟨_, results_tmp rfl _ _ _, ?_, hB.trans (belowK_b (w := w) (Nat.le_refl _) _ D _ _ (by simp at hD; omega) hK rfl rfl)⟩
    refine ret_int (a := base + dayM y (m - 1)) ?_
    rw [numV, ← hbase.out, show ((m : Int) - 1).toNat = m - 1 by omega]; omega
  case stop =>
    rintro D c pre W _ _ h _
    exact h.elim
theorem number_c (y d : Int) (m : Nat) (w : World) (hV : VL (ph w)) (hy0 : 1 ≤ y) (hy1 : y ≤ 100000) (hm0 : 1 ≤ m) (hm1 : m ≤ 12) (hd0 : 0 ≤ d) (hd1 : d ≤ 1000) :
    Calls Tryd.prog 64 #[.agg #[.int .i64 y, .int .i64 m, .int .i64 d]] w (RetV w (.int .i64 (numV y m d))) :=
  (callsIn_wide (n := 5)).1 (number_in y d m w hV hy0 hy1 hm0 hm1 hd0 hd1)
end Go.Proofs.YtcmdekhhclgdcaaDoor
