/- span.simpler, span.Pick.; the reference's Pick. -/
import Derived.Deep.CutBlock
import Derived.Test.YtmbkefgmiehdiaaSpPA
import Derived.Test.YtmbkefgmiehdiaaSpLvA
namespace Go.Proofs.Ytmbkefgmiehdiaa
open Go.RowKit Go.Shelf
set_option linter.unusedSimpArgs false
set_option linter.unusedVariables false
theorem spsize_c (n : Int) (w : World) (h1 : -1099511627776 ≤ n) (h2 : n ≤ 1099511627776) : Calls Try.prog 95 #[.int .i64 n] w (RetV w (.int .i64 (n.natAbs : Int))) := by
  have hw : IntKind.i64.wrap (-n) = -n := wrap_id (by omega) (by omega)
  have hm : Hid (max n (-n) = (n.natAbs : Int)) := Lib.hid (by omega)
  go_enter Try.func95, Try.ntmps95
  go_wp2_with fail
  go_ret
  exact ⟨ret_int hm.out, (by repeat (first | (with_reducible assumption) | (with_reducible exact Ext.rfl' _) | (with_reducible exact Ext.new _ _) | (with_reducible refine Ext.alloc' ?_ _) | (with_reducible refine Ext.drew' ?_) | (with_reducible refine Ext.drewN' ?_ _) | (with_reducible refine Ext.set' ?_ ?_ _; rotate_left; (focus (first | omega | (simp; done) | (simp; omega)))) | (with_reducible refine Ext.then (b := ?_) ?_ ?_; rotate_left; rotate_left; (with_reducible assumption))))⟩
set_option maxRecDepth 100000 in
set_option maxHeartbeats 4000000 in
theorem simpler_c (a b : Rat2) (w : World) (ha : a.bd) (hb : b.bd) : Calls Try.prog 53 #[raA a, raA b] w (RetV w (.bool (simplerB a b))) := by
  have hs : Hid (simplerB a b = if a.den ≠ b.den then decide (a.den < b.den) else if a.num.natAbs ≠ b.num.natAbs then decide (a.num.natAbs < b.num.natAbs) else decide (b.num < a.num)) := rfl
  have hza := fun w => spsize_c a.num w ha.1 ha.2.1
  have hzb := fun w => spsize_c b.num w hb.1 hb.2.1
  generalize simplerB a b = q at *
  clear ha hb
  obtain ⟨n, d⟩ := a
  obtain ⟨n', d'⟩ := b
  unfold raA at *
  dsimp only at *
  obtain ⟨m, hm⟩ : ∃ m, n.natAbs = m := ⟨_, rfl⟩
  obtain ⟨m', hm'⟩ : ∃ m, n'.natAbs = m := ⟨_, rfl⟩
  rw [hm] at hs hza
  rw [hm'] at hs hzb
  clear hm hm'
  replace hza := Lib.hid hza
  replace hzb := Lib.hid hzb
  go_enter Try.func53, Try.ntmps53
  have hO2 := (Proofs.Ytmbkefgmiehdiaa.Own.new w #[.int .i64 n, .int .i64 d] 40).alloc (.cells #[.int .i64 n', .int .i64 d'] 40)
  have hO3 := Own.new' (w.alloc (.cells #[.int .i64 n, .int .i64 d] 40)) #[.int .i64 n', .int .i64 d'] 40 (n := w.heap.size + 1) (by simp)
  have hx : Ext w ((w.alloc (.cells #[.int .i64 n, .int .i64 d] 40)).alloc (.cells #[.int .i64 n', .int .i64 d'] 40)) := (by repeat (first | (with_reducible assumption) | (with_reducible exact Ext.rfl' _) | (with_reducible exact Ext.new _ _) | (with_reducible refine Ext.alloc' ?_ _) | (with_reducible refine Ext.drew' ?_) | (with_reducible refine Ext.drewN' ?_ _) | (with_reducible refine Ext.set' ?_ ?_ _; rotate_left; (focus (first | omega | (simp; done) | (simp; omega)))) | (with_reducible refine Ext.then (b := ?_) ?_ ?_; rotate_left; rotate_left; (with_reducible assumption))))
  go_upto_region 1 with (fail)
  generalize w.heap.size = b1 at *
  generalize (w.alloc _).alloc _ = W at *
  obtain ⟨c2, f2⟩ := hO2.facts
  obtain ⟨c3, f3⟩ := hO3.facts
  have z2 := hO2.lt
  have z3 := hO3.lt
  have k20 : _ = some (Value.int .i64 n) := c2 0
  have k21 : _ = some (Value.int .i64 d) := c2 1
  have k30 : _ = some (Value.int .i64 n') := c3 0
  have k31 : _ = some (Value.int .i64 d') := c3 1
  clear c2 c3
  by_cases h1 : d = d'
  · subst h1
    have hdd : (d != d) = false := by simp
    rw [if_neg (by simp)] at hs
    go_upto_region 3 with (fail)
    by_cases h2 : m = m'
    · have hmm : ((m : Int) != (m' : Int)) = false := by simp; omega
      rw [if_neg (by simpa using h2)] at hs
      (refine wp_region_I 8 (by kernel_rfl) (by kernel_rfl) ?_; simp only [List.toList_toArray, List.take_succ_cons, List.take_zero, List.drop_succ_cons, List.drop_zero])
      (refine walkI_is (u := ?_) rfl (by simp) rfl ?_ ?_; rotate_left; (focus (intro A w' hS hA K hK; (simp only [List.map_cons, List.map_nil, knows, Is, Op.operands, Call.operands, List.lookup_cons, List.lookup_nil, Nat.reduceBEq, Bool.false_eq_true, if_false, if_true, Act.eval, Array.getD_eq_getD_getElem?, List.getElem?_toArray, List.getElem?_cons_succ, List.getElem?_cons_zero, Option.getD_some, and_true, true_and, List.append_toArray, List.nil_append, List.cons_append, List.toList_toArray, Array.toList_append, Option.toArray, List.append_nil] at hA); first | fail | (obtain ⟨hSc, hSf, hSs⟩ := hS.cells; go_simp; exact hK _ (by first | exact Ext.rfl' _ | exact Ext.new _ _ | assumption)))); (try simp only [List.nil_append, List.cons_append]))
      (refine walkI_is (u := ?_) rfl (by simp) rfl ?_ ?_; rotate_left; (focus (intro A w' hS hA K hK; (simp only [List.map_cons, List.map_nil, knows, Is, Op.operands, Call.operands, List.lookup_cons, List.lookup_nil, Nat.reduceBEq, Bool.false_eq_true, if_false, if_true, Act.eval, Array.getD_eq_getD_getElem?, List.getElem?_toArray, List.getElem?_cons_succ, List.getElem?_cons_zero, Option.getD_some, and_true, true_and, List.append_toArray, List.nil_append, List.cons_append, List.toList_toArray, Array.toList_append, Option.toArray, List.append_nil] at hA); first | fail | (obtain ⟨hSc, hSf, hSs⟩ := hS.cells; go_simp; exact hK _ (by first | exact Ext.rfl' _ | exact Ext.new _ _ | assumption)))); (try simp only [List.nil_append, List.cons_append]))
      (refine walkI_is (u := ?_) rfl (by simp) rfl ?_ ?_; rotate_left; (focus (intro A w' hS hA K hK; (simp only [List.map_cons, List.map_nil, knows, Is, Op.operands, Call.operands, List.lookup_cons, List.lookup_nil, Nat.reduceBEq, Bool.false_eq_true, if_false, if_true, Act.eval, Array.getD_eq_getD_getElem?, List.getElem?_toArray, List.getElem?_cons_succ, List.getElem?_cons_zero, Option.getD_some, and_true, true_and, List.append_toArray, List.nil_append, List.cons_append, List.toList_toArray, Array.toList_append, Option.toArray, List.append_nil] at hA); first | (go_simp; refine RetV_at (hza.out w') ?_; intro w6 hx6; exact hK _ hx6) | (obtain ⟨hSc, hSf, hSs⟩ := hS.cells; go_simp; exact hK _ (by first | exact Ext.rfl' _ | exact Ext.new _ _ | assumption)))); (try simp only [List.nil_append, List.cons_append]))
      (refine walkI_is (u := ?_) rfl (by simp) rfl ?_ ?_; rotate_left; (focus (intro A w' hS hA K hK; (simp only [List.map_cons, List.map_nil, knows, Is, Op.operands, Call.operands, List.lookup_cons, List.lookup_nil, Nat.reduceBEq, Bool.false_eq_true, if_false, if_true, Act.eval, Array.getD_eq_getD_getElem?, List.getElem?_toArray, List.getElem?_cons_succ, List.getElem?_cons_zero, Option.getD_some, and_true, true_and, List.append_toArray, List.nil_append, List.cons_append, List.toList_toArray, Array.toList_append, Option.toArray, List.append_nil] at hA); first | fail | (obtain ⟨hSc, hSf, hSs⟩ := hS.cells; go_simp; exact hK _ (by first | exact Ext.rfl' _ | exact Ext.new _ _ | assumption)))); (try simp only [List.nil_append, List.cons_append]))
      (refine walkI_is (u := ?_) rfl (by simp) rfl ?_ ?_; rotate_left; (focus (intro A w' hS hA K hK; (simp only [List.map_cons, List.map_nil, knows, Is, Op.operands, Call.operands, List.lookup_cons, List.lookup_nil, Nat.reduceBEq, Bool.false_eq_true, if_false, if_true, Act.eval, Array.getD_eq_getD_getElem?, List.getElem?_toArray, List.getElem?_cons_succ, List.getElem?_cons_zero, Option.getD_some, and_true, true_and, List.append_toArray, List.nil_append, List.cons_append, List.toList_toArray, Array.toList_append, Option.toArray, List.append_nil] at hA); first | fail | (obtain ⟨hSc, hSf, hSs⟩ := hS.cells; go_simp; exact hK _ (by first | exact Ext.rfl' _ | exact Ext.new _ _ | assumption)))); (try simp only [List.nil_append, List.cons_append]))
      (refine walkI_is (u := ?_) rfl (by simp) rfl ?_ ?_; rotate_left; (focus (intro A w' hS hA K hK; (simp only [List.map_cons, List.map_nil, knows, Is, Op.operands, Call.operands, List.lookup_cons, List.lookup_nil, Nat.reduceBEq, Bool.false_eq_true, if_false, if_true, Act.eval, Array.getD_eq_getD_getElem?, List.getElem?_toArray, List.getElem?_cons_succ, List.getElem?_cons_zero, Option.getD_some, and_true, true_and, List.append_toArray, List.nil_append, List.cons_append, List.toList_toArray, Array.toList_append, Option.toArray, List.append_nil] at hA); first | (go_simp; refine RetV_at (hzb.out w') ?_; intro w6 hx6; exact hK _ hx6) | (obtain ⟨hSc, hSf, hSs⟩ := hS.cells; go_simp; exact hK _ (by first | exact Ext.rfl' _ | exact Ext.new _ _ | assumption)))); (try simp only [List.nil_append, List.cons_append]))
      (refine walkI_is (u := ?_) rfl (by simp) rfl ?_ ?_; rotate_left; (focus (intro A w' hS hA K hK; (simp only [List.map_cons, List.map_nil, knows, Is, Op.operands, Call.operands, List.lookup_cons, List.lookup_nil, Nat.reduceBEq, Bool.false_eq_true, if_false, if_true, Act.eval, Array.getD_eq_getD_getElem?, List.getElem?_toArray, List.getElem?_cons_succ, List.getElem?_cons_zero, Option.getD_some, and_true, true_and, List.append_toArray, List.nil_append, List.cons_append, List.toList_toArray, Array.toList_append, Option.toArray, List.append_nil] at hA); first | fail | (obtain ⟨hSc, hSf, hSs⟩ := hS.cells; go_simp; exact hK _ (by first | exact Ext.rfl' _ | exact Ext.new _ _ | assumption)))); (try simp only [List.nil_append, List.cons_append]))
      (refine walkI_is (u := ?_) rfl (by simp) rfl ?_ ?_; rotate_left; (focus (intro A w' hS hA K hK; (simp only [List.map_cons, List.map_nil, knows, Is, Op.operands, Call.operands, List.lookup_cons, List.lookup_nil, Nat.reduceBEq, Bool.false_eq_true, if_false, if_true, Act.eval, Array.getD_eq_getD_getElem?, List.getElem?_toArray, List.getElem?_cons_succ, List.getElem?_cons_zero, Option.getD_some, and_true, true_and, List.append_toArray, List.nil_append, List.cons_append, List.toList_toArray, Array.toList_append, Option.toArray, List.append_nil] at hA); first | fail | (obtain ⟨hSc, hSf, hSs⟩ := hS.cells; go_simp; exact hK _ (by first | exact Ext.rfl' _ | exact Ext.new _ _ | assumption)))); (try simp only [List.nil_append, List.cons_append]))
      (refine walkI_nil ?_; simp only [List.nil_append, List.cons_append, fins, Is, forall_eq, Act.put, List.setIfInBounds_toArray, List.set_cons_zero, List.set_cons_succ])
      intro w6 hx6
      replace hO2 := hO2.keep hx6
      replace hO3 := hO3.keep hx6
      clear f2 f3 z2 z3 k20 k21 k30 k31
      obtain ⟨c2, f2⟩ := hO2.facts
      obtain ⟨c3, f3⟩ := hO3.facts
      have z2 := hO2.lt
      have z3 := hO3.lt
      have k20 : _ = some (Value.int .i64 n) := c2 0
      have k21 : _ = some (Value.int .i64 d) := c2 1
      have k30 : _ = some (Value.int .i64 n') := c3 0
      have k31 : _ = some (Value.int .i64 d) := c3 1
      clear c2 c3
      go_wp2_with fail
      go_ret
      exact ⟨ret_bool hs.out.symm, hx.then hx6⟩
    · have hmm : ((m : Int) != (m' : Int)) = true := by simp; omega
      rw [if_pos h2] at hs
      (refine wp_region_I 8 (by kernel_rfl) (by kernel_rfl) ?_; simp only [List.toList_toArray, List.take_succ_cons, List.take_zero, List.drop_succ_cons, List.drop_zero])
      (refine walkI_is (u := ?_) rfl (by simp) rfl ?_ ?_; rotate_left; (focus (intro A w' hS hA K hK; (simp only [List.map_cons, List.map_nil, knows, Is, Op.operands, Call.operands, List.lookup_cons, List.lookup_nil, Nat.reduceBEq, Bool.false_eq_true, if_false, if_true, Act.eval, Array.getD_eq_getD_getElem?, List.getElem?_toArray, List.getElem?_cons_succ, List.getElem?_cons_zero, Option.getD_some, and_true, true_and, List.append_toArray, List.nil_append, List.cons_append, List.toList_toArray, Array.toList_append, Option.toArray, List.append_nil] at hA); first | fail | (obtain ⟨hSc, hSf, hSs⟩ := hS.cells; go_simp; exact hK _ (by first | exact Ext.rfl' _ | exact Ext.new _ _ | assumption)))); (try simp only [List.nil_append, List.cons_append]))
      (refine walkI_is (u := ?_) rfl (by simp) rfl ?_ ?_; rotate_left; (focus (intro A w' hS hA K hK; (simp only [List.map_cons, List.map_nil, knows, Is, Op.operands, Call.operands, List.lookup_cons, List.lookup_nil, Nat.reduceBEq, Bool.false_eq_true, if_false, if_true, Act.eval, Array.getD_eq_getD_getElem?, List.getElem?_toArray, List.getElem?_cons_succ, List.getElem?_cons_zero, Option.getD_some, and_true, true_and, List.append_toArray, List.nil_append, List.cons_append, List.toList_toArray, Array.toList_append, Option.toArray, List.append_nil] at hA); first | fail | (obtain ⟨hSc, hSf, hSs⟩ := hS.cells; go_simp; exact hK _ (by first | exact Ext.rfl' _ | exact Ext.new _ _ | assumption)))); (try simp only [List.nil_append, List.cons_append]))
      (refine walkI_is (u := ?_) rfl (by simp) rfl ?_ ?_; rotate_left; (focus (intro A w' hS hA K hK; (simp only [List.map_cons, List.map_nil, knows, Is, Op.operands, Call.operands, List.lookup_cons, List.lookup_nil, Nat.reduceBEq, Bool.false_eq_true, if_false, if_true, Act.eval, Array.getD_eq_getD_getElem?, List.getElem?_toArray, List.getElem?_cons_succ, List.getElem?_cons_zero, Option.getD_some, and_true, true_and, List.append_toArray, List.nil_append, List.cons_append, List.toList_toArray, Array.toList_append, Option.toArray, List.append_nil] at hA); first | (go_simp; refine RetV_at (hza.out w') ?_; intro w6 hx6; exact hK _ hx6) | (obtain ⟨hSc, hSf, hSs⟩ := hS.cells; go_simp; exact hK _ (by first | exact Ext.rfl' _ | exact Ext.new _ _ | assumption)))); (try simp only [List.nil_append, List.cons_append]))
      (refine walkI_is (u := ?_) rfl (by simp) rfl ?_ ?_; rotate_left; (focus (intro A w' hS hA K hK; (simp only [List.map_cons, List.map_nil, knows, Is, Op.operands, Call.operands, List.lookup_cons, List.lookup_nil, Nat.reduceBEq, Bool.false_eq_true, if_false, if_true, Act.eval, Array.getD_eq_getD_getElem?, List.getElem?_toArray, List.getElem?_cons_succ, List.getElem?_cons_zero, Option.getD_some, and_true, true_and, List.append_toArray, List.nil_append, List.cons_append, List.toList_toArray, Array.toList_append, Option.toArray, List.append_nil] at hA); first | fail | (obtain ⟨hSc, hSf, hSs⟩ := hS.cells; go_simp; exact hK _ (by first | exact Ext.rfl' _ | exact Ext.new _ _ | assumption)))); (try simp only [List.nil_append, List.cons_append]))
      (refine walkI_is (u := ?_) rfl (by simp) rfl ?_ ?_; rotate_left; (focus (intro A w' hS hA K hK; (simp only [List.map_cons, List.map_nil, knows, Is, Op.operands, Call.operands, List.lookup_cons, List.lookup_nil, Nat.reduceBEq, Bool.false_eq_true, if_false, if_true, Act.eval, Array.getD_eq_getD_getElem?, List.getElem?_toArray, List.getElem?_cons_succ, List.getElem?_cons_zero, Option.getD_some, and_true, true_and, List.append_toArray, List.nil_append, List.cons_append, List.toList_toArray, Array.toList_append, Option.toArray, List.append_nil] at hA); first | fail | (obtain ⟨hSc, hSf, hSs⟩ := hS.cells; go_simp; exact hK _ (by first | exact Ext.rfl' _ | exact Ext.new _ _ | assumption)))); (try simp only [List.nil_append, List.cons_append]))
      (refine walkI_is (u := ?_) rfl (by simp) rfl ?_ ?_; rotate_left; (focus (intro A w' hS hA K hK; (simp only [List.map_cons, List.map_nil, knows, Is, Op.operands, Call.operands, List.lookup_cons, List.lookup_nil, Nat.reduceBEq, Bool.false_eq_true, if_false, if_true, Act.eval, Array.getD_eq_getD_getElem?, List.getElem?_toArray, List.getElem?_cons_succ, List.getElem?_cons_zero, Option.getD_some, and_true, true_and, List.append_toArray, List.nil_append, List.cons_append, List.toList_toArray, Array.toList_append, Option.toArray, List.append_nil] at hA); first | (go_simp; refine RetV_at (hzb.out w') ?_; intro w6 hx6; exact hK _ hx6) | (obtain ⟨hSc, hSf, hSs⟩ := hS.cells; go_simp; exact hK _ (by first | exact Ext.rfl' _ | exact Ext.new _ _ | assumption)))); (try simp only [List.nil_append, List.cons_append]))
      (refine walkI_is (u := ?_) rfl (by simp) rfl ?_ ?_; rotate_left; (focus (intro A w' hS hA K hK; (simp only [List.map_cons, List.map_nil, knows, Is, Op.operands, Call.operands, List.lookup_cons, List.lookup_nil, Nat.reduceBEq, Bool.false_eq_true, if_false, if_true, Act.eval, Array.getD_eq_getD_getElem?, List.getElem?_toArray, List.getElem?_cons_succ, List.getElem?_cons_zero, Option.getD_some, and_true, true_and, List.append_toArray, List.nil_append, List.cons_append, List.toList_toArray, Array.toList_append, Option.toArray, List.append_nil] at hA); first | fail | (obtain ⟨hSc, hSf, hSs⟩ := hS.cells; go_simp; exact hK _ (by first | exact Ext.rfl' _ | exact Ext.new _ _ | assumption)))); (try simp only [List.nil_append, List.cons_append]))
      (refine walkI_is (u := ?_) rfl (by simp) rfl ?_ ?_; rotate_left; (focus (intro A w' hS hA K hK; (simp only [List.map_cons, List.map_nil, knows, Is, Op.operands, Call.operands, List.lookup_cons, List.lookup_nil, Nat.reduceBEq, Bool.false_eq_true, if_false, if_true, Act.eval, Array.getD_eq_getD_getElem?, List.getElem?_toArray, List.getElem?_cons_succ, List.getElem?_cons_zero, Option.getD_some, and_true, true_and, List.append_toArray, List.nil_append, List.cons_append, List.toList_toArray, Array.toList_append, Option.toArray, List.append_nil] at hA); first | fail | (obtain ⟨hSc, hSf, hSs⟩ := hS.cells; go_simp; exact hK _ (by first | exact Ext.rfl' _ | exact Ext.new _ _ | assumption)))); (try simp only [List.nil_append, List.cons_append]))
      (refine walkI_nil ?_; simp only [List.nil_append, List.cons_append, fins, Is, forall_eq, Act.put, List.setIfInBounds_toArray, List.set_cons_zero, List.set_cons_succ])
      intro w6 hx6
      replace hO2 := hO2.keep hx6
      replace hO3 := hO3.keep hx6
      clear f2 f3 z2 z3 k20 k21 k30 k31
      obtain ⟨c2, f2⟩ := hO2.facts
      obtain ⟨c3, f3⟩ := hO3.facts
      have z2 := hO2.lt
      have z3 := hO3.lt
      have k20 : _ = some (Value.int .i64 n) := c2 0
      have k21 : _ = some (Value.int .i64 d) := c2 1
      have k30 : _ = some (Value.int .i64 n') := c3 0
      have k31 : _ = some (Value.int .i64 d) := c3 1
      clear c2 c3
      have hxx := hx.then hx6
      go_upto_region 4 with (fail)
      (refine wp_region_I 8 (by kernel_rfl) (by kernel_rfl) ?_; simp only [List.toList_toArray, List.take_succ_cons, List.take_zero, List.drop_succ_cons, List.drop_zero])
      (refine walkI_is (u := ?_) rfl (by simp) rfl ?_ ?_; rotate_left; (focus (intro A w' hS hA K hK; (simp only [List.map_cons, List.map_nil, knows, Is, Op.operands, Call.operands, List.lookup_cons, List.lookup_nil, Nat.reduceBEq, Bool.false_eq_true, if_false, if_true, Act.eval, Array.getD_eq_getD_getElem?, List.getElem?_toArray, List.getElem?_cons_succ, List.getElem?_cons_zero, Option.getD_some, and_true, true_and, List.append_toArray, List.nil_append, List.cons_append, List.toList_toArray, Array.toList_append, Option.toArray, List.append_nil] at hA); first | fail | (obtain ⟨hSc, hSf, hSs⟩ := hS.cells; go_simp; exact hK _ (by first | exact Ext.rfl' _ | exact Ext.new _ _ | assumption)))); (try simp only [List.nil_append, List.cons_append]))
      (refine walkI_is (u := ?_) rfl (by simp) rfl ?_ ?_; rotate_left; (focus (intro A w' hS hA K hK; (simp only [List.map_cons, List.map_nil, knows, Is, Op.operands, Call.operands, List.lookup_cons, List.lookup_nil, Nat.reduceBEq, Bool.false_eq_true, if_false, if_true, Act.eval, Array.getD_eq_getD_getElem?, List.getElem?_toArray, List.getElem?_cons_succ, List.getElem?_cons_zero, Option.getD_some, and_true, true_and, List.append_toArray, List.nil_append, List.cons_append, List.toList_toArray, Array.toList_append, Option.toArray, List.append_nil] at hA); first | fail | (obtain ⟨hSc, hSf, hSs⟩ := hS.cells; go_simp; exact hK _ (by first | exact Ext.rfl' _ | exact Ext.new _ _ | assumption)))); (try simp only [List.nil_append, List.cons_append]))
      (refine walkI_is (u := ?_) rfl (by simp) rfl ?_ ?_; rotate_left; (focus (intro A w' hS hA K hK; (simp only [List.map_cons, List.map_nil, knows, Is, Op.operands, Call.operands, List.lookup_cons, List.lookup_nil, Nat.reduceBEq, Bool.false_eq_true, if_false, if_true, Act.eval, Array.getD_eq_getD_getElem?, List.getElem?_toArray, List.getElem?_cons_succ, List.getElem?_cons_zero, Option.getD_some, and_true, true_and, List.append_toArray, List.nil_append, List.cons_append, List.toList_toArray, Array.toList_append, Option.toArray, List.append_nil] at hA); first | (go_simp; refine RetV_at (hza.out w') ?_; intro w6 hx6; exact hK _ hx6) | (obtain ⟨hSc, hSf, hSs⟩ := hS.cells; go_simp; exact hK _ (by first | exact Ext.rfl' _ | exact Ext.new _ _ | assumption)))); (try simp only [List.nil_append, List.cons_append]))
      (refine walkI_is (u := ?_) rfl (by simp) rfl ?_ ?_; rotate_left; (focus (intro A w' hS hA K hK; (simp only [List.map_cons, List.map_nil, knows, Is, Op.operands, Call.operands, List.lookup_cons, List.lookup_nil, Nat.reduceBEq, Bool.false_eq_true, if_false, if_true, Act.eval, Array.getD_eq_getD_getElem?, List.getElem?_toArray, List.getElem?_cons_succ, List.getElem?_cons_zero, Option.getD_some, and_true, true_and, List.append_toArray, List.nil_append, List.cons_append, List.toList_toArray, Array.toList_append, Option.toArray, List.append_nil] at hA); first | fail | (obtain ⟨hSc, hSf, hSs⟩ := hS.cells; go_simp; exact hK _ (by first | exact Ext.rfl' _ | exact Ext.new _ _ | assumption)))); (try simp only [List.nil_append, List.cons_append]))
      (refine walkI_is (u := ?_) rfl (by simp) rfl ?_ ?_; rotate_left; (focus (intro A w' hS hA K hK; (simp only [List.map_cons, List.map_nil, knows, Is, Op.operands, Call.operands, List.lookup_cons, List.lookup_nil, Nat.reduceBEq, Bool.false_eq_true, if_false, if_true, Act.eval, Array.getD_eq_getD_getElem?, List.getElem?_toArray, List.getElem?_cons_succ, List.getElem?_cons_zero, Option.getD_some, and_true, true_and, List.append_toArray, List.nil_append, List.cons_append, List.toList_toArray, Array.toList_append, Option.toArray, List.append_nil] at hA); first | fail | (obtain ⟨hSc, hSf, hSs⟩ := hS.cells; go_simp; exact hK _ (by first | exact Ext.rfl' _ | exact Ext.new _ _ | assumption)))); (try simp only [List.nil_append, List.cons_append]))
      (refine walkI_is (u := ?_) rfl (by simp) rfl ?_ ?_; rotate_left; (focus (intro A w' hS hA K hK; (simp only [List.map_cons, List.map_nil, knows, Is, Op.operands, Call.operands, List.lookup_cons, List.lookup_nil, Nat.reduceBEq, Bool.false_eq_true, if_false, if_true, Act.eval, Array.getD_eq_getD_getElem?, List.getElem?_toArray, List.getElem?_cons_succ, List.getElem?_cons_zero, Option.getD_some, and_true, true_and, List.append_toArray, List.nil_append, List.cons_append, List.toList_toArray, Array.toList_append, Option.toArray, List.append_nil] at hA); first | (go_simp; refine RetV_at (hzb.out w') ?_; intro w6 hx6; exact hK _ hx6) | (obtain ⟨hSc, hSf, hSs⟩ := hS.cells; go_simp; exact hK _ (by first | exact Ext.rfl' _ | exact Ext.new _ _ | assumption)))); (try simp only [List.nil_append, List.cons_append]))
      (refine walkI_is (u := ?_) rfl (by simp) rfl ?_ ?_; rotate_left; (focus (intro A w' hS hA K hK; (simp only [List.map_cons, List.map_nil, knows, Is, Op.operands, Call.operands, List.lookup_cons, List.lookup_nil, Nat.reduceBEq, Bool.false_eq_true, if_false, if_true, Act.eval, Array.getD_eq_getD_getElem?, List.getElem?_toArray, List.getElem?_cons_succ, List.getElem?_cons_zero, Option.getD_some, and_true, true_and, List.append_toArray, List.nil_append, List.cons_append, List.toList_toArray, Array.toList_append, Option.toArray, List.append_nil] at hA); first | fail | (obtain ⟨hSc, hSf, hSs⟩ := hS.cells; go_simp; exact hK _ (by first | exact Ext.rfl' _ | exact Ext.new _ _ | assumption)))); (try simp only [List.nil_append, List.cons_append]))
      (refine walkI_is (u := ?_) rfl (by simp) rfl ?_ ?_; rotate_left; (focus (intro A w' hS hA K hK; (simp only [List.map_cons, List.map_nil, knows, Is, Op.operands, Call.operands, List.lookup_cons, List.lookup_nil, Nat.reduceBEq, Bool.false_eq_true, if_false, if_true, Act.eval, Array.getD_eq_getD_getElem?, List.getElem?_toArray, List.getElem?_cons_succ, List.getElem?_cons_zero, Option.getD_some, and_true, true_and, List.append_toArray, List.nil_append, List.cons_append, List.toList_toArray, Array.toList_append, Option.toArray, List.append_nil] at hA); first | fail | (obtain ⟨hSc, hSf, hSs⟩ := hS.cells; go_simp; exact hK _ (by first | exact Ext.rfl' _ | exact Ext.new _ _ | assumption)))); (try simp only [List.nil_append, List.cons_append]))
      (refine walkI_nil ?_; simp only [List.nil_append, List.cons_append, fins, Is, forall_eq, Act.put, List.setIfInBounds_toArray, List.set_cons_zero, List.set_cons_succ])
      intro w7 hx7
      go_wp2_with fail
      go_ret
      exact ⟨ret_bool (by rw [hs.out, Bool.eq_iff_iff]; first | done | simp), hxx.then hx7⟩
  · have hdd : (d != d') = true := by simpa using h1
    rw [if_pos h1] at hs
    go_wp2_with fail
    go_ret
    exact ⟨ret_bool hs.out.symm, hx⟩
def bst (b : Option Rat2) : Rat2 := b.getD ⟨0, 0⟩
def raC (r : Rat2) : Array Value := #[.int .i64 r.num, .int .i64 r.den]
set_option maxRecDepth 100000 in
set_option maxHeartbeats 4000000 in
theorem pick1_c (r : Rat2) (b : Option Rat2) (g6 g7 : Nat) (W0 w : World) (L : List Chunk) (hr : r.bd) (hb : ∀ q, b = some q → q.bd) (hM : Mem W0 noH (box g7 #[.bool b.isSome] 4 :: box g6 (raC (bst b)) 40 :: L) noH w) :
    Calls Try.prog 52 #[raA r, .pointer (some ⟨g7, 0, none⟩), .pointer (some ⟨g6, 0, none⟩)] w (fun e w' => e = .returned (.tuple #[]) ∧ Mem W0 noH (box g7 #[.bool (noteF b r).isSome] 4 :: box g6 (raC (bst (noteF b r))) 40 :: L) noH w') := by
  cases b with
  | none => exact pick1_f r ⟨0, 0⟩ g6 g7 W0 w L hM
  | some q =>
    have hsm := fun w => simpler_c r q w hr (hb q rfl)
    have hn : Hid (noteF (some q) r = if simplerB r q then some r else some q) := rfl
    generalize noteF (some q) r = nb at *
    generalize simplerB r q = sb at *
    have hM1 := hM.ext (Ext.new w (.cells #[.int .i64 r.num, .int .i64 r.den] 40))
    have hOx := Proofs.Ytmbkefgmiehdiaa.Own.new w #[.int .i64 r.num, .int .i64 r.den] 40
    have l7 := (hM.box 0 rfl).lt
    have l6 := (hM.box 1 rfl).lt
    have hne : g6 ≠ g7 := by
      intro e
      have h7 := hM.box 0 rfl
      have h6 := hM.box 1 rfl
      unfold Own at h7 h6
      rw [e, h7] at h6
      cases h6
    have hne2 : g6 ≠ w.heap.size := by omega
    have hne3 : g7 ≠ w.heap.size := by omega
    clear hr hb hM
    obtain ⟨rn, rd⟩ := r
    obtain ⟨qn, qd⟩ := q
    unfold raA raC bst at *
    dsimp only [Option.getD_some, Option.isSome_some] at *
    replace hsm := Lib.hid hsm
    go_enter Try.func52, Try.ntmps52
    go_upto_region 1 with (fail)
    generalize w.heap.size = bx at *
    generalize w.alloc _ = W at *
    have hO7 := hM1.box 0 rfl
    have hO6 := hM1.box 1 rfl
    obtain ⟨c7, f7⟩ := hO7.facts
    obtain ⟨c6, f6⟩ := hO6.facts
    obtain ⟨cx, fx⟩ := hOx.facts
    have z7 := hO7.lt
    have z6 := hO6.lt
    have zx := hOx.lt
    have k7 : _ = some (Value.bool true) := c7 0
    have k6 : _ = some (Value.int .i64 qn) := c6 0
    have k61 : _ = some (Value.int .i64 qd) := c6 1
    have kx : _ = some (Value.int .i64 rn) := cx 0
    have kx1 : _ = some (Value.int .i64 rd) := cx 1
    clear c7 c6 cx
    go_wp2_with fail
    refine RetV_at (hsm.out _) ?_
    intro w2 hx2
    replace hM1 := hM1.ext hx2
    replace hOx := hOx.keep hx2
    clear f7 f6 fx z7 z6 zx k7 k6 k61 kx kx1 hO7 hO6 hx2
    have hO7 := hM1.box 0 rfl
    have hO6 := hM1.box 1 rfl
    obtain ⟨c7, f7⟩ := hO7.facts
    obtain ⟨c6, f6⟩ := hO6.facts
    obtain ⟨cx, fx⟩ := hOx.facts
    have z7 := hO7.lt
    have z6 := hO6.lt
    have zx := hOx.lt
    have k7 : _ = some (Value.bool true) := c7 0
    have k6 : _ = some (Value.int .i64 qn) := c6 0
    have k61 : _ = some (Value.int .i64 qd) := c6 1
    have kx : _ = some (Value.int .i64 rn) := cx 0
    have kx1 : _ = some (Value.int .i64 rd) := cx 1
    clear c7 c6 cx
    cases sb with
    | true =>
      have hM2 := ((hM1.set 1 rfl 0 (.int .i64 rn)).set 1 rfl 1 (.int .i64 rd)).set 0 rfl 0 (.bool true)
      simp only [List.set_cons_succ, List.set_cons_zero, List.setIfInBounds_toArray] at hM2
      have hn2 : nb = some ⟨rn, rd⟩ := by rw [hn.out]; rfl
      subst hn2
      clear hM1 hO7 hO6 hOx
      go_wp2_with fail
      exact bodyPost_end (v := .tuple #[]) (by simp [results, Try.results52, go_sem]) rfl ⟨rfl, hM2⟩
    | false =>
      have hn2 : nb = some ⟨qn, qd⟩ := by rw [hn.out]; rfl
      subst hn2
      clear hO7 hO6 hOx
      go_wp2_with fail
      exact bodyPost_end (v := .tuple #[]) (by simp [results, Try.results52, go_sem]) rfl ⟨rfl, hM1⟩
theorem cands_step (x : Itv) (b : Option Rat2) : (cands x).foldl noteF b = if (betwS (loB x) (hiB x)).2 = 0 then noteF (if !x.hiI && !x.hiO then noteF (if !x.loI && !x.loO then noteF b x.lo else b) x.hi else (if !x.loI && !x.loO then noteF b x.lo else b)) (betwS (loB x) (hiB x)).1 else (if !x.hiI && !x.hiO then noteF (if !x.loI && !x.loO then noteF b x.lo else b) x.hi else (if !x.loI && !x.loO then noteF b x.lo else b)) := by
  unfold cands
  rw [List.foldl_append, List.foldl_append]
  by_cases h1 : (!x.loI && !x.loO) = true <;> by_cases h2 : (!x.hiI && !x.hiO) = true <;> by_cases h3 : (betwS (loB x) (hiB x)).2 = 0 <;> simp [h1, h2, h3]
theorem pick_take {l : List Itv} {k : Nat} (h : k < l.length) : ((l.take (k + 1)).flatMap cands).foldl noteF none = (cands l[k]).foldl noteF (((l.take k).flatMap cands).foldl noteF none) := by
  rw [List.take_add_one, List.getElem?_eq_getElem h, Option.toList_some, List.flatMap_append, List.foldl_append]
  simp
theorem note_bd {b : Option Rat2} {r : Rat2} (hb : ∀ q, b = some q → q.bd) (hr : r.bd) : ∀ q, noteF b r = some q → q.bd := by
  intro q h
  unfold noteF at h
  cases b with
  | none => cases h; exact hr
  | some p =>
    dsimp only at h
    split at h
    · cases h; exact hr
    · cases h; exact hb _ rfl
def pkL (b : Option Rat2) (x : Itv) (lo hi : Rat2) (g7 g6 g2 g10 g11 g12 : Nat) : List Chunk := [box g7 #[.bool b.isSome] 4, box g6 (raC (bst b)) 40, box g2 #[.int .i64 0, .int .i64 0] 40, box g10 (itC x).toArray 43, box g11 (raC lo) 40, box g12 (raC hi) 40]
def pickV (l : List Itv) : Option Rat2 := if setE l = 0 then pickF l else none
set_option maxRecDepth 100000 in
set_option maxHeartbeats 8000000 in
theorem pick_c (v : Value) (l : List Itv) (w : World) (hr : ItvsR (ph w) v l) : Calls Try.prog 23 #[v] w (RetV w (.tuple #[raA (bst (pickV l)), .bool (pickV l).isSome, .int .i64 (setE l)])) := by
  have hv := fun (w' : World) (hx : Ext w w') => valid_c v l w' (hr.mono mono_ItvR hx.ple)
  have hgd := Lib.hid (fun (h : setE l = 0) => (setE_0 h).1)
  have hpv : Hid (pickV l = if setE l = 0 then pickF l else none) := rfl
  obtain ⟨a, c, rfl, hll, hr⟩ := hr.form
  generalize pickV l = pv at *
  generalize setE l = e at *
  replace hv := Lib.hid hv
  have hM0 := ((((Mem.start w noH (noH_le _)).new #[.int .i64 0, .int .i64 0] 40)))
  simp only [List.nil_append] at hM0
  go_enter Try.func23, Try.ntmps23
  go_wp2_with fail
  refine RetV_at (hv.out _ (by repeat (first | (with_reducible assumption) | (with_reducible exact Ext.rfl' _) | (with_reducible exact Ext.new _ _) | (with_reducible refine Ext.alloc' ?_ _) | (with_reducible refine Ext.drew' ?_) | (with_reducible refine Ext.drewN' ?_ _) | (with_reducible refine Ext.set' ?_ ?_ _; rotate_left; (focus (first | omega | (simp; done) | (simp; omega)))) | (with_reducible refine Ext.then (b := ?_) ?_ ?_; rotate_left; rotate_left; (with_reducible assumption))))) ?_
  intro w1 hx1
  replace hM0 := hM0.ext hx1
  by_cases he : e = 0
  · subst he
    rw [if_pos rfl] at hpv
    have hgl := Lib.hid (hgd.out rfl)
    have hM1 := ((hM0.new #[.int .i64 0, .int .i64 0] 40).new' #[.bool false] 4 (n := w1.heap.size + 1) (by simp)).pick [2, 1, 0] (by decide)
    simp only [List.nil_append, List.cons_append, List.map_cons, List.map_nil, List.getElem?_cons_zero, List.getElem?_cons_succ, Option.getD_some] at hM1
    clear hM0 hv hgd
    go_upto_region 5 with (fail)
    generalize w1.heap.size + 1 = g7 at *
    generalize w1.heap.size = g6 at *
    generalize w.heap.size = g2 at *
    generalize (w1.alloc _).alloc _ = W at *
    go_wp2_with fail
    go_loopw [25] (fun vi wr => ∃ (k : Nat) (b : Option Rat2), k ≤ l.length ∧ vi = .int .i64 k ∧ Hid (b = ((l.take k).flatMap cands).foldl noteF none) ∧ Hid (∀ q, b = some q → q.bd) ∧ Mem w noH [box g7 #[.bool b.isSome] 4, box g6 (raC (bst b)) 40, box g2 #[.int .i64 0, .int .i64 0] 40] noH wr) (fun vi _ => l.length - (intOf vi).toNat)
    case atStart => exact ⟨0, none, by omega, rfl, Lib.hid (by simp), Lib.hid (fun q h => by cases h), hM1⟩
    case round =>
      clear hM1
      obtain ⟨k, b, hk, rfl, hb, hbd, hM⟩ := hrel
      by_cases hlt : k < l.length
      · obtain ⟨gb, go, rfl, h0, h1, h2, h3, h4, h5, h6, h7, hbl, hI⟩ := ItvsR.at (hr.mono mono_ItvR hM.ex.ple) k hlt
        have hja : decide (k < l.length) = true := decide_eq_true hlt
        have hgx := hgl.out _ (List.getElem_mem hlt)
        have hnx : Hid (((l.take (k + 1)).flatMap cands).foldl noteF none = (cands l[k]).foldl noteF b) := Lib.hid (by rw [hb.out]; exact pick_take hlt)
        have hst := cands_step l[k] b
        have hbw := fun w => btw_c (loB l[k]) (hiB l[k]) w (loB_B hgx).1.I (hiB_B hgx).1.I
        have hlob : Hid ((loB l[k]).I ∧ (hiB l[k]).I) := Lib.hid ⟨(loB_B hgx).1.I, (hiB_B hgx).1.I⟩
        have hbwr := Lib.hid (fun (h : (betwS (loB l[k]) (hiB l[k])).2 = 0) => ((cands_ok hgx).1 (betwS (loB l[k]) (hiB l[k])).1 (by unfold cands; rw [if_pos h]; simp)).1.bd)
        have hlb : Hid (loB l[k] = if l[k].loI then ⟨-2147483648, 1⟩ else l[k].lo) := rfl
        have hhb : Hid (hiB l[k] = if l[k].hiI then ⟨2147483648, 1⟩ else l[k].hi) := rfl
        have hsl := Lib.hid (fun (h : l[k].loI = false) => smallB_bd (goodB.smlo hgx h))
        have hsh := Lib.hid (fun (h : l[k].hiI = false) => smallB_bd (goodB.smhi hgx h))
        generalize betwS (loB l[k]) (hiB l[k]) = bw at *
        generalize loB l[k] = LL at *
        generalize hiB l[k] = RR at *
        clear hgx hI
        generalize l[k] = x at *
        obtain ⟨L, R, lO, rO, lI, rI⟩ := x
        obtain ⟨m, me⟩ := bw
        dsimp only at *
        rw [hst] at hnx
        clear hst
        replace hbw := Lib.hid hbw
        go_upto_region 9 with (fail)
        have hM3 := hM.new (itC ⟨L, R, lO, rO, lI, rI⟩).toArray 43
        simp only [List.nil_append, List.cons_append] at hM3
        change Mem w noH _ noH (wr.alloc (.cells #[.int .i64 L.num, .int .i64 L.den, .int .i64 R.num, .int .i64 R.den, .bool lO, .bool rO, .bool lI, .bool rI] 43)) at hM3
        clear h0 h1 h2 h3 h4 h5 h6 h7 hbl hM
        generalize wr.heap.size = g10 at *
        generalize wr.alloc _ = W9 at *
        have hO10 := hM3.box 3 rfl
        obtain ⟨c10, f10⟩ := hO10.facts
        have z10 := hO10.lt
        have k0 : _ = some (Value.int .i64 L.num) := c10 0
        have k1 : _ = some (Value.int .i64 L.den) := c10 1
        have k2 : _ = some (Value.int .i64 R.num) := c10 2
        have k3 : _ = some (Value.int .i64 R.den) := c10 3
        clear c10 hO10
        go_cut [11, 12] (fun v11 v12 wx => ∃ g11 g12, v11 = .pointer (some ⟨g11, 0, none⟩) ∧ v12 = .pointer (some ⟨g12, 0, none⟩) ∧ Mem w noH (pkL b ⟨L, R, lO, rO, lI, rI⟩ L R g7 g6 g2 g10 g11 g12) noH wx)
        case first =>
          go_region
          · have hM4 := (hM3.new (raC L) 40).new' (raC R) 40 (n := W9.heap.size + 1) (by simp)
            simp only [List.nil_append, List.cons_append] at hM4
            clear hM3
            go_wp2_with fail
            go_meet
            case rel => exact ⟨_, _, rfl, rfl, hM4.ext ((Ext.rfl' _).drew')⟩
          · have hM4 := ((hM3.new (raC R) 40).new' (raC L) 40 (n := W9.heap.size + 1) (by simp)).pick [0, 1, 2, 3, 5, 4] (by decide)
            simp only [List.nil_append, List.cons_append, List.map_cons, List.map_nil, List.getElem?_cons_zero, List.getElem?_cons_succ, Option.getD_some] at hM4
            clear hM3
            go_wp2_with fail
            go_meet
            case rel => exact ⟨_, _, rfl, rfl, hM4.ext ((Ext.rfl' _).drew')⟩
        case rest =>
          clear hM3 f10 z10 k0 k1 k2 k3
          obtain ⟨g11, g12, rfl, rfl, hM⟩ := hcut
          have hO10 := hM.box 3 rfl
          have hO11 := hM.box 4 rfl
          have hO12 := hM.box 5 rfl
          obtain ⟨c10, f10⟩ := hO10.facts
          obtain ⟨c11, f11⟩ := hO11.facts
          obtain ⟨c12, f12⟩ := hO12.facts
          have z10 := hO10.lt
          have z11 := hO11.lt
          have z12 := hO12.lt
          have k4 : _ = some (Value.bool lO) := c10 4
          have k5 : _ = some (Value.bool rO) := c10 5
          have k6 : _ = some (Value.bool lI) := c10 6
          have k7 : _ = some (Value.bool rI) := c10 7
          have l0 : _ = some (Value.int .i64 L.num) := c11 0
          have l1 : _ = some (Value.int .i64 L.den) := c11 1
          have m0 : _ = some (Value.int .i64 R.num) := c12 0
          have m1 : _ = some (Value.int .i64 R.den) := c12 1
          clear c10 c11 c12 hO10 hO11 hO12
          go_upto_if 34 with (fail)
          go_cut [] (fun wx => Mem w noH (pkL b ⟨L, R, lO, rO, lI, rI⟩ LL R g7 g6 g2 g10 g11 g12) noH wx)
          case first =>
            cases lI with
            | true =>
              have hM4 := (hM.set 4 rfl 0 (.int .i64 (-2147483648))).set 4 rfl 1 (.int .i64 1)
              have hq : LL = ⟨-2147483648, 1⟩ := hlb.out
              subst hq
              clear hM
              go_wp2_with fail
              go_meet
              case rel => exact hM4
            | false =>
              have hq : LL = L := hlb.out
              subst hq
              go_wp2_with fail
              go_meet
              case rel => exact hM
          case rest =>
            clear hM
            clear f10 f11 f12 z10 z11 z12 k4 k5 k6 k7 l0 l1 m0 m1
            have hM := hcut
            clear hcut
            have hO10 := hM.box 3 rfl
            have hO11 := hM.box 4 rfl
            have hO12 := hM.box 5 rfl
            obtain ⟨c10, f10⟩ := hO10.facts
            obtain ⟨c11, f11⟩ := hO11.facts
            obtain ⟨c12, f12⟩ := hO12.facts
            have z10 := hO10.lt
            have z11 := hO11.lt
            have z12 := hO12.lt
            have k4 : _ = some (Value.bool lO) := c10 4
            have k5 : _ = some (Value.bool rO) := c10 5
            have k6 : _ = some (Value.bool lI) := c10 6
            have k7 : _ = some (Value.bool rI) := c10 7
            have l0 : _ = some (Value.int .i64 LL.num) := c11 0
            have l1 : _ = some (Value.int .i64 LL.den) := c11 1
            have m0 : _ = some (Value.int .i64 R.num) := c12 0
            have m1 : _ = some (Value.int .i64 R.den) := c12 1
            clear c10 c11 c12 hO10 hO11 hO12
            go_upto_region 12 with (fail)
            go_upto_if 37 with (fail)
            go_cut [] (fun wx => Mem w noH (pkL b ⟨L, R, lO, rO, lI, rI⟩ LL RR g7 g6 g2 g10 g11 g12) noH wx)
            case first =>
              cases rI with
              | true =>
                have hM4 := (hM.set 5 rfl 0 (.int .i64 2147483648)).set 5 rfl 1 (.int .i64 1)
                have hq : RR = ⟨2147483648, 1⟩ := hhb.out
                subst hq
                clear hM
                go_wp2_with fail
                go_meet
                case rel => exact hM4
              | false =>
                have hq : RR = R := hhb.out
                subst hq
                go_wp2_with fail
                go_meet
                case rel => exact hM
            case rest =>
              clear hM
              clear f10 f11 f12 z10 z11 z12 k4 k5 k6 k7 l0 l1 m0 m1
              have hM := hcut
              clear hcut
              have hO10 := hM.box 3 rfl
              have hO11 := hM.box 4 rfl
              have hO12 := hM.box 5 rfl
              obtain ⟨c10, f10⟩ := hO10.facts
              obtain ⟨c11, f11⟩ := hO11.facts
              obtain ⟨c12, f12⟩ := hO12.facts
              have z10 := hO10.lt
              have z11 := hO11.lt
              have z12 := hO12.lt
              have k4 : _ = some (Value.bool lO) := c10 4
              have k5 : _ = some (Value.bool rO) := c10 5
              have k6 : _ = some (Value.bool lI) := c10 6
              have k7 : _ = some (Value.bool rI) := c10 7
              have l0 : _ = some (Value.int .i64 LL.num) := c11 0
              have l1 : _ = some (Value.int .i64 LL.den) := c11 1
              have m0 : _ = some (Value.int .i64 RR.num) := c12 0
              have m1 : _ = some (Value.int .i64 RR.den) := c12 1
              clear c10 c11 c12 hO10 hO11 hO12
              go_upto_region 14 with (fail)
              go_cut [46] (fun v wx => v = .bool (!lI && !lO) ∧ Mem w noH (pkL b ⟨L, R, lO, rO, lI, rI⟩ LL RR g7 g6 g2 g10 g11 g12) noH wx)
              case first =>
                cases lI with
                | true =>
                  go_wp2_with fail
                  go_meet
                  case rel => exact ⟨by simp, hM⟩
                | false =>
                  go_wp2_with fail
                  go_meet
                  case rel => exact ⟨by simp, hM⟩
              case rest =>
                clear hM
                clear f10 f11 f12 z10 z11 z12 k4 k5 k6 k7 l0 l1 m0 m1
                obtain ⟨rfl, hM⟩ := hcut
                obtain ⟨b1, hb1⟩ : ∃ b1, b1 = if (!lI && !lO) then noteF b L else b := ⟨_, rfl⟩
                have hbd1 : Hid (∀ q, b1 = some q → q.bd) := Lib.hid (by
                  rw [hb1]
                  split
                  · rename_i hh
                    simp only [Bool.and_eq_true, Bool.not_eq_true'] at hh
                    exact note_bd hbd.out (hsl.out hh.1)
                  · exact hbd.out)
                rw [← hb1] at hnx
                replace hb1 := Lib.hid hb1
                go_upto_if 46 with (fail)
                go_cut [] (fun wx => Mem w noH (pkL b1 ⟨L, R, lO, rO, lI, rI⟩ LL RR g7 g6 g2 g10 g11 g12) noH wx)
                case first =>
                  cases hc : (!lI && !lO) with
                  | true =>
                    have hq1 : b1 = noteF b L := by rw [hb1.out, hc]; rfl
                    subst hq1
                    simp only [Bool.and_eq_true, Bool.not_eq_true'] at hc
                    have hq : LL = L := by rw [hlb.out, hc.1]; rfl
                    subst hq
                    have hpk := pick1_c LL b g6 g7 w _ _ (hsl.out hc.1) hbd.out hM
                    unfold raA at hpk
                    replace hpk := Lib.hid hpk
                    have hO11 := hM.box 4 rfl
                    obtain ⟨c11, f11⟩ := hO11.facts
                    have z11 := hO11.lt
                    have l0 : _ = some (Value.int .i64 LL.num) := c11 0
                    have l1 : _ = some (Value.int .i64 LL.den) := c11 1
                    clear c11 hO11 hM
                    go_wp2_with fail
                    refine hpk.out.mono ?_
                    rintro e w6 ⟨rfl, hM7⟩
                    clear hpk f11 z11 l0 l1
                    go_wp2_with fail
                    go_meet
                    case rel => exact hM7
                  | false =>
                    have hq1 : b1 = b := by rw [hb1.out, hc]; rfl
                    subst hq1
                    go_wp2_with fail
                    go_meet
                    case rel => exact hM
                case rest =>
                  clear hM
                  have hM := hcut
                  clear hcut
                  have hO10 := hM.box 3 rfl
                  have hO11 := hM.box 4 rfl
                  have hO12 := hM.box 5 rfl
                  obtain ⟨c10, f10⟩ := hO10.facts
                  obtain ⟨c11, f11⟩ := hO11.facts
                  obtain ⟨c12, f12⟩ := hO12.facts
                  have z10 := hO10.lt
                  have z11 := hO11.lt
                  have z12 := hO12.lt
                  have k4 : _ = some (Value.bool lO) := c10 4
                  have k5 : _ = some (Value.bool rO) := c10 5
                  have k6 : _ = some (Value.bool lI) := c10 6
                  have k7 : _ = some (Value.bool rI) := c10 7
                  have l0 : _ = some (Value.int .i64 LL.num) := c11 0
                  have l1 : _ = some (Value.int .i64 LL.den) := c11 1
                  have m0 : _ = some (Value.int .i64 RR.num) := c12 0
                  have m1 : _ = some (Value.int .i64 RR.den) := c12 1
                  clear c10 c11 c12 hO10 hO11 hO12
                  go_upto_region 16 with (fail)
                  go_cut [57] (fun v wx => v = .bool (!rI && !rO) ∧ Mem w noH (pkL b1 ⟨L, R, lO, rO, lI, rI⟩ LL RR g7 g6 g2 g10 g11 g12) noH wx)
                  case first =>
                    cases rI with
                    | true =>
                      go_wp2_with fail
                      go_meet
                      case rel => exact ⟨by simp, hM⟩
                    | false =>
                      go_wp2_with fail
                      go_meet
                      case rel => exact ⟨by simp, hM⟩
                  case rest =>
                    clear hM
                    clear f10 f11 f12 z10 z11 z12 k4 k5 k6 k7 l0 l1 m0 m1
                    obtain ⟨rfl, hM⟩ := hcut
                    obtain ⟨b2, hb2⟩ : ∃ b2, b2 = if (!rI && !rO) then noteF b1 R else b1 := ⟨_, rfl⟩
                    have hbd2 : Hid (∀ q, b2 = some q → q.bd) := Lib.hid (by
                      rw [hb2]
                      split
                      · rename_i hh
                        simp only [Bool.and_eq_true, Bool.not_eq_true'] at hh
                        exact note_bd hbd1.out (hsh.out hh.1)
                      · exact hbd1.out)
                    rw [← hb2] at hnx
                    replace hb2 := Lib.hid hb2
                    go_upto_if 57 with (fail)
                    go_cut [] (fun wx => Mem w noH (pkL b2 ⟨L, R, lO, rO, lI, rI⟩ LL RR g7 g6 g2 g10 g11 g12) noH wx)
                    case first =>
                      cases hc : (!rI && !rO) with
                      | true =>
                        have hq1 : b2 = noteF b1 R := by rw [hb2.out, hc]; rfl
                        subst hq1
                        simp only [Bool.and_eq_true, Bool.not_eq_true'] at hc
                        have hq : RR = R := by rw [hhb.out, hc.1]; rfl
                        subst hq
                        have hpk := pick1_c RR b1 g6 g7 w _ _ (hsh.out hc.1) hbd1.out hM
                        unfold raA at hpk
                        replace hpk := Lib.hid hpk
                        have hO11 := hM.box 5 rfl
                        obtain ⟨c11, f11⟩ := hO11.facts
                        have z11 := hO11.lt
                        have l0 : _ = some (Value.int .i64 RR.num) := c11 0
                        have l1 : _ = some (Value.int .i64 RR.den) := c11 1
                        clear c11 hO11 hM
                        go_wp2_with fail
                        refine hpk.out.mono ?_
                        rintro e w6 ⟨rfl, hM7⟩
                        clear hpk f11 z11 l0 l1
                        go_wp2_with fail
                        go_meet
                        case rel => exact hM7
                      | false =>
                        have hq1 : b2 = b1 := by rw [hb2.out, hc]; rfl
                        subst hq1
                        go_wp2_with fail
                        go_meet
                        case rel => exact hM
                    case rest =>
                      clear hM
                      have hM := hcut
                      clear hcut
                      clear hb1 hb2 hbd1 hsl hsh hlb hhb
                      have hO10 := hM.box 3 rfl
                      have hO11 := hM.box 4 rfl
                      have hO12 := hM.box 5 rfl
                      obtain ⟨c10, f10⟩ := hO10.facts
                      obtain ⟨c11, f11⟩ := hO11.facts
                      obtain ⟨c12, f12⟩ := hO12.facts
                      have z10 := hO10.lt
                      have z11 := hO11.lt
                      have z12 := hO12.lt
                      have k4 : _ = some (Value.bool lO) := c10 4
                      have k5 : _ = some (Value.bool rO) := c10 5
                      have k6 : _ = some (Value.bool lI) := c10 6
                      have k7 : _ = some (Value.bool rI) := c10 7
                      have l0 : _ = some (Value.int .i64 LL.num) := c11 0
                      have l1 : _ = some (Value.int .i64 LL.den) := c11 1
                      have m0 : _ = some (Value.int .i64 RR.num) := c12 0
                      have m1 : _ = some (Value.int .i64 RR.den) := c12 1
                      clear c10 c11 c12 hO10 hO11 hO12
                      obtain ⟨ln, ld⟩ := LL
                      obtain ⟨rn, rd⟩ := RR
                      unfold raE raA at hbw
                      dsimp only at *
                      go_wp2_with fail
                      refine RetV_at (hbw.out _) ?_
                      intro w5 hx5
                      replace hM := hM.ext hx5
                      clear f10 f11 f12 z10 z11 z12 k4 k5 k6 k7 l0 l1 m0 m1
                      clear hx5 hbw
                      go_upto_region 19 with (fail)
                      have hM6 := hM.ext (Ext.new w5 (.cells (raC m) 40))
                      change Mem w noH _ noH (w5.alloc (.cells #[.int .i64 m.num, .int .i64 m.den] 40)) at hM6
                      have hO13 := Proofs.Ytmbkefgmiehdiaa.Own.new w5 #[.int .i64 m.num, .int .i64 m.den] 40
                      clear hM
                      generalize w5.heap.size = g13 at *
                      generalize w5.alloc _ = W5 at *
                      by_cases hme : me = 0
                      · subst hme
                        rw [if_pos rfl] at hnx
                        have hmb := hbwr.out rfl
                        have hpk := pick1_c m b2 g6 g7 w _ _ hmb hbd2.out hM6
                        unfold raA at hpk
                        replace hpk := Lib.hid hpk
                        obtain ⟨c13, f13⟩ := hO13.facts
                        have z13 := hO13.lt
                        have l0 : _ = some (Value.int .i64 m.num) := c13 0
                        have l1 : _ = some (Value.int .i64 m.den) := c13 1
                        have hbd3 : Hid (∀ q, noteF b2 m = some q → q.bd) := Lib.hid (note_bd hbd2.out hmb)
                        clear c13 hM6 hmb
                        go_wp2_with fail
                        refine hpk.out.mono ?_
                        rintro e w6 ⟨rfl, hM7⟩
                        clear hpk f13 z13 l0 l1 hO13
                        have hM8 := hM7.pick [0, 1, 2] (by decide)
                        simp only [List.map_cons, List.map_nil, List.getElem?_cons_zero, List.getElem?_cons_succ, Option.getD_some] at hM8
                        clear hM7
                        go_wp2_with fail
                        go_roundw
                        case rel => exact ⟨k + 1, _, by omega, by go_num, Lib.hid hnx.out.symm, hbd3, hM8⟩
                        case measure => simp [intOf]; omega
                      · rw [if_neg hme] at hnx
                        have hmb : (me == 0) = false := by simpa using hme
                        have hM8 := hM6.pick [0, 1, 2] (by decide)
                        unfold pkL at hM8
                        simp only [List.map_cons, List.map_nil, List.getElem?_cons_zero, List.getElem?_cons_succ, Option.getD_some] at hM8
                        clear hM6 hO13
                        go_wp2_with fail
                        go_roundw
                        case rel => exact ⟨k + 1, _, by omega, by go_num, Lib.hid hnx.out.symm, hbd2, hM8⟩
                        case measure => simp [intOf]; omega
      · have hja : decide (k < l.length) = false := by simpa using hlt
        have hbb : b = pv := by
          rw [hpv.out, hb.out, List.take_of_length_le (by omega)]
          rfl
        subst hbb
        have hO7 := hM.box 0 rfl
        have hO6 := hM.box 1 rfl
        have hO2 := hM.box 2 rfl
        obtain ⟨c7, f7⟩ := hO7.facts
        obtain ⟨c6, f6⟩ := hO6.facts
        obtain ⟨c2, f2⟩ := hO2.facts
        have z7 := hO7.lt
        have z6 := hO6.lt
        have z2 := hO2.lt
        generalize b.isSome = bi at *
        generalize bst b = bv at *
        obtain ⟨bn, bd⟩ := bv
        have k7 : _ = some (Value.bool bi) := c7 0
        have k60 : _ = some (Value.int .i64 bn) := c6 0
        have k61 : _ = some (Value.int .i64 bd) := c6 1
        have k20 : _ = some (Value.int .i64 0) := c2 0
        have k21 : _ = some (Value.int .i64 0) := c2 1
        have hx := ((hM.set 2 rfl 0 (.int .i64 bn)).set 2 rfl 1 (.int .i64 bd)).ex
        have hO2' := (hO2.set 0 (.int .i64 bn)).set 1 (.int .i64 bd)
        have hne : g2 ≠ g7 := by
          intro e
          unfold Own at hO7 hO2
          rw [e, hO7] at hO2
          cases hO2
        clear hM c7 c6 c2 hO7 hO6 hO2 hb hbd hpv hr hgl
        go_wp2_with fail
        go_region
        have hO3 := hO2'.drew
        have hx2 := hx.drew'
        clear f2 z2 k20 k21 k7 k60 k61 f7 f6 z7 z6 hO2' hx
        generalize ((wr.setCell _ _).setCell _ _).drew = W2 at *
        obtain ⟨c2, f2⟩ := hO3.facts
        have z2 := hO3.lt
        have k20 : _ = some (Value.int .i64 bn) := c2 0
        have k21 : _ = some (Value.int .i64 bd) := c2 1
        go_wp2_with fail
        exact bodyPost_ret (v := .tuple #[.agg #[.int .i64 bn, .int .i64 bd], .bool bi, .int .i64 0]) (by simp [results, Try.results23, go_sem, k20, k21, f2, z2]) rfl ⟨rfl, hx2⟩
  · rw [if_neg he] at hpv
    have heb : (e != 0) = true := by simpa using he
    have hpn : pv = none := hpv.out
    subst hpn
    have hO2 := hM0.box 0 rfl
    have hx := ((hM0.set 0 rfl 0 (.int .i64 0)).set 0 rfl 1 (.int .i64 0)).ex
    have hO3 := (hO2.set 0 (.int .i64 0)).set 1 (.int .i64 0)
    obtain ⟨c2, f2⟩ := hO2.facts
    have z2 := hO2.lt
    have k20 : _ = some (Value.int .i64 0) := c2 0
    have k21 : _ = some (Value.int .i64 0) := c2 1
    obtain ⟨c3, f3⟩ := hO3.facts
    have z3 := hO3.lt
    clear c2 hM0 hO2 hO3 hr hgd hv
    go_wp2_with fail
    exact bodyPost_ret (v := .tuple #[.agg #[.int .i64 0, .int .i64 0], .bool false, .int .i64 e]) (by simp [results, Try.results23, go_sem, c3, f3, z3]) rfl ⟨rfl, hx⟩
end Go.Proofs.Ytmbkefgmiehdiaa
namespace Go.Proofs.Ytmbkefgmiehdiaa
open Go.RowKit Go.Shelf
set_option linter.unusedSimpArgs false
set_option linter.unusedVariables false
theorem rsize_c (n : Int) (w : World) (h1 : -1099511627776 ≤ n) (h2 : n ≤ 1099511627776) : Calls Try.prog 57 #[.int .i64 n] w (RetV w (.int .i64 (n.natAbs : Int))) := by
  have hw : IntKind.i64.wrap (-n) = -n := wrap_id (by omega) (by omega)
  have hm : Hid (max n (-n) = (n.natAbs : Int)) := Lib.hid (by omega)
  go_enter Try.func57, Try.ntmps57
  go_wp2_with fail
  go_ret
  exact ⟨ret_int hm.out, (by repeat (first | (with_reducible assumption) | (with_reducible exact Ext.rfl' _) | (with_reducible exact Ext.new _ _) | (with_reducible refine Ext.alloc' ?_ _) | (with_reducible refine Ext.drew' ?_) | (with_reducible refine Ext.drewN' ?_ _) | (with_reducible refine Ext.set' ?_ ?_ _; rotate_left; (focus (first | omega | (simp; done) | (simp; omega)))) | (with_reducible refine Ext.then (b := ?_) ?_ ?_; rotate_left; rotate_left; (with_reducible assumption))))⟩
theorem floor_c (n d : Int) (w : World) (h1 : -1152921504606846976 ≤ n) (h2 : n ≤ 1152921504606846976) (h3 : 1 ≤ d) (h4 : d ≤ 1048576) : Calls Try.prog 96 #[.int .i64 n, .int .i64 d] w (RetV w (.int .i64 (n / d))) := by
  have hd0 : (d == 0) = false := by simp; omega
  have e1 : n / d * d ≤ n := Int.ediv_mul_le n (by omega)
  have e2 : n < (n / d + 1) * d := Int.lt_ediv_add_one_mul_self n (by omega)
  have ht : n.tdiv d * d + n.tmod d = n := by have := Int.mul_tdiv_add_tmod n d; rw [Int.mul_comm]; exact this
  have hb1 : (n.tdiv d).natAbs ≤ n.natAbs := Int.natAbs_tdiv_le_natAbs n d
  have hcase : (n.tdiv d * d ≤ n ∧ n.tdiv d = n / d) ∨ (n < n.tdiv d * d ∧ n.tdiv d - 1 = n / d) := by
    rcases Int.lt_or_le n 0 with hn | hn
    · have m1 : n.tmod d ≤ 0 := by
        have := Int.tmod_nonneg d (a := -n) (by omega)
        rw [Int.neg_tmod] at this; omega
      have m2 : -d < n.tmod d := Int.lt_tmod_of_pos n (by omega)
      rw [Int.add_mul, Int.one_mul] at e2
      by_cases h : n.tmod d = 0
      · left
        refine ⟨by omega, ?_⟩
        have e3 : n.tdiv d * d = n := by omega
        conv => rhs; rw [← e3]
        rw [Int.mul_ediv_cancel _ (by omega)]
      · right
        refine ⟨by omega, ?_⟩
        have e3 : n = n.tmod d + d + (n.tdiv d - 1) * d := by rw [Int.sub_mul, Int.one_mul]; omega
        conv => rhs; rw [e3]
        rw [Int.add_mul_ediv_right _ _ (by omega), Int.ediv_eq_zero_of_lt (by omega) (by omega), Int.zero_add]
    · left
      have m1 : 0 ≤ n.tmod d := Int.tmod_nonneg d hn
      exact ⟨by omega, by rw [Int.tdiv_eq_ediv_of_nonneg hn]⟩
  have hm1 : -2305843009213693952 ≤ n.tdiv d * d ∧ n.tdiv d * d ≤ 2305843009213693952 := by
    have m1 := Int.lt_tmod_of_pos n (show 0 < d by omega)
    have m2 := Int.tmod_lt_of_pos n (show 0 < d by omega)
    omega
  have w1 : IntKind.i64.wrap (n.tdiv d) = n.tdiv d := wrap_id (by omega) (by omega)
  have w2 : IntKind.i64.wrap (n.tdiv d * d) = n.tdiv d * d := wrap_id (by omega) (by omega)
  have w3 : IntKind.i64.wrap (n.tdiv d - 1) = n.tdiv d - 1 := wrap_id (by omega) (by omega)
  generalize n / d = q at *
  clear e1 e2 ht hb1 hm1
  rcases hcase with ⟨h5, rfl⟩ | ⟨h5, rfl⟩
  · have hdc : decide (n < n.tdiv d * d) = false := by simpa using h5
    go_enter Try.func96, Try.ntmps96
    go_wp2_with fail
    go_ret
    exact ⟨rfl, (by repeat (first | (with_reducible assumption) | (with_reducible exact Ext.rfl' _) | (with_reducible exact Ext.new _ _) | (with_reducible refine Ext.alloc' ?_ _) | (with_reducible refine Ext.drew' ?_) | (with_reducible refine Ext.drewN' ?_ _) | (with_reducible refine Ext.set' ?_ ?_ _; rotate_left; (focus (first | omega | (simp; done) | (simp; omega)))) | (with_reducible refine Ext.then (b := ?_) ?_ ?_; rotate_left; rotate_left; (with_reducible assumption))))⟩
  · have hdc : decide (n < n.tdiv d * d) = true := by simpa using h5
    go_enter Try.func96, Try.ntmps96
    go_wp2_with fail
    go_ret
    exact ⟨rfl, (by repeat (first | (with_reducible assumption) | (with_reducible exact Ext.rfl' _) | (with_reducible exact Ext.new _ _) | (with_reducible refine Ext.alloc' ?_ _) | (with_reducible refine Ext.drew' ?_) | (with_reducible refine Ext.drewN' ?_ _) | (with_reducible refine Ext.set' ?_ ?_ _; rotate_left; (focus (first | omega | (simp; done) | (simp; omega)))) | (with_reducible refine Ext.then (b := ?_) ?_ ?_; rotate_left; rotate_left; (with_reducible assumption))))⟩
def IntsG (L : List Int) (w : World) (e : Ending) (w' : World) : Prop := ∃ v, e = .returned v ∧ Ext w w' ∧ OwnS w.heap.size noH w' IntR 1 3 v L
theorem lit3 {w : World} {a b c : Int} {T : TypeId} (ha : I64 a) (hb : I64 b) (hc : I64 c) : Src (w.alloc (.cells #[.int .i64 a, .int .i64 b, .int .i64 c] T)) noH IntR 1 (.slice (some ⟨w.heap.size, 0, none⟩) 3 3) [a, b, c] :=
  (Src.ofRep (sliceArr (E := IntR) (sz := 1) (n := 3) (xs := [a, b, c]) (Proofs.Ytmbkefgmiehdiaa.Own.new w #[.int .i64 a, .int .i64 b, .int .i64 c] T) ⟨[_], [_, _], rfl, rfl, ⟨rfl, ha⟩, [_], [_], rfl, rfl, ⟨rfl, hb⟩, [_], [], rfl, rfl, ⟨rfl, hc⟩, rfl⟩ rfl (by decide)) (fun _ _ h => h)).free (fun _ _ h => h)
set_option maxRecDepth 100000 in
set_option maxHeartbeats 4000000 in
theorem near_c (x : Itv) (d : Int) (w : World) (hx : goodB x = true) (h1 : 1 ≤ d) (h2 : d ≤ 65536) : Calls Try.prog 54 #[itA x, .int .i64 d] w (IntsG (nearL x d) w) := by
  have hbd := nearL_bd hx h1 h2
  have hn : nearL x d = [0, 1, -1] ++ (if x.loI then [] else [x.lo.num * d / x.lo.den, x.lo.num * d / x.lo.den + 1, x.lo.num * d / x.lo.den + 2]) ++ (if x.hiI then [] else [x.hi.num * d / x.hi.den - 1, x.hi.num * d / x.hi.den, x.hi.num * d / x.hi.den + 1]) := rfl
  have hq : ∀ r : Rat2, smallB r = true → (-70368744177664 ≤ r.num * d ∧ r.num * d ≤ 70368744177664) ∧ 1 ≤ r.den ∧ r.den ≤ 32768 := fun r hr => by
    obtain ⟨q1, q2, q3⟩ := smallB_iff.1 hr
    obtain ⟨a1, a2, a3, a4, -⟩ := ratOk_iff.1 q1
    have m1 : r.num * d ≤ 1073741824 * d := Int.mul_le_mul_of_nonneg_right (by omega) (by omega)
    have m2 : -1073741824 * d ≤ r.num * d := Int.mul_le_mul_of_nonneg_right (by omega) (by omega)
    omega
  have hlo := fun (h : x.loI = false) => hq _ (goodB.smlo hx h)
  have hhi := fun (h : x.hiI = false) => hq _ (goodB.smhi hx h)
  have hl0 : x.loI = false → (x.lo.num * d / x.lo.den).natAbs ≤ 70368744177666 := fun h => hbd _ (by rw [hn, h]; simp)
  have hh0 : x.hiI = false → (x.hi.num * d / x.hi.den).natAbs ≤ 70368744177666 := fun h => hbd _ (by rw [hn, h]; simp)
  have hfl := fun (h : x.loI = false) w => floor_c (x.lo.num * d) x.lo.den w (by have := hlo h; omega) (by have := hlo h; omega) (hlo h).2.1 (by have := hlo h; omega)
  have hfh := fun (h : x.hiI = false) w => floor_c (x.hi.num * d) x.hi.den w (by have := hhi h; omega) (by have := hhi h; omega) (hhi h).2.1 (by have := hhi h; omega)
  have hwl : x.loI = false → IntKind.i64.wrap (x.lo.num * d) = x.lo.num * d := fun h => wrap_id (by have := hlo h; omega) (by have := hlo h; omega)
  have hwh : x.hiI = false → IntKind.i64.wrap (x.hi.num * d) = x.hi.num * d := fun h => wrap_id (by have := hhi h; omega) (by have := hhi h; omega)
  clear hbd hq hlo hhi
  generalize nearL x d = NL at *
  obtain ⟨⟨a, b⟩, ⟨c, e⟩, lO, rO, lI, rI⟩ := x
  unfold itA
  dsimp only at *
  generalize a * d / b = f at *
  generalize c * d / e = g at *
  clear hx
  replace hn := Lib.hid hn
  replace hfl := Lib.hid hfl
  replace hfh := Lib.hid hfh
  replace hwl := Lib.hid hwl
  replace hwh := Lib.hid hwh
  replace hl0 := Lib.hid hl0
  replace hh0 := Lib.hid hh0
  have hM0 := ((Mem.start w noH (noH_le _)).new #[.int .i64 a, .int .i64 b, .int .i64 c, .int .i64 e, .bool lO, .bool rO, .bool lI, .bool rI] 43).new' #[.int .i64 0, .int .i64 1, .int .i64 (-1)] 3 (n := w.heap.size + 1) (by simp)
  simp only [List.nil_append, List.cons_append] at hM0
  have hM1 := hM0.asOwn (E := IntR) (sz := 1) (xs := [0, 1, -1]) (n := 3) 1 rfl mono_IntR (by simp) (by decide) rfl (by exact ⟨[_], [_, _], rfl, rfl, ⟨rfl, by unfold I64; omega⟩, [_], [_], rfl, rfl, ⟨rfl, by unfold I64; omega⟩, [_], [], rfl, rfl, ⟨rfl, by unfold I64; omega⟩, rfl⟩)
  simp only [List.set_cons_zero, List.set_cons_succ] at hM1
  change Mem w noH [box w.heap.size _ _, own mono_IntR 1 3 (.slice (some ⟨w.heap.size + 1, 0, none⟩) 3 3) [0, 1, -1]] noH _ at hM1
  clear hM0
  go_enter Try.func54, Try.ntmps54
  go_upto_region 2 with (fail)
  generalize w.heap.size + 1 = g3 at *
  generalize w.heap.size = g2 at *
  generalize (w.alloc _).alloc _ = W at *
  have hO2 := hM1.box 0 rfl
  obtain ⟨c2, f2⟩ := hO2.facts
  have z2 := hO2.lt
  have k0 : _ = some (Value.int .i64 a) := c2 0
  have k1 : _ = some (Value.int .i64 b) := c2 1
  have k6 : _ = some (Value.bool lI) := c2 6
  clear c2 hO2
  go_upto_if 11 with (fail)
  go_cut [5] (fun v wx => Mem w noH [box g2 #[.int .i64 a, .int .i64 b, .int .i64 c, .int .i64 e, .bool lO, .bool rO, .bool lI, .bool rI] 43, own mono_IntR 1 3 v ([0, 1, -1] ++ (if lI then [] else [f, f + 1, f + 2]))] noH wx)
  case first =>
    cases lI with
    | true =>
      go_wp2_with fail
      go_meet
      case rel => exact hM1
    | false =>
      have hf1 := Lib.hid (hfl.out (by first | trivial | rfl))
      have hw1 := hwl.out (by first | trivial | rfl)
      have hb1 := hl0.out (by first | trivial | rfl)
      have w1 : IntKind.i64.wrap (f + 1) = f + 1 := wrap_id (by omega) (by omega)
      have w2 : IntKind.i64.wrap (f + 2) = f + 2 := wrap_id (by omega) (by omega)
      go_wp2_with fail
      refine RetV_at (hf1.out _) ?_
      intro w3 hx3
      replace hM1 := hM1.ext hx3
      clear hx3 hf1 f2 z2 k0 k1 k6
      have hM2 := hM1.ext (Ext.new w3 (.cells #[.int .i64 f, .int .i64 (f + 1), .int .i64 (f + 2)] 3))
      have hS := lit3 (w := w3) (a := f) (b := f + 1) (c := f + 2) (T := 3) (by unfold I64; omega) (by unfold I64; omega) (by unfold I64; omega)
      clear hM1
      go_wp2_with (at_builtin; refine wpList_append_M 1 rfl _ _ 22 rfl Try.underlying22 infoInt rfl rfl rfl (hM2) rfl (hS) one_IntR ?c3 ?c4 ?c5)
      case c3 => simp
      case c4 => simp
      case c5 =>
        intro v' w' hM3
        try simp only [List.set_cons_zero, List.set_cons_succ] at hM3
        clear hM2 hS
        go_wp2_with fail
        go_meet
        case rel => exact hM3
  case rest =>
    clear hM1 f2 z2 k0 k1 k6
    have hM1 := hcut
    clear hcut
    obtain ⟨L1, hL1⟩ : ∃ L1, L1 = [0, 1, -1] ++ (if lI then [] else [f, f + 1, f + 2]) := ⟨_, rfl⟩
    rw [← hL1] at hM1 hn
    have hll : L1.length ≤ 6 := by rw [hL1]; split <;> simp
    clear hL1
    rename_i v5 wx
    have hO2 := hM1.box 0 rfl
    obtain ⟨c2, f2⟩ := hO2.facts
    have z2 := hO2.lt
    have k0 : _ = some (Value.int .i64 c) := c2 2
    have k1 : _ = some (Value.int .i64 e) := c2 3
    have k6 : _ = some (Value.bool rI) := c2 7
    clear c2 hO2
    obtain ⟨pv, qv, rfl, -⟩ := hM1.form 1 rfl
    cases rI with
    | true =>
      have hr := hM1.ownS 1 rfl
      have hx := hM1.ex
      have hn2 : Hid (NL = L1) := Lib.hid (by rw [hn.out]; simp)
      clear hM1
      go_wp2_with fail
      go_ret
      exact ⟨_, rfl, hx, by rw [hn2.out]; exact hr⟩
    | false =>
      have hf1 := Lib.hid (hfh.out (by first | trivial | rfl))
      have hw1 := hwh.out (by first | trivial | rfl)
      have hb1 := hh0.out (by first | trivial | rfl)
      have w1 : IntKind.i64.wrap (g + 1) = g + 1 := wrap_id (by omega) (by omega)
      have w2 : IntKind.i64.wrap (g - 1) = g - 1 := wrap_id (by omega) (by omega)
      have hn2 : Hid (NL = L1 ++ [g - 1, g, g + 1]) := Lib.hid (by rw [hn.out]; simp)
      go_wp2_with fail
      refine RetV_at (hf1.out _) ?_
      intro w3 hx3
      replace hM1 := hM1.ext hx3
      clear hx3 hf1 f2 z2 k0 k1 k6
      have hM2 := hM1.ext (Ext.new w3 (.cells #[.int .i64 (g - 1), .int .i64 g, .int .i64 (g + 1)] 3))
      have hS := lit3 (w := w3) (a := g - 1) (b := g) (c := g + 1) (T := 3) (by unfold I64; omega) (by unfold I64; omega) (by unfold I64; omega)
      clear hM1
      go_wp2_with (at_builtin; refine wpList_append_M 1 rfl _ _ 22 rfl Try.underlying22 infoInt rfl rfl rfl (hM2) rfl (hS) one_IntR ?c3 ?c4 ?c5)
      case c3 => simp; omega
      case c4 => simp; omega
      case c5 =>
        intro v' w' hM3
        try simp only [List.set_cons_zero, List.set_cons_succ] at hM3
        have hr := hM3.ownS 1 rfl
        have hx := hM3.ex
        clear hM2 hS hM3
        go_wp2_with fail
        go_ret
        exact ⟨_, rfl, hx, by rw [hn2.out]; exact hr⟩
theorem note_some {q r : Rat2} (h : q.den = r.den) : noteF (some q) r = if (if r.num.natAbs ≠ q.num.natAbs then decide (r.num.natAbs < q.num.natAbs) else decide (q.num < r.num)) = true then some r else some q := by
  unfold noteF simplerB
  dsimp only
  rw [if_neg (show ¬ r.den ≠ q.den by rw [h]; simp)]
theorem accN_take {x : Itv} {d : Int} {N : List Int} {k : Nat} (h : k < N.length) : accN x d (N.take (k + 1)) = accN x d (N.take k) ++ (if okN x d N[k] then [(ofS N[k] d).1] else []) := by
  unfold accN
  rw [List.take_add_one, List.getElem?_eq_getElem h, Option.toList_some, List.filter_append, List.map_append]
  congr 1
  rw [List.filter_cons]
  split <;> simp
theorem refP_take {l : List Itv} {d : Int} {k : Nat} (h : k < l.length) : ((l.take (k + 1)).flatMap fun x => accN x d (nearL x d)).foldl noteF none = (accN l[k] d (nearL l[k] d)).foldl noteF (((l.take k).flatMap fun x => accN x d (nearL x d)).foldl noteF none) := by
  rw [List.take_add_one, List.getElem?_eq_getElem h, Option.toList_some, List.flatMap_append, List.foldl_append]
  simp
set_option maxRecDepth 100000 in
set_option maxHeartbeats 16000000 in
theorem rpick_c (v : Value) (l : List Itv) (w : World) (hr : ItvsR (ph w) v l) : Calls Try.prog 24 #[v] w (RetV w (.tuple #[raA (bst (pickV l)), .bool (pickV l).isSome, .int .i64 (setE l)])) := by
  have hv := fun (w' : World) (hx : Ext w w') => rvalid4_c v l w' (hr.mono mono_ItvR hx.ple)
  have hgd := Lib.hid (fun (h : setE l = 0) => (setE_0 h).1)
  have hpv : Hid (pickV l = if setE l = 0 then pickF l else none) := rfl
  obtain ⟨a, c, rfl, hll, hr⟩ := hr.form
  generalize pickV l = pv at *
  generalize setE l = e at *
  replace hv := Lib.hid hv
  have hM0 := ((((Mem.start w noH (noH_le _)).new #[.int .i64 0, .int .i64 0] 40)))
  simp only [List.nil_append] at hM0
  go_enter Try.func24, Try.ntmps24
  go_wp2_with fail
  refine RetV_at (hv.out _ (by repeat (first | (with_reducible assumption) | (with_reducible exact Ext.rfl' _) | (with_reducible exact Ext.new _ _) | (with_reducible refine Ext.alloc' ?_ _) | (with_reducible refine Ext.drew' ?_) | (with_reducible refine Ext.drewN' ?_ _) | (with_reducible refine Ext.set' ?_ ?_ _; rotate_left; (focus (first | omega | (simp; done) | (simp; omega)))) | (with_reducible refine Ext.then (b := ?_) ?_ ?_; rotate_left; rotate_left; (with_reducible assumption))))) ?_
  intro w1 hx1
  replace hM0 := hM0.ext hx1
  rcases (Decidable.em (e = 0)).symm with he | he
  · rw [if_neg he] at hpv
    have heb : (e != 0) = true := by simpa using he
    have hpn : pv = none := hpv.out
    subst hpn
    have hO2 := hM0.box 0 rfl
    have hx := ((hM0.set 0 rfl 0 (.int .i64 0)).set 0 rfl 1 (.int .i64 0)).ex
    have hO3 := (hO2.set 0 (.int .i64 0)).set 1 (.int .i64 0)
    obtain ⟨c2, f2⟩ := hO2.facts
    have z2 := hO2.lt
    have k20 : _ = some (Value.int .i64 0) := c2 0
    have k21 : _ = some (Value.int .i64 0) := c2 1
    obtain ⟨c3, f3⟩ := hO3.facts
    have z3 := hO3.lt
    clear c2 hM0 hO2 hO3 hr hgd hv
    go_wp2_with fail
    exact bodyPost_ret (v := .tuple #[.agg #[.int .i64 0, .int .i64 0], .bool false, .int .i64 e]) (by simp [results, Try.results24, go_sem, c3, f3, z3]) rfl ⟨rfl, hx⟩
  · subst he
    rw [if_pos rfl] at hpv
    have hgl := hgd.out rfl
    by_cases hl0 : l.length = 0
    · have hl1 : l = [] := List.length_eq_zero_iff.1 hl0
      have hpn : pv = none := by rw [hpv.out, hl1]; rfl
      subst hpn
      have hlb : ((l.length : Int) == 0) = true := by simp [hl0]
      have hO2 := hM0.box 0 rfl
      have hx := ((hM0.set 0 rfl 0 (.int .i64 0)).set 0 rfl 1 (.int .i64 0)).ex
      have hO3 := (hO2.set 0 (.int .i64 0)).set 1 (.int .i64 0)
      obtain ⟨c2, f2⟩ := hO2.facts
      have z2 := hO2.lt
      have k20 : _ = some (Value.int .i64 0) := c2 0
      have k21 : _ = some (Value.int .i64 0) := c2 1
      obtain ⟨c3, f3⟩ := hO3.facts
      have z3 := hO3.lt
      clear c2 hM0 hO2 hO3 hr hgd hv hl1 hgl
      generalize l.length = n at *
      subst hl0
      go_wp2_with fail
      exact bodyPost_ret (v := .tuple #[.agg #[.int .i64 0, .int .i64 0], .bool false, .int .i64 0]) (by simp [results, Try.results24, go_sem, c3, f3, z3]) rfl ⟨rfl, hx⟩
    · have hlb : ((l.length : Int) == 0) = false := by rw [beq_eq_false_iff_ne]; omega
      obtain ⟨r0, hr0⟩ : ∃ r0, pv = some r0 := by
        cases hq : pv with
        | some r => exact ⟨r, rfl⟩
        | none =>
          have := (pick_law hgl).1.1 (by rw [← hpv.out, hq])
          exact absurd (by rw [this]; rfl) hl0
      have hpf : pickF l = some r0 := by rw [← hpv.out, hr0]
      obtain ⟨hp1, hp2, hp3, -⟩ := (pick_law hgl).2 r0 hpf
      obtain ⟨hq1, hq2⟩ := refP_law hgl hpf
      have hp4 := (ratOk_iff.1 hp1).1
      obtain ⟨D, hD⟩ : ∃ D : Nat, r0.den = D := ⟨r0.den.toNat, by omega⟩
      have hD1 : D ≤ 65536 := by omega
      have hD2 : 1 ≤ D := by omega
      replace hq1 := Lib.hid hq1
      replace hq2 := Lib.hid hq2
      replace hgl := Lib.hid hgl
      have hDh := Lib.hid hD
      clear hgd hv hD hp1 hp2 hp3 hp4
      go_wp2_with fail
      go_loopw [6] (fun vd wr => ∃ d : Nat, 1 ≤ d ∧ d ≤ D ∧ vd = .int .i64 d ∧ Mem w noH [box w.heap.size #[.int .i64 0, .int .i64 0] 40] noH wr) (fun vd _ => D + 1 - (intOf vd).toNat)
      case atStart => exact ⟨1, by omega, by omega, rfl, hM0⟩
      case round =>
        clear hM0
        obtain ⟨d, hd1, hd2, rfl, hM⟩ := hrel
        have hM1 := hM.new #[.int .i64 0, .int .i64 0] 40
        simp only [List.nil_append, List.cons_append] at hM1
        clear hM
        go_upto_region 9 with (fail)
        generalize wr.heap.size = g7 at *
        generalize wr.alloc _ = W at *
        go_wp2_with fail
        go_loopw [8, 9] (fun v8 vi wq => ∃ (i : Nat) (b : Option Rat2), i ≤ l.length ∧ vi = .int .i64 i ∧ v8 = .bool b.isSome ∧ Hid (b = ((l.take i).flatMap fun x => accN x d (nearL x d)).foldl noteF none) ∧ Hid (∀ q, b = some q → q.bd ∧ q.den = d) ∧ Mem w noH [box w.heap.size #[.int .i64 0, .int .i64 0] 40, box g7 (raC (bst b)) 40] noH wq) (fun _ vi _ => l.length - (intOf vi).toNat)
        case atStart => exact ⟨0, none, by omega, rfl, rfl, Lib.hid (by simp), Lib.hid (fun q h => by cases h), hM1⟩
        case round =>
          clear hM1
          obtain ⟨i, b, hi, rfl, rfl, hb, hbd, hM⟩ := hrel
          rcases (Decidable.em (i < l.length)).symm with hlt | hlt
          · have hja : decide (i < l.length) = false := by simpa using hlt
            have hbr : b = refP l d := by rw [hb.out, List.take_of_length_le (by omega)]; rfl
            by_cases hdD : d = D
            · have hbs : b = some r0 := by rw [hbr, hdD, ← hDh.out]; exact hq2.out
              have hpb : pv = some r0 := hr0
              clear hr0 hpf
              subst hbs hpb
              have hO2 := hM.box 0 rfl
              have hO7 := hM.box 1 rfl
              have hx := ((hM.set 0 rfl 0 (.int .i64 r0.num)).set 0 rfl 1 (.int .i64 r0.den)).ex
              have hO3 := (hO2.set 0 (.int .i64 r0.num)).set 1 (.int .i64 r0.den)
              obtain ⟨c2, f2⟩ := hO2.facts
              obtain ⟨c7, f7⟩ := hO7.facts
              have z2 := hO2.lt
              have z7 := hO7.lt
              have k20 : _ = some (Value.int .i64 0) := c2 0
              have k21 : _ = some (Value.int .i64 0) := c2 1
              have k70 : _ = some (Value.int .i64 r0.num) := c7 0
              have k71 : _ = some (Value.int .i64 r0.den) := c7 1
              obtain ⟨c3, f3⟩ := hO3.facts
              have z3 := hO3.lt
              clear c2 c7 hM hO2 hO7 hO3 hr hb hbd hbr hpv
              go_wp2_with fail
              exact bodyPost_ret (v := .tuple #[.agg #[.int .i64 r0.num, .int .i64 r0.den], .bool true, .int .i64 0]) (by simp [results, Try.results24, go_sem, c3, f3, z3]) rfl ⟨rfl, hx⟩
            · have hbs : b = none := by rw [hbr]; exact hq1.out d (by omega) (by have := hDh.out; omega)
              subst hbs
              have hM8 := hM.pick [0] (by decide)
              simp only [List.map_cons, List.map_nil, List.getElem?_cons_zero, List.getElem?_cons_succ, Option.getD_some] at hM8
              clear hM
              go_wp2_with fail
              go_roundw
              case rel => exact ⟨d + 1, by omega, by omega, by go_num, hM8⟩
              case measure => simp [intOf]; omega
          · obtain ⟨gb, go, rfl, h0, h1, h2, h3, h4, h5, h6, h7, -, hI⟩ := ItvsR.at hr i hlt
            have hja : decide (i < l.length) = true := decide_eq_true hlt
            have hgx := hgl.out _ (List.getElem_mem hlt)
            have hnx : Hid (((l.take (i + 1)).flatMap fun x => accN x d (nearL x d)).foldl noteF none = (accN l[i] d (nearL l[i] d)).foldl noteF b) := Lib.hid (by rw [hb.out]; exact refP_take hlt)
            have hne := fun w => near_c l[i] d w hgx (by omega) (by omega)
            have hnb := nearL_bd hgx (show (1 : Int) ≤ d by omega) (by omega)
            have hin := Lib.hid (fun (r : Rat2) (h : RatOk r) w => rin_c l[i] r w hgx h)
            have hokd : Hid (∀ n, okN l[i] d n = (decide ((ofS n d).2 = 0) && decide ((ofS n d).1.den = d) && hasB l[i] (ofS n d).1)) := Lib.hid (fun n => rfl)
            have hac := Lib.hid (fun (N : List Int) (k : Nat) (h : k < N.length) => accN_take (x := l[i]) (d := (d : Int)) h)
            have hac0 : Hid (accN l[i] d [] = []) := Lib.hid rfl
            unfold itA at hne
            generalize accN l[i] d = acc at *
            generalize okN l[i] d = okk at *
            generalize nearL l[i] d = N at *
            clear hgx hI
            generalize hasB l[i] = hasx at *
            generalize l[i] = x at *
            obtain ⟨⟨p1, p2⟩, ⟨p3, p4⟩, lO, rO, lI, rI⟩ := x
            unfold itA at hin
            dsimp only at *
            replace hne := Lib.hid hne
            have hcs := Lib.hid (fun (w' : World) (hx : Ext w w') => And.intro (hx.cell1 h0) (And.intro (hx.cell1 h1) (And.intro (hx.cell1 h2) (And.intro (hx.cell1 h3) (And.intro (hx.cell1 h4) (And.intro (hx.cell1 h5) (And.intro (hx.cell1 h6) (hx.cell1 h7))))))))
            clear h0 h1 h2 h3 h4 h5 h6 h7
            obtain ⟨h0, h1, h2, h3, h4, h5, h6, h7⟩ := hcs.out wr hM.ex
            have hbl := cell_lt h0
            go_wp2_with fail
            refine (hne.out _).mono ?_
            rintro e w3 ⟨vN, rfl, hx3, hN⟩
            have hM2 := hM.addO (hm := mono_IntR) hx3 hN
            simp only [List.cons_append, List.nil_append] at hM2
            clear hne hbl hx3 h0 h1 h2 h3 h4 h5 h6 h7 hM hN
            go_wp2_with fail
            go_loopw [8, 11] (fun v8 vk wq2 => ∃ (k : Nat) (b' : Option Rat2), k ≤ N.length ∧ vk = .int .i64 k ∧ v8 = .bool b'.isSome ∧ Hid (b' = (acc (N.take k)).foldl noteF b) ∧ Hid (∀ q, b' = some q → q.bd ∧ q.den = d) ∧ Mem w noH [box w.heap.size #[.int .i64 0, .int .i64 0] 40, box g7 (raC (bst b')) 40, own mono_IntR 1 3 vN N] noH wq2) (fun _ vk _ => N.length - (intOf vk).toNat)
            case atStart => exact ⟨0, b, by omega, rfl, rfl, Lib.hid (by rw [List.take_zero, hac0.out]; rfl), hbd, hM2⟩
            case round =>
              clear hM2
              obtain ⟨k, b', hk, rfl, rfl, hb', hbd', hM⟩ := hrel
              obtain ⟨pN, qN, rfl, hNl⟩ := hM.form 2 rfl
              rcases (Decidable.em (k < N.length)).symm with hlk | hlk
              · have hjk : decide (k < N.length) = false := by simpa using hlk
                have hM8 := hM.pick [0, 1] (by decide)
                simp only [List.map_cons, List.map_nil, List.getElem?_cons_zero, List.getElem?_cons_succ, Option.getD_some] at hM8
                clear hM
                go_wp2_with fail
                go_roundw
                case rel => exact ⟨i + 1, b', by omega, by go_num, rfl, Lib.hid (by rw [hnx.out, hb'.out, List.take_of_length_le (by omega)]), hbd', hM8⟩
                case measure => simp [intOf]; omega
              · have hjk : decide (k < N.length) = true := decide_eq_true hlk
                obtain ⟨bN, oN, rfl, gN, iN, bNl⟩ := IntsR.at (hM.rep 2 rfl) k hlk
                have hnn := hnb _ (List.getElem_mem hlk)
                have hstep := hac.out N k hlk
                have hok := hokd.out N[k]
                have hof := fun w => of_c N[k] d w (by unfold B62; omega) (by omega) (by omega)
                have hro := ofS_ok (n := N[k]) (d := (d : Int)) (by omega)
                have hnew : Hid ((acc (N.take (k + 1))).foldl noteF b = if okk N[k] then noteF b' (ofS N[k] d).1 else b') := Lib.hid (by
                  rw [hstep, List.foldl_append, ← hb'.out]
                  split <;> rfl)
                clear hstep
                generalize okk N[k] = ok at *
                generalize ofS N[k] d = rf at *
                generalize N[k] = n at *
                obtain ⟨r, f⟩ := rf
                unfold raE raA at hof
                dsimp only at *
                replace hof := Lib.hid hof
                replace hro := Lib.hid hro
                replace hok := Lib.hid hok
                clear hnn iN
                go_wp2_with fail
                refine RetV_at (hof.out _) ?_
                intro w4 hx4
                clear gN bNl hof
                have hM3 := (hM.ext hx4).new (raC r) 40
                simp only [List.nil_append, List.cons_append] at hM3
                change Mem w noH _ noH (w4.alloc (.cells #[.int .i64 r.num, .int .i64 r.den] 40)) at hM3
                have hne : g7 ≠ w4.heap.size := by
                  have := ((hM.ext hx4).box 1 rfl).lt
                  omega
                clear hM hx4
                go_upto_region 18 with (fail)
                generalize w4.heap.size = g12 at *
                generalize w4.alloc _ = W4 at *
                have hO12 := hM3.box 3 rfl
                obtain ⟨c12, f12⟩ := hO12.facts
                have z12 := hO12.lt
                have l0 : _ = some (Value.int .i64 r.num) := c12 0
                have l1 : _ = some (Value.int .i64 r.den) := c12 1
                clear c12 hO12
                by_cases hf : f = 0
                · have hfb : (f != 0) = false := by simpa using hf
                  have hrok := hro.out hf
                  have hrb := hrok.bd
                  by_cases hden : r.den = d
                  · have hdb : (r.den != (d : Int)) = false := by simpa using hden
                    have hin2 := Lib.hid (fun w => hin.out r hrok w)
                    have hhx : Hid (ok = hasx r) := Lib.hid (by rw [hok.out]; simp [hf, hden])
                    generalize hasx r = hs at *
                    obtain ⟨h0, h1, h2, h3, h4, h5, h6, h7⟩ := hcs.out _ hM3.ex
                    have hbl := cell_lt h0
                    have hll := Lib.hid hll
                    unfold raA at hin2
                    subst hf
                    replace hden := Lib.hid hden
                    (refine wp_region_I 17 (by kernel_rfl) (by kernel_rfl) ?_; simp only [List.toList_toArray, List.take_succ_cons, List.take_zero, List.drop_succ_cons, List.drop_zero])
                    (refine walkI_is (u := ?_) rfl (by simp) rfl ?_ ?_; rotate_left; (focus (intro A w' hS hA K hK; (simp only [List.map_cons, List.map_nil, knows, Is, Op.operands, Call.operands, List.lookup_cons, List.lookup_nil, Nat.reduceBEq, Bool.false_eq_true, if_false, if_true, Act.eval, Array.getD_eq_getD_getElem?, List.getElem?_toArray, List.getElem?_cons_succ, List.getElem?_cons_zero, Option.getD_some, and_true, true_and, List.append_toArray, List.nil_append, List.cons_append, List.toList_toArray, Array.toList_append, Option.toArray, List.append_nil] at hA); first | fail | (obtain ⟨hSc, hSf, hSs⟩ := hS.cells; go_simp; exact hK _ (by first | exact Ext.rfl' _ | exact Ext.new _ _ | assumption)))); (try simp only [List.nil_append, List.cons_append]))
                    (refine walkI_is (u := ?_) rfl (by simp) rfl ?_ ?_; rotate_left; (focus (intro A w' hS hA K hK; (simp only [List.map_cons, List.map_nil, knows, Is, Op.operands, Call.operands, List.lookup_cons, List.lookup_nil, Nat.reduceBEq, Bool.false_eq_true, if_false, if_true, Act.eval, Array.getD_eq_getD_getElem?, List.getElem?_toArray, List.getElem?_cons_succ, List.getElem?_cons_zero, Option.getD_some, and_true, true_and, List.append_toArray, List.nil_append, List.cons_append, List.toList_toArray, Array.toList_append, Option.toArray, List.append_nil] at hA); first | fail | (obtain ⟨hSc, hSf, hSs⟩ := hS.cells; go_simp; exact hK _ (by first | exact Ext.rfl' _ | exact Ext.new _ _ | assumption)))); (try simp only [List.nil_append, List.cons_append]))
                    (refine walkI_is (u := ?_) rfl (by simp) rfl ?_ ?_; rotate_left; (focus (intro A w' hS hA K hK; (simp only [List.map_cons, List.map_nil, knows, Is, Op.operands, Call.operands, List.lookup_cons, List.lookup_nil, Nat.reduceBEq, Bool.false_eq_true, if_false, if_true, Act.eval, Array.getD_eq_getD_getElem?, List.getElem?_toArray, List.getElem?_cons_succ, List.getElem?_cons_zero, Option.getD_some, and_true, true_and, List.append_toArray, List.nil_append, List.cons_append, List.toList_toArray, Array.toList_append, Option.toArray, List.append_nil] at hA); first | fail | (obtain ⟨hSc, hSf, hSs⟩ := hS.cells; go_simp; exact hK _ (by first | exact Ext.rfl' _ | exact Ext.new _ _ | assumption)))); (try simp only [List.nil_append, List.cons_append]))
                    (refine walkI_yesis (u := ?_) rfl (by simp) rfl rfl rfl ?_ ?_; rotate_left; (focus (intro A w' hS hA K hK; (simp only [List.map_cons, List.map_nil, knows, Is, Op.operands, Call.operands, List.lookup_cons, List.lookup_nil, Nat.reduceBEq, Bool.false_eq_true, if_false, if_true, Act.eval, Array.getD_eq_getD_getElem?, List.getElem?_toArray, List.getElem?_cons_succ, List.getElem?_cons_zero, Option.getD_some, and_true, true_and, List.append_toArray, List.nil_append, List.cons_append, List.toList_toArray, Array.toList_append, Option.toArray, List.append_nil] at hA); first | fail | (obtain ⟨hSc, hSf, hSs⟩ := hS.cells; go_simp; exact hK _ (by first | exact Ext.rfl' _ | exact Ext.new _ _ | assumption)))); (try simp only [List.nil_append, List.cons_append]))
                    (refine walkI_yesis (u := ?_) rfl (by simp) rfl rfl rfl ?_ ?_; rotate_left; (focus (intro A w' hS hA K hK; (simp only [List.map_cons, List.map_nil, knows, Is, Op.operands, Call.operands, List.lookup_cons, List.lookup_nil, Nat.reduceBEq, Bool.false_eq_true, if_false, if_true, Act.eval, Array.getD_eq_getD_getElem?, List.getElem?_toArray, List.getElem?_cons_succ, List.getElem?_cons_zero, Option.getD_some, and_true, true_and, List.append_toArray, List.nil_append, List.cons_append, List.toList_toArray, Array.toList_append, Option.toArray, List.append_nil] at hA); first | fail | (obtain ⟨hSc, hSf, hSs⟩ := hS.cells; go_simp; exact hK _ (by first | exact Ext.rfl' _ | exact Ext.new _ _ | assumption)))); (try simp only [List.nil_append, List.cons_append]))
                    (refine walkI_yesis (u := ?_) rfl (by simp) rfl rfl rfl ?_ ?_; rotate_left; (focus (intro A w' hS hA K hK; (simp only [List.map_cons, List.map_nil, knows, Is, Op.operands, Call.operands, List.lookup_cons, List.lookup_nil, Nat.reduceBEq, Bool.false_eq_true, if_false, if_true, Act.eval, Array.getD_eq_getD_getElem?, List.getElem?_toArray, List.getElem?_cons_succ, List.getElem?_cons_zero, Option.getD_some, and_true, true_and, List.append_toArray, List.nil_append, List.cons_append, List.toList_toArray, Array.toList_append, Option.toArray, List.append_nil] at hA); first | fail | (obtain ⟨hSc, hSf, hSs⟩ := hS.cells; go_simp; exact hK _ (by first | exact Ext.rfl' _ | exact Ext.new _ _ | assumption)))); (try simp only [List.nil_append, List.cons_append]))
                    (refine walkI_yesis (u := ?_) rfl (by simp) rfl rfl rfl ?_ ?_; rotate_left; (focus (intro A w' hS hA K hK; (simp only [List.map_cons, List.map_nil, knows, Is, Op.operands, Call.operands, List.lookup_cons, List.lookup_nil, Nat.reduceBEq, Bool.false_eq_true, if_false, if_true, Act.eval, Array.getD_eq_getD_getElem?, List.getElem?_toArray, List.getElem?_cons_succ, List.getElem?_cons_zero, Option.getD_some, and_true, true_and, List.append_toArray, List.nil_append, List.cons_append, List.toList_toArray, Array.toList_append, Option.toArray, List.append_nil] at hA); first | fail | (obtain ⟨hSc, hSf, hSs⟩ := hS.cells; go_simp; exact hK _ (by first | exact Ext.rfl' _ | exact Ext.new _ _ | assumption)))); (try simp only [List.nil_append, List.cons_append]))
                    (refine walkI_is (u := ?_) rfl (by simp) rfl ?_ ?_; rotate_left; (focus (intro A w' hS hA K hK; (simp only [List.map_cons, List.map_nil, knows, Is, Op.operands, Call.operands, List.lookup_cons, List.lookup_nil, Nat.reduceBEq, Bool.false_eq_true, if_false, if_true, Act.eval, Array.getD_eq_getD_getElem?, List.getElem?_toArray, List.getElem?_cons_succ, List.getElem?_cons_zero, Option.getD_some, and_true, true_and, List.append_toArray, List.nil_append, List.cons_append, List.toList_toArray, Array.toList_append, Option.toArray, List.append_nil] at hA); first | fail | (obtain ⟨hSc, hSf, hSs⟩ := hS.cells; go_simp; exact hK _ (by first | exact Ext.rfl' _ | exact Ext.new _ _ | assumption)))); (try simp only [List.nil_append, List.cons_append]))
                    (refine walkI_is (u := ?_) rfl (by simp) rfl ?_ ?_; rotate_left; (focus (intro A w' hS hA K hK; (simp only [List.map_cons, List.map_nil, knows, Is, Op.operands, Call.operands, List.lookup_cons, List.lookup_nil, Nat.reduceBEq, Bool.false_eq_true, if_false, if_true, Act.eval, Array.getD_eq_getD_getElem?, List.getElem?_toArray, List.getElem?_cons_succ, List.getElem?_cons_zero, Option.getD_some, and_true, true_and, List.append_toArray, List.nil_append, List.cons_append, List.toList_toArray, Array.toList_append, Option.toArray, List.append_nil] at hA); first | fail | (obtain ⟨hSc, hSf, hSs⟩ := hS.cells; go_simp; exact hK _ (by first | exact Ext.rfl' _ | exact Ext.new _ _ | assumption)))); (try simp only [List.nil_append, List.cons_append]))
                    (refine walkI_yesis (u := ?_) rfl (by simp) rfl rfl rfl ?_ ?_; rotate_left; (focus (intro A w' hS hA K hK; (simp only [List.map_cons, List.map_nil, knows, Is, Op.operands, Call.operands, List.lookup_cons, List.lookup_nil, Nat.reduceBEq, Bool.false_eq_true, if_false, if_true, Act.eval, Array.getD_eq_getD_getElem?, List.getElem?_toArray, List.getElem?_cons_succ, List.getElem?_cons_zero, Option.getD_some, and_true, true_and, List.append_toArray, List.nil_append, List.cons_append, List.toList_toArray, Array.toList_append, Option.toArray, List.append_nil] at hA); first | fail | (obtain ⟨hSc, hSf, hSs⟩ := hS.cells; go_simp; exact hK _ (by first | exact Ext.rfl' _ | exact Ext.new _ _ | assumption)))); (try simp only [List.nil_append, List.cons_append]))
                    (refine walkI_yesis (u := ?_) rfl (by simp) rfl rfl rfl ?_ ?_; rotate_left; (focus (intro A w' hS hA K hK; (simp only [List.map_cons, List.map_nil, knows, Is, Op.operands, Call.operands, List.lookup_cons, List.lookup_nil, Nat.reduceBEq, Bool.false_eq_true, if_false, if_true, Act.eval, Array.getD_eq_getD_getElem?, List.getElem?_toArray, List.getElem?_cons_succ, List.getElem?_cons_zero, Option.getD_some, and_true, true_and, List.append_toArray, List.nil_append, List.cons_append, List.toList_toArray, Array.toList_append, Option.toArray, List.append_nil] at hA); first | fail | (obtain ⟨hSc, hSf, hSs⟩ := hS.cells; go_simp; exact hK _ (by first | exact Ext.rfl' _ | exact Ext.new _ _ | assumption)))); (try simp only [List.nil_append, List.cons_append]))
                    (refine walkI_yesis (u := ?_) rfl (by simp) rfl rfl rfl ?_ ?_; rotate_left; (focus (intro A w' hS hA K hK; (simp only [List.map_cons, List.map_nil, knows, Is, Op.operands, Call.operands, List.lookup_cons, List.lookup_nil, Nat.reduceBEq, Bool.false_eq_true, if_false, if_true, Act.eval, Array.getD_eq_getD_getElem?, List.getElem?_toArray, List.getElem?_cons_succ, List.getElem?_cons_zero, Option.getD_some, and_true, true_and, List.append_toArray, List.nil_append, List.cons_append, List.toList_toArray, Array.toList_append, Option.toArray, List.append_nil] at hA); first | fail | (obtain ⟨hSc, hSf, hSs⟩ := hS.cells; go_simp; exact hK _ (by first | exact Ext.rfl' _ | exact Ext.new _ _ | assumption)))); (try simp only [List.nil_append, List.cons_append]))
                    (refine walkI_yesis (u := ?_) rfl (by simp) rfl rfl rfl ?_ ?_; rotate_left; (focus (intro A w' hS hA K hK; (simp only [List.map_cons, List.map_nil, knows, Is, Op.operands, Call.operands, List.lookup_cons, List.lookup_nil, Nat.reduceBEq, Bool.false_eq_true, if_false, if_true, Act.eval, Array.getD_eq_getD_getElem?, List.getElem?_toArray, List.getElem?_cons_succ, List.getElem?_cons_zero, Option.getD_some, and_true, true_and, List.append_toArray, List.nil_append, List.cons_append, List.toList_toArray, Array.toList_append, Option.toArray, List.append_nil] at hA); first | fail | (obtain ⟨hSc, hSf, hSs⟩ := hS.cells; go_simp; exact hK _ (by first | exact Ext.rfl' _ | exact Ext.new _ _ | assumption)))); (try simp only [List.nil_append, List.cons_append]))
                    (refine walkI_yesis (u := ?_) rfl (by simp) rfl rfl rfl ?_ ?_; rotate_left; (focus (intro A w' hS hA K hK; (simp only [List.map_cons, List.map_nil, knows, Is, Op.operands, Call.operands, List.lookup_cons, List.lookup_nil, Nat.reduceBEq, Bool.false_eq_true, if_false, if_true, Act.eval, Array.getD_eq_getD_getElem?, List.getElem?_toArray, List.getElem?_cons_succ, List.getElem?_cons_zero, Option.getD_some, and_true, true_and, List.append_toArray, List.nil_append, List.cons_append, List.toList_toArray, Array.toList_append, Option.toArray, List.append_nil] at hA); first | fail | (obtain ⟨hSc, hSf, hSs⟩ := hS.cells; go_simp; exact hK _ (by first | exact Ext.rfl' _ | exact Ext.new _ _ | assumption)))); (try simp only [List.nil_append, List.cons_append]))
                    (refine walkI_yesis (u := ?_) rfl (by simp) rfl rfl rfl ?_ ?_; rotate_left; (focus (intro A w' hS hA K hK; (simp only [List.map_cons, List.map_nil, knows, Is, Op.operands, Call.operands, List.lookup_cons, List.lookup_nil, Nat.reduceBEq, Bool.false_eq_true, if_false, if_true, Act.eval, Array.getD_eq_getD_getElem?, List.getElem?_toArray, List.getElem?_cons_succ, List.getElem?_cons_zero, Option.getD_some, and_true, true_and, List.append_toArray, List.nil_append, List.cons_append, List.toList_toArray, Array.toList_append, Option.toArray, List.append_nil] at hA); first | (go_simp; refine RetV_at (hin2.out w') ?_; intro w6 hx6; exact hK _ hx6) | (obtain ⟨hSc, hSf, hSs⟩ := hS.cells; go_simp; exact hK _ (by first | exact Ext.rfl' _ | exact Ext.new _ _ | assumption)))); (try simp only [List.nil_append, List.cons_append]))
                    (refine walkI_yesis (u := ?_) rfl (by simp) rfl rfl rfl ?_ ?_; rotate_left; (focus (intro A w' hS hA K hK; (simp only [List.map_cons, List.map_nil, knows, Is, Op.operands, Call.operands, List.lookup_cons, List.lookup_nil, Nat.reduceBEq, Bool.false_eq_true, if_false, if_true, Act.eval, Array.getD_eq_getD_getElem?, List.getElem?_toArray, List.getElem?_cons_succ, List.getElem?_cons_zero, Option.getD_some, and_true, true_and, List.append_toArray, List.nil_append, List.cons_append, List.toList_toArray, Array.toList_append, Option.toArray, List.append_nil] at hA); first | fail | (obtain ⟨hSc, hSf, hSs⟩ := hS.cells; go_simp; exact hK _ (by first | exact Ext.rfl' _ | exact Ext.new _ _ | assumption)))); (try simp only [List.nil_append, List.cons_append]))
                    (refine walkI_is (u := ?_) rfl (by simp) rfl ?_ ?_; rotate_left; (focus (intro A w' hS hA K hK; (simp only [List.map_cons, List.map_nil, knows, Is, Op.operands, Call.operands, List.lookup_cons, List.lookup_nil, Nat.reduceBEq, Bool.false_eq_true, if_false, if_true, Act.eval, Array.getD_eq_getD_getElem?, List.getElem?_toArray, List.getElem?_cons_succ, List.getElem?_cons_zero, Option.getD_some, and_true, true_and, List.append_toArray, List.nil_append, List.cons_append, List.toList_toArray, Array.toList_append, Option.toArray, List.append_nil] at hA); first | fail | (obtain ⟨hSc, hSf, hSs⟩ := hS.cells; go_simp; exact hK _ (by first | exact Ext.rfl' _ | exact Ext.new _ _ | assumption)))); (try simp only [List.nil_append, List.cons_append]))
                    (refine walkI_nil ?_; simp only [List.nil_append, List.cons_append, fins, Is, forall_eq, Act.put, List.setIfInBounds_toArray, List.set_cons_zero, List.set_cons_succ])
                    intro w6 hx6
                    replace hM3 := hM3.ext hx6
                    clear h0 h1 h2 h3 h4 h5 h6 h7 hbl hin2 hx6 f12 z12 l0 l1
                    cases hs with
                    | false =>
                      have hokf : Hid (ok = false) := hhx
                      have hM8 := hM3.pick [0, 1, 2] (by decide)
                      simp only [List.map_cons, List.map_nil, List.getElem?_cons_zero, List.getElem?_cons_succ, Option.getD_some] at hM8
                      clear hM3
                      go_wp2_with fail
                      go_roundw
                      case rel => exact ⟨k + 1, b', by omega, by go_num, rfl, Lib.hid (by rw [hnew.out, hokf.out]; rfl), hbd', hM8⟩
                      case measure => simp [intOf]; omega
                    | true =>
                      have hokt : Hid (ok = true) := hhx
                      have hnw2 : Hid ((acc (N.take (k + 1))).foldl noteF b = noteF b' r) := Lib.hid (by rw [hnew.out, hokt.out]; rfl)
                      have hbd3 : Hid (∀ q, noteF b' r = some q → q.bd ∧ q.den = d) := Lib.hid (fun q hq => by
                        unfold noteF at hq
                        cases b' with
                        | none => cases hq; exact ⟨hrb, hden.out⟩
                        | some p =>
                          dsimp only at hq
                          split at hq
                          · cases hq; exact ⟨hrb, hden.out⟩
                          · cases hq; exact hbd'.out _ rfl)
                      have hO12 := hM3.box 3 rfl
                      have hO7 := hM3.box 1 rfl
                      obtain ⟨c12, f12⟩ := hO12.facts
                      obtain ⟨c7, f7⟩ := hO7.facts
                      have z12 := hO12.lt
                      have z7 := hO7.lt
                      have l0 : _ = some (Value.int .i64 r.num) := c12 0
                      have l1 : _ = some (Value.int .i64 r.den) := c12 1
                      have m0 : _ = some (Value.int .i64 (bst b').num) := c7 0
                      have m1 : _ = some (Value.int .i64 (bst b').den) := c7 1
                      clear c12 c7 hO12 hO7
                      have hzr := Lib.hid (fun w => rsize_c r.num w hrb.1 hrb.2.1)
                      cases b' with
                      | none =>
                        have hres : Hid (noteF none r = some r) := Lib.hid rfl
                        go_upto_region 19 with (fail)
                        (refine wp_region_I 27 (by kernel_rfl) (by kernel_rfl) ?_; simp only [List.toList_toArray, List.take_succ_cons, List.take_zero, List.drop_succ_cons, List.drop_zero])
                        (refine walkI_is (u := ?_) rfl (by simp) rfl ?_ ?_; rotate_left; (focus (intro A w' hS hA K hK; (simp only [List.map_cons, List.map_nil, knows, Is, Op.operands, Call.operands, List.lookup_cons, List.lookup_nil, Nat.reduceBEq, Bool.false_eq_true, if_false, if_true, Act.eval, Array.getD_eq_getD_getElem?, List.getElem?_toArray, List.getElem?_cons_succ, List.getElem?_cons_zero, Option.getD_some, and_true, true_and, List.append_toArray, List.nil_append, List.cons_append, List.toList_toArray, Array.toList_append, Option.toArray, List.append_nil] at hA); first | fail | (obtain ⟨hSc, hSf, hSs⟩ := hS.cells; go_simp; exact hK _ (by first | exact Ext.rfl' _ | exact Ext.new _ _ | assumption)))); (try simp only [List.nil_append, List.cons_append]))
                        (refine walkI_is (u := ?_) rfl (by simp) rfl ?_ ?_; rotate_left; (focus (intro A w' hS hA K hK; (simp only [List.map_cons, List.map_nil, knows, Is, Op.operands, Call.operands, List.lookup_cons, List.lookup_nil, Nat.reduceBEq, Bool.false_eq_true, if_false, if_true, Act.eval, Array.getD_eq_getD_getElem?, List.getElem?_toArray, List.getElem?_cons_succ, List.getElem?_cons_zero, Option.getD_some, and_true, true_and, List.append_toArray, List.nil_append, List.cons_append, List.toList_toArray, Array.toList_append, Option.toArray, List.append_nil] at hA); first | fail | (obtain ⟨hSc, hSf, hSs⟩ := hS.cells; go_simp; exact hK _ (by first | exact Ext.rfl' _ | exact Ext.new _ _ | assumption)))); (try simp only [List.nil_append, List.cons_append]))
                        (refine walkI_is (u := ?_) rfl (by simp) rfl ?_ ?_; rotate_left; (focus (intro A w' hS hA K hK; (simp only [List.map_cons, List.map_nil, knows, Is, Op.operands, Call.operands, List.lookup_cons, List.lookup_nil, Nat.reduceBEq, Bool.false_eq_true, if_false, if_true, Act.eval, Array.getD_eq_getD_getElem?, List.getElem?_toArray, List.getElem?_cons_succ, List.getElem?_cons_zero, Option.getD_some, and_true, true_and, List.append_toArray, List.nil_append, List.cons_append, List.toList_toArray, Array.toList_append, Option.toArray, List.append_nil] at hA); first | fail | (obtain ⟨hSc, hSf, hSs⟩ := hS.cells; go_simp; exact hK _ (by first | exact Ext.rfl' _ | exact Ext.new _ _ | assumption)))); (try simp only [List.nil_append, List.cons_append]))
                        (refine walkI_no rfl (by simp) rfl rfl rfl ?_ ?_; (focus (simp [undef]; done)); (try simp only [List.nil_append, List.cons_append]))
                        (refine walkI_no rfl (by simp) rfl rfl rfl ?_ ?_; (focus (simp [undef]; done)); (try simp only [List.nil_append, List.cons_append]))
                        (refine walkI_no rfl (by simp) rfl rfl rfl ?_ ?_; (focus (simp [undef]; done)); (try simp only [List.nil_append, List.cons_append]))
                        (refine walkI_no rfl (by simp) rfl rfl rfl ?_ ?_; (focus (simp [undef]; done)); (try simp only [List.nil_append, List.cons_append]))
                        (refine walkI_no rfl (by simp) rfl rfl rfl ?_ ?_; (focus (simp [undef]; done)); (try simp only [List.nil_append, List.cons_append]))
                        (refine walkI_no rfl (by simp) rfl rfl rfl ?_ ?_; (focus (simp [undef]; done)); (try simp only [List.nil_append, List.cons_append]))
                        (refine walkI_no rfl (by simp) rfl rfl rfl ?_ ?_; (focus (simp [undef]; done)); (try simp only [List.nil_append, List.cons_append]))
                        (refine walkI_is (u := ?_) rfl (by simp) rfl ?_ ?_; rotate_left; (focus (intro A w' hS hA K hK; (simp only [List.map_cons, List.map_nil, knows, Is, Op.operands, Call.operands, List.lookup_cons, List.lookup_nil, Nat.reduceBEq, Bool.false_eq_true, if_false, if_true, Act.eval, Array.getD_eq_getD_getElem?, List.getElem?_toArray, List.getElem?_cons_succ, List.getElem?_cons_zero, Option.getD_some, and_true, true_and, List.append_toArray, List.nil_append, List.cons_append, List.toList_toArray, Array.toList_append, Option.toArray, List.append_nil] at hA); first | fail | (obtain ⟨hSc, hSf, hSs⟩ := hS.cells; go_simp; exact hK _ (by first | exact Ext.rfl' _ | exact Ext.new _ _ | assumption)))); (try simp only [List.nil_append, List.cons_append]))
                        (refine walkI_is (u := ?_) rfl (by simp) rfl ?_ ?_; rotate_left; (focus (intro A w' hS hA K hK; (simp only [List.map_cons, List.map_nil, knows, Is, Op.operands, Call.operands, List.lookup_cons, List.lookup_nil, Nat.reduceBEq, Bool.false_eq_true, if_false, if_true, Act.eval, Array.getD_eq_getD_getElem?, List.getElem?_toArray, List.getElem?_cons_succ, List.getElem?_cons_zero, Option.getD_some, and_true, true_and, List.append_toArray, List.nil_append, List.cons_append, List.toList_toArray, Array.toList_append, Option.toArray, List.append_nil] at hA); first | fail | (obtain ⟨hSc, hSf, hSs⟩ := hS.cells; go_simp; exact hK _ (by first | exact Ext.rfl' _ | exact Ext.new _ _ | assumption)))); (try simp only [List.nil_append, List.cons_append]))
                        (refine walkI_no rfl (by simp) rfl rfl rfl ?_ ?_; (focus (simp [undef]; done)); (try simp only [List.nil_append, List.cons_append]))
                        (refine walkI_no rfl (by simp) rfl rfl rfl ?_ ?_; (focus (simp [undef]; done)); (try simp only [List.nil_append, List.cons_append]))
                        (refine walkI_no rfl (by simp) rfl rfl rfl ?_ ?_; (focus (simp [undef]; done)); (try simp only [List.nil_append, List.cons_append]))
                        (refine walkI_no rfl (by simp) rfl rfl rfl ?_ ?_; (focus (simp [undef]; done)); (try simp only [List.nil_append, List.cons_append]))
                        (refine walkI_no rfl (by simp) rfl rfl rfl ?_ ?_; (focus (simp [undef]; done)); (try simp only [List.nil_append, List.cons_append]))
                        (refine walkI_no rfl (by simp) rfl rfl rfl ?_ ?_; (focus (simp [undef]; done)); (try simp only [List.nil_append, List.cons_append]))
                        (refine walkI_no rfl (by simp) rfl rfl rfl ?_ ?_; (focus (simp [undef]; done)); (try simp only [List.nil_append, List.cons_append]))
                        (refine walkI_no rfl (by simp) rfl rfl rfl ?_ ?_; (focus (simp [undef]; done)); (try simp only [List.nil_append, List.cons_append]))
                        (refine walkI_no rfl (by simp) rfl rfl rfl ?_ ?_; (focus (simp [undef]; done)); (try simp only [List.nil_append, List.cons_append]))
                        (refine walkI_no rfl (by simp) rfl rfl rfl ?_ ?_; (focus (simp [undef]; done)); (try simp only [List.nil_append, List.cons_append]))
                        (refine walkI_no rfl (by simp) rfl rfl rfl ?_ ?_; (focus (simp [undef]; done)); (try simp only [List.nil_append, List.cons_append]))
                        (refine walkI_no rfl (by simp) rfl rfl rfl ?_ ?_; (focus (simp [undef]; done)); (try simp only [List.nil_append, List.cons_append]))
                        (refine walkI_no rfl (by simp) rfl rfl rfl ?_ ?_; (focus (simp [undef]; done)); (try simp only [List.nil_append, List.cons_append]))
                        (refine walkI_no rfl (by simp) rfl rfl rfl ?_ ?_; (focus (simp [undef]; done)); (try simp only [List.nil_append, List.cons_append]))
                        (refine walkI_is (u := ?_) rfl (by simp) rfl ?_ ?_; rotate_left; (focus (intro A w' hS hA K hK; (simp only [List.map_cons, List.map_nil, knows, Is, Op.operands, Call.operands, List.lookup_cons, List.lookup_nil, Nat.reduceBEq, Bool.false_eq_true, if_false, if_true, Act.eval, Array.getD_eq_getD_getElem?, List.getElem?_toArray, List.getElem?_cons_succ, List.getElem?_cons_zero, Option.getD_some, and_true, true_and, List.append_toArray, List.nil_append, List.cons_append, List.toList_toArray, Array.toList_append, Option.toArray, List.append_nil] at hA); first | fail | (obtain ⟨hSc, hSf, hSs⟩ := hS.cells; go_simp; exact hK _ (by first | exact Ext.rfl' _ | exact Ext.new _ _ | assumption)))); (try simp only [List.nil_append, List.cons_append]))
                        (refine walkI_nil ?_; simp only [List.nil_append, List.cons_append, fins, Is, forall_eq, Act.put, List.setIfInBounds_toArray, List.set_cons_zero, List.set_cons_succ])
                        intro w6 hx6
                        replace hM3 := hM3.ext hx6
                        clear f12 f7 z12 z7 l0 l1 m0 m1 hx6
                        have hO12 := hM3.box 3 rfl
                        have hO7 := hM3.box 1 rfl
                        obtain ⟨c12, f12⟩ := hO12.facts
                        obtain ⟨c7, f7⟩ := hO7.facts
                        have z12 := hO12.lt
                        have z7 := hO7.lt
                        have l0 : _ = some (Value.int .i64 r.num) := c12 0
                        have l1 : _ = some (Value.int .i64 r.den) := c12 1
                        have m0 : _ = some (Value.int .i64 (bst none).num) := c7 0
                        have m1 : _ = some (Value.int .i64 (bst none).den) := c7 1
                        clear c12 c7 hO12 hO7
                        have hM9 := ((hM3.set 1 rfl 0 (.int .i64 r.num)).set 1 rfl 1 (.int .i64 r.den)).pick [0, 1, 2] (by decide)
                        simp only [List.set_cons_succ, List.set_cons_zero, raC, List.setIfInBounds_toArray, List.map_cons, List.map_nil, List.getElem?_cons_zero, List.getElem?_cons_succ, Option.getD_some] at hM9
                        clear hM3
                        go_wp2_with fail
                        go_roundw
                        case rel => exact ⟨k + 1, some r, by omega, by go_num, rfl, Lib.hid (by rw [hnw2.out]; exact hres.out.symm), Lib.hid (fun q' hq' => hbd3.out q' (by rw [hres.out]; exact hq')), hM9⟩
                        case measure => simp [intOf]; omega
                      | some q =>
                        obtain ⟨hqb, hqd⟩ := hbd'.out q rfl
                        have hzq := Lib.hid (fun w => rsize_c q.num w hqb.1 hqb.2.1)
                        have hsm := note_some (q := q) (r := r) (by rw [hqd, hden.out])
                        clear hqd hqb
                        have hqm : (bst (some q)) = q := rfl
                        rw [hqm] at m0 m1
                        clear hqm
                        generalize r.num.natAbs = m at *
                        generalize q.num.natAbs = m' at *
                        go_upto_region 19 with (fail)
                        by_cases hA : m < m'
                        · have hA1 : decide (m < m') = true := decide_eq_true hA
                          have hres : Hid (noteF (some q) r = some r) := Lib.hid (by rw [hsm, if_pos (show m ≠ m' by omega), hA1]; rfl)
                          clear hsm
                          (refine wp_region_I 27 (by kernel_rfl) (by kernel_rfl) ?_; simp only [List.toList_toArray, List.take_succ_cons, List.take_zero, List.drop_succ_cons, List.drop_zero])
                          (refine walkI_is (u := ?_) rfl (by simp) rfl ?_ ?_; rotate_left; (focus (intro A w' hS hA K hK; (simp only [List.map_cons, List.map_nil, knows, Is, Op.operands, Call.operands, List.lookup_cons, List.lookup_nil, Nat.reduceBEq, Bool.false_eq_true, if_false, if_true, Act.eval, Array.getD_eq_getD_getElem?, List.getElem?_toArray, List.getElem?_cons_succ, List.getElem?_cons_zero, Option.getD_some, and_true, true_and, List.append_toArray, List.nil_append, List.cons_append, List.toList_toArray, Array.toList_append, Option.toArray, List.append_nil] at hA); first | fail | (obtain ⟨hSc, hSf, hSs⟩ := hS.cells; go_simp; exact hK _ (by first | exact Ext.rfl' _ | exact Ext.new _ _ | assumption)))); (try simp only [List.nil_append, List.cons_append]))
                          (refine walkI_is (u := ?_) rfl (by simp) rfl ?_ ?_; rotate_left; (focus (intro A w' hS hA K hK; (simp only [List.map_cons, List.map_nil, knows, Is, Op.operands, Call.operands, List.lookup_cons, List.lookup_nil, Nat.reduceBEq, Bool.false_eq_true, if_false, if_true, Act.eval, Array.getD_eq_getD_getElem?, List.getElem?_toArray, List.getElem?_cons_succ, List.getElem?_cons_zero, Option.getD_some, and_true, true_and, List.append_toArray, List.nil_append, List.cons_append, List.toList_toArray, Array.toList_append, Option.toArray, List.append_nil] at hA); first | fail | (obtain ⟨hSc, hSf, hSs⟩ := hS.cells; go_simp; exact hK _ (by first | exact Ext.rfl' _ | exact Ext.new _ _ | assumption)))); (try simp only [List.nil_append, List.cons_append]))
                          (refine walkI_is (u := ?_) rfl (by simp) rfl ?_ ?_; rotate_left; (focus (intro A w' hS hA K hK; (simp only [List.map_cons, List.map_nil, knows, Is, Op.operands, Call.operands, List.lookup_cons, List.lookup_nil, Nat.reduceBEq, Bool.false_eq_true, if_false, if_true, Act.eval, Array.getD_eq_getD_getElem?, List.getElem?_toArray, List.getElem?_cons_succ, List.getElem?_cons_zero, Option.getD_some, and_true, true_and, List.append_toArray, List.nil_append, List.cons_append, List.toList_toArray, Array.toList_append, Option.toArray, List.append_nil] at hA); first | fail | (obtain ⟨hSc, hSf, hSs⟩ := hS.cells; go_simp; exact hK _ (by first | exact Ext.rfl' _ | exact Ext.new _ _ | assumption)))); (try simp only [List.nil_append, List.cons_append]))
                          (refine walkI_yesis (u := ?_) rfl (by simp) rfl rfl rfl ?_ ?_; rotate_left; (focus (intro A w' hS hA K hK; (simp only [List.map_cons, List.map_nil, knows, Is, Op.operands, Call.operands, List.lookup_cons, List.lookup_nil, Nat.reduceBEq, Bool.false_eq_true, if_false, if_true, Act.eval, Array.getD_eq_getD_getElem?, List.getElem?_toArray, List.getElem?_cons_succ, List.getElem?_cons_zero, Option.getD_some, and_true, true_and, List.append_toArray, List.nil_append, List.cons_append, List.toList_toArray, Array.toList_append, Option.toArray, List.append_nil] at hA); first | fail | (obtain ⟨hSc, hSf, hSs⟩ := hS.cells; go_simp; exact hK _ (by first | exact Ext.rfl' _ | exact Ext.new _ _ | assumption)))); (try simp only [List.nil_append, List.cons_append]))
                          (refine walkI_yesis (u := ?_) rfl (by simp) rfl rfl rfl ?_ ?_; rotate_left; (focus (intro A w' hS hA K hK; (simp only [List.map_cons, List.map_nil, knows, Is, Op.operands, Call.operands, List.lookup_cons, List.lookup_nil, Nat.reduceBEq, Bool.false_eq_true, if_false, if_true, Act.eval, Array.getD_eq_getD_getElem?, List.getElem?_toArray, List.getElem?_cons_succ, List.getElem?_cons_zero, Option.getD_some, and_true, true_and, List.append_toArray, List.nil_append, List.cons_append, List.toList_toArray, Array.toList_append, Option.toArray, List.append_nil] at hA); first | fail | (obtain ⟨hSc, hSf, hSs⟩ := hS.cells; go_simp; exact hK _ (by first | exact Ext.rfl' _ | exact Ext.new _ _ | assumption)))); (try simp only [List.nil_append, List.cons_append]))
                          (refine walkI_yesis (u := ?_) rfl (by simp) rfl rfl rfl ?_ ?_; rotate_left; (focus (intro A w' hS hA K hK; (simp only [List.map_cons, List.map_nil, knows, Is, Op.operands, Call.operands, List.lookup_cons, List.lookup_nil, Nat.reduceBEq, Bool.false_eq_true, if_false, if_true, Act.eval, Array.getD_eq_getD_getElem?, List.getElem?_toArray, List.getElem?_cons_succ, List.getElem?_cons_zero, Option.getD_some, and_true, true_and, List.append_toArray, List.nil_append, List.cons_append, List.toList_toArray, Array.toList_append, Option.toArray, List.append_nil] at hA); first | (go_simp; refine RetV_at (hzr.out w') ?_; intro w6 hx6; exact hK _ hx6) | (obtain ⟨hSc, hSf, hSs⟩ := hS.cells; go_simp; exact hK _ (by first | exact Ext.rfl' _ | exact Ext.new _ _ | assumption)))); (try simp only [List.nil_append, List.cons_append]))
                          (refine walkI_yesis (u := ?_) rfl (by simp) rfl rfl rfl ?_ ?_; rotate_left; (focus (intro A w' hS hA K hK; (simp only [List.map_cons, List.map_nil, knows, Is, Op.operands, Call.operands, List.lookup_cons, List.lookup_nil, Nat.reduceBEq, Bool.false_eq_true, if_false, if_true, Act.eval, Array.getD_eq_getD_getElem?, List.getElem?_toArray, List.getElem?_cons_succ, List.getElem?_cons_zero, Option.getD_some, and_true, true_and, List.append_toArray, List.nil_append, List.cons_append, List.toList_toArray, Array.toList_append, Option.toArray, List.append_nil] at hA); first | fail | (obtain ⟨hSc, hSf, hSs⟩ := hS.cells; go_simp; exact hK _ (by first | exact Ext.rfl' _ | exact Ext.new _ _ | assumption)))); (try simp only [List.nil_append, List.cons_append]))
                          (refine walkI_yesis (u := ?_) rfl (by simp) rfl rfl rfl ?_ ?_; rotate_left; (focus (intro A w' hS hA K hK; (simp only [List.map_cons, List.map_nil, knows, Is, Op.operands, Call.operands, List.lookup_cons, List.lookup_nil, Nat.reduceBEq, Bool.false_eq_true, if_false, if_true, Act.eval, Array.getD_eq_getD_getElem?, List.getElem?_toArray, List.getElem?_cons_succ, List.getElem?_cons_zero, Option.getD_some, and_true, true_and, List.append_toArray, List.nil_append, List.cons_append, List.toList_toArray, Array.toList_append, Option.toArray, List.append_nil] at hA); first | fail | (obtain ⟨hSc, hSf, hSs⟩ := hS.cells; go_simp; exact hK _ (by first | exact Ext.rfl' _ | exact Ext.new _ _ | assumption)))); (try simp only [List.nil_append, List.cons_append]))
                          (refine walkI_yesis (u := ?_) rfl (by simp) rfl rfl rfl ?_ ?_; rotate_left; (focus (intro A w' hS hA K hK; (simp only [List.map_cons, List.map_nil, knows, Is, Op.operands, Call.operands, List.lookup_cons, List.lookup_nil, Nat.reduceBEq, Bool.false_eq_true, if_false, if_true, Act.eval, Array.getD_eq_getD_getElem?, List.getElem?_toArray, List.getElem?_cons_succ, List.getElem?_cons_zero, Option.getD_some, and_true, true_and, List.append_toArray, List.nil_append, List.cons_append, List.toList_toArray, Array.toList_append, Option.toArray, List.append_nil] at hA); first | (go_simp; refine RetV_at (hzq.out w') ?_; intro w6 hx6; exact hK _ hx6) | (obtain ⟨hSc, hSf, hSs⟩ := hS.cells; go_simp; exact hK _ (by first | exact Ext.rfl' _ | exact Ext.new _ _ | assumption)))); (try simp only [List.nil_append, List.cons_append]))
                          (refine walkI_yesis (u := ?_) rfl (by simp) rfl rfl rfl ?_ ?_; rotate_left; (focus (intro A w' hS hA K hK; (simp only [List.map_cons, List.map_nil, knows, Is, Op.operands, Call.operands, List.lookup_cons, List.lookup_nil, Nat.reduceBEq, Bool.false_eq_true, if_false, if_true, Act.eval, Array.getD_eq_getD_getElem?, List.getElem?_toArray, List.getElem?_cons_succ, List.getElem?_cons_zero, Option.getD_some, and_true, true_and, List.append_toArray, List.nil_append, List.cons_append, List.toList_toArray, Array.toList_append, Option.toArray, List.append_nil] at hA); first | fail | (obtain ⟨hSc, hSf, hSs⟩ := hS.cells; go_simp; exact hK _ (by first | exact Ext.rfl' _ | exact Ext.new _ _ | assumption)))); (try simp only [List.nil_append, List.cons_append]))
                          (refine walkI_is (u := ?_) rfl (by simp) rfl ?_ ?_; rotate_left; (focus (intro A w' hS hA K hK; (simp only [List.map_cons, List.map_nil, knows, Is, Op.operands, Call.operands, List.lookup_cons, List.lookup_nil, Nat.reduceBEq, Bool.false_eq_true, if_false, if_true, Act.eval, Array.getD_eq_getD_getElem?, List.getElem?_toArray, List.getElem?_cons_succ, List.getElem?_cons_zero, Option.getD_some, and_true, true_and, List.append_toArray, List.nil_append, List.cons_append, List.toList_toArray, Array.toList_append, Option.toArray, List.append_nil] at hA); first | fail | (obtain ⟨hSc, hSf, hSs⟩ := hS.cells; go_simp; exact hK _ (by first | exact Ext.rfl' _ | exact Ext.new _ _ | assumption)))); (try simp only [List.nil_append, List.cons_append]))
                          (refine walkI_is (u := ?_) rfl (by simp) rfl ?_ ?_; rotate_left; (focus (intro A w' hS hA K hK; (simp only [List.map_cons, List.map_nil, knows, Is, Op.operands, Call.operands, List.lookup_cons, List.lookup_nil, Nat.reduceBEq, Bool.false_eq_true, if_false, if_true, Act.eval, Array.getD_eq_getD_getElem?, List.getElem?_toArray, List.getElem?_cons_succ, List.getElem?_cons_zero, Option.getD_some, and_true, true_and, List.append_toArray, List.nil_append, List.cons_append, List.toList_toArray, Array.toList_append, Option.toArray, List.append_nil] at hA); first | fail | (obtain ⟨hSc, hSf, hSs⟩ := hS.cells; go_simp; exact hK _ (by first | exact Ext.rfl' _ | exact Ext.new _ _ | assumption)))); (try simp only [List.nil_append, List.cons_append]))
                          (refine walkI_no rfl (by simp) rfl rfl rfl ?_ ?_; (focus (simp [undef]; done)); (try simp only [List.nil_append, List.cons_append]))
                          (refine walkI_no rfl (by simp) rfl rfl rfl ?_ ?_; (focus (simp [undef]; done)); (try simp only [List.nil_append, List.cons_append]))
                          (refine walkI_no rfl (by simp) rfl rfl rfl ?_ ?_; (focus (simp [undef]; done)); (try simp only [List.nil_append, List.cons_append]))
                          (refine walkI_no rfl (by simp) rfl rfl rfl ?_ ?_; (focus (simp [undef]; done)); (try simp only [List.nil_append, List.cons_append]))
                          (refine walkI_no rfl (by simp) rfl rfl rfl ?_ ?_; (focus (simp [undef]; done)); (try simp only [List.nil_append, List.cons_append]))
                          (refine walkI_no rfl (by simp) rfl rfl rfl ?_ ?_; (focus (simp [undef]; done)); (try simp only [List.nil_append, List.cons_append]))
                          (refine walkI_no rfl (by simp) rfl rfl rfl ?_ ?_; (focus (simp [undef]; done)); (try simp only [List.nil_append, List.cons_append]))
                          (refine walkI_no rfl (by simp) rfl rfl rfl ?_ ?_; (focus (simp [undef]; done)); (try simp only [List.nil_append, List.cons_append]))
                          (refine walkI_no rfl (by simp) rfl rfl rfl ?_ ?_; (focus (simp [undef]; done)); (try simp only [List.nil_append, List.cons_append]))
                          (refine walkI_no rfl (by simp) rfl rfl rfl ?_ ?_; (focus (simp [undef]; done)); (try simp only [List.nil_append, List.cons_append]))
                          (refine walkI_no rfl (by simp) rfl rfl rfl ?_ ?_; (focus (simp [undef]; done)); (try simp only [List.nil_append, List.cons_append]))
                          (refine walkI_no rfl (by simp) rfl rfl rfl ?_ ?_; (focus (simp [undef]; done)); (try simp only [List.nil_append, List.cons_append]))
                          (refine walkI_no rfl (by simp) rfl rfl rfl ?_ ?_; (focus (simp [undef]; done)); (try simp only [List.nil_append, List.cons_append]))
                          (refine walkI_no rfl (by simp) rfl rfl rfl ?_ ?_; (focus (simp [undef]; done)); (try simp only [List.nil_append, List.cons_append]))
                          (refine walkI_is (u := ?_) rfl (by simp) rfl ?_ ?_; rotate_left; (focus (intro A w' hS hA K hK; (simp only [List.map_cons, List.map_nil, knows, Is, Op.operands, Call.operands, List.lookup_cons, List.lookup_nil, Nat.reduceBEq, Bool.false_eq_true, if_false, if_true, Act.eval, Array.getD_eq_getD_getElem?, List.getElem?_toArray, List.getElem?_cons_succ, List.getElem?_cons_zero, Option.getD_some, and_true, true_and, List.append_toArray, List.nil_append, List.cons_append, List.toList_toArray, Array.toList_append, Option.toArray, List.append_nil] at hA); first | fail | (obtain ⟨hSc, hSf, hSs⟩ := hS.cells; go_simp; exact hK _ (by first | exact Ext.rfl' _ | exact Ext.new _ _ | assumption)))); (try simp only [List.nil_append, List.cons_append]))
                          (refine walkI_nil ?_; simp only [List.nil_append, List.cons_append, fins, Is, forall_eq, Act.put, List.setIfInBounds_toArray, List.set_cons_zero, List.set_cons_succ])
                          intro w6 hx6
                          replace hM3 := hM3.ext hx6
                          clear f12 f7 z12 z7 l0 l1 m0 m1 hx6
                          have hO12 := hM3.box 3 rfl
                          have hO7 := hM3.box 1 rfl
                          obtain ⟨c12, f12⟩ := hO12.facts
                          obtain ⟨c7, f7⟩ := hO7.facts
                          have z12 := hO12.lt
                          have z7 := hO7.lt
                          have l0 : _ = some (Value.int .i64 r.num) := c12 0
                          have l1 : _ = some (Value.int .i64 r.den) := c12 1
                          have m0 : _ = some (Value.int .i64 (q).num) := c7 0
                          have m1 : _ = some (Value.int .i64 (q).den) := c7 1
                          clear c12 c7 hO12 hO7
                          have hM9 := ((hM3.set 1 rfl 0 (.int .i64 r.num)).set 1 rfl 1 (.int .i64 r.den)).pick [0, 1, 2] (by decide)
                          simp only [List.set_cons_succ, List.set_cons_zero, raC, List.setIfInBounds_toArray, List.map_cons, List.map_nil, List.getElem?_cons_zero, List.getElem?_cons_succ, Option.getD_some] at hM9
                          clear hM3
                          go_wp2_with fail
                          go_roundw
                          case rel => exact ⟨k + 1, some r, by omega, by go_num, rfl, Lib.hid (by rw [hnw2.out]; exact hres.out.symm), Lib.hid (fun q' hq' => hbd3.out q' (by rw [hres.out]; exact hq')), hM9⟩
                          case measure => simp [intOf]; omega
                        · have hA1 : decide (m < m') = false := decide_eq_false hA
                          by_cases hB : m = m'
                          · subst hB
                            have hB1 : ((m : Int) == (m : Int)) = true := by simp
                            by_cases hC : q.num < r.num
                            · have hC1 : decide (q.num < r.num) = true := decide_eq_true hC
                              have hres : Hid (noteF (some q) r = some r) := Lib.hid (by rw [hsm, if_neg (show ¬ m ≠ m by omega), hC1]; rfl)
                              clear hsm
                              (refine wp_region_I 27 (by kernel_rfl) (by kernel_rfl) ?_; simp only [List.toList_toArray, List.take_succ_cons, List.take_zero, List.drop_succ_cons, List.drop_zero])
                              (refine walkI_is (u := ?_) rfl (by simp) rfl ?_ ?_; rotate_left; (focus (intro A w' hS hA K hK; (simp only [List.map_cons, List.map_nil, knows, Is, Op.operands, Call.operands, List.lookup_cons, List.lookup_nil, Nat.reduceBEq, Bool.false_eq_true, if_false, if_true, Act.eval, Array.getD_eq_getD_getElem?, List.getElem?_toArray, List.getElem?_cons_succ, List.getElem?_cons_zero, Option.getD_some, and_true, true_and, List.append_toArray, List.nil_append, List.cons_append, List.toList_toArray, Array.toList_append, Option.toArray, List.append_nil] at hA); first | fail | (obtain ⟨hSc, hSf, hSs⟩ := hS.cells; go_simp; exact hK _ (by first | exact Ext.rfl' _ | exact Ext.new _ _ | assumption)))); (try simp only [List.nil_append, List.cons_append]))
                              (refine walkI_is (u := ?_) rfl (by simp) rfl ?_ ?_; rotate_left; (focus (intro A w' hS hA K hK; (simp only [List.map_cons, List.map_nil, knows, Is, Op.operands, Call.operands, List.lookup_cons, List.lookup_nil, Nat.reduceBEq, Bool.false_eq_true, if_false, if_true, Act.eval, Array.getD_eq_getD_getElem?, List.getElem?_toArray, List.getElem?_cons_succ, List.getElem?_cons_zero, Option.getD_some, and_true, true_and, List.append_toArray, List.nil_append, List.cons_append, List.toList_toArray, Array.toList_append, Option.toArray, List.append_nil] at hA); first | fail | (obtain ⟨hSc, hSf, hSs⟩ := hS.cells; go_simp; exact hK _ (by first | exact Ext.rfl' _ | exact Ext.new _ _ | assumption)))); (try simp only [List.nil_append, List.cons_append]))
                              (refine walkI_is (u := ?_) rfl (by simp) rfl ?_ ?_; rotate_left; (focus (intro A w' hS hA K hK; (simp only [List.map_cons, List.map_nil, knows, Is, Op.operands, Call.operands, List.lookup_cons, List.lookup_nil, Nat.reduceBEq, Bool.false_eq_true, if_false, if_true, Act.eval, Array.getD_eq_getD_getElem?, List.getElem?_toArray, List.getElem?_cons_succ, List.getElem?_cons_zero, Option.getD_some, and_true, true_and, List.append_toArray, List.nil_append, List.cons_append, List.toList_toArray, Array.toList_append, Option.toArray, List.append_nil] at hA); first | fail | (obtain ⟨hSc, hSf, hSs⟩ := hS.cells; go_simp; exact hK _ (by first | exact Ext.rfl' _ | exact Ext.new _ _ | assumption)))); (try simp only [List.nil_append, List.cons_append]))
                              (refine walkI_yesis (u := ?_) rfl (by simp) rfl rfl rfl ?_ ?_; rotate_left; (focus (intro A w' hS hA K hK; (simp only [List.map_cons, List.map_nil, knows, Is, Op.operands, Call.operands, List.lookup_cons, List.lookup_nil, Nat.reduceBEq, Bool.false_eq_true, if_false, if_true, Act.eval, Array.getD_eq_getD_getElem?, List.getElem?_toArray, List.getElem?_cons_succ, List.getElem?_cons_zero, Option.getD_some, and_true, true_and, List.append_toArray, List.nil_append, List.cons_append, List.toList_toArray, Array.toList_append, Option.toArray, List.append_nil] at hA); first | fail | (obtain ⟨hSc, hSf, hSs⟩ := hS.cells; go_simp; exact hK _ (by first | exact Ext.rfl' _ | exact Ext.new _ _ | assumption)))); (try simp only [List.nil_append, List.cons_append]))
                              (refine walkI_yesis (u := ?_) rfl (by simp) rfl rfl rfl ?_ ?_; rotate_left; (focus (intro A w' hS hA K hK; (simp only [List.map_cons, List.map_nil, knows, Is, Op.operands, Call.operands, List.lookup_cons, List.lookup_nil, Nat.reduceBEq, Bool.false_eq_true, if_false, if_true, Act.eval, Array.getD_eq_getD_getElem?, List.getElem?_toArray, List.getElem?_cons_succ, List.getElem?_cons_zero, Option.getD_some, and_true, true_and, List.append_toArray, List.nil_append, List.cons_append, List.toList_toArray, Array.toList_append, Option.toArray, List.append_nil] at hA); first | fail | (obtain ⟨hSc, hSf, hSs⟩ := hS.cells; go_simp; exact hK _ (by first | exact Ext.rfl' _ | exact Ext.new _ _ | assumption)))); (try simp only [List.nil_append, List.cons_append]))
                              (refine walkI_yesis (u := ?_) rfl (by simp) rfl rfl rfl ?_ ?_; rotate_left; (focus (intro A w' hS hA K hK; (simp only [List.map_cons, List.map_nil, knows, Is, Op.operands, Call.operands, List.lookup_cons, List.lookup_nil, Nat.reduceBEq, Bool.false_eq_true, if_false, if_true, Act.eval, Array.getD_eq_getD_getElem?, List.getElem?_toArray, List.getElem?_cons_succ, List.getElem?_cons_zero, Option.getD_some, and_true, true_and, List.append_toArray, List.nil_append, List.cons_append, List.toList_toArray, Array.toList_append, Option.toArray, List.append_nil] at hA); first | (go_simp; refine RetV_at (hzr.out w') ?_; intro w6 hx6; exact hK _ hx6) | (obtain ⟨hSc, hSf, hSs⟩ := hS.cells; go_simp; exact hK _ (by first | exact Ext.rfl' _ | exact Ext.new _ _ | assumption)))); (try simp only [List.nil_append, List.cons_append]))
                              (refine walkI_yesis (u := ?_) rfl (by simp) rfl rfl rfl ?_ ?_; rotate_left; (focus (intro A w' hS hA K hK; (simp only [List.map_cons, List.map_nil, knows, Is, Op.operands, Call.operands, List.lookup_cons, List.lookup_nil, Nat.reduceBEq, Bool.false_eq_true, if_false, if_true, Act.eval, Array.getD_eq_getD_getElem?, List.getElem?_toArray, List.getElem?_cons_succ, List.getElem?_cons_zero, Option.getD_some, and_true, true_and, List.append_toArray, List.nil_append, List.cons_append, List.toList_toArray, Array.toList_append, Option.toArray, List.append_nil] at hA); first | fail | (obtain ⟨hSc, hSf, hSs⟩ := hS.cells; go_simp; exact hK _ (by first | exact Ext.rfl' _ | exact Ext.new _ _ | assumption)))); (try simp only [List.nil_append, List.cons_append]))
                              (refine walkI_yesis (u := ?_) rfl (by simp) rfl rfl rfl ?_ ?_; rotate_left; (focus (intro A w' hS hA K hK; (simp only [List.map_cons, List.map_nil, knows, Is, Op.operands, Call.operands, List.lookup_cons, List.lookup_nil, Nat.reduceBEq, Bool.false_eq_true, if_false, if_true, Act.eval, Array.getD_eq_getD_getElem?, List.getElem?_toArray, List.getElem?_cons_succ, List.getElem?_cons_zero, Option.getD_some, and_true, true_and, List.append_toArray, List.nil_append, List.cons_append, List.toList_toArray, Array.toList_append, Option.toArray, List.append_nil] at hA); first | fail | (obtain ⟨hSc, hSf, hSs⟩ := hS.cells; go_simp; exact hK _ (by first | exact Ext.rfl' _ | exact Ext.new _ _ | assumption)))); (try simp only [List.nil_append, List.cons_append]))
                              (refine walkI_yesis (u := ?_) rfl (by simp) rfl rfl rfl ?_ ?_; rotate_left; (focus (intro A w' hS hA K hK; (simp only [List.map_cons, List.map_nil, knows, Is, Op.operands, Call.operands, List.lookup_cons, List.lookup_nil, Nat.reduceBEq, Bool.false_eq_true, if_false, if_true, Act.eval, Array.getD_eq_getD_getElem?, List.getElem?_toArray, List.getElem?_cons_succ, List.getElem?_cons_zero, Option.getD_some, and_true, true_and, List.append_toArray, List.nil_append, List.cons_append, List.toList_toArray, Array.toList_append, Option.toArray, List.append_nil] at hA); first | (go_simp; refine RetV_at (hzq.out w') ?_; intro w6 hx6; exact hK _ hx6) | (obtain ⟨hSc, hSf, hSs⟩ := hS.cells; go_simp; exact hK _ (by first | exact Ext.rfl' _ | exact Ext.new _ _ | assumption)))); (try simp only [List.nil_append, List.cons_append]))
                              (refine walkI_yesis (u := ?_) rfl (by simp) rfl rfl rfl ?_ ?_; rotate_left; (focus (intro A w' hS hA K hK; (simp only [List.map_cons, List.map_nil, knows, Is, Op.operands, Call.operands, List.lookup_cons, List.lookup_nil, Nat.reduceBEq, Bool.false_eq_true, if_false, if_true, Act.eval, Array.getD_eq_getD_getElem?, List.getElem?_toArray, List.getElem?_cons_succ, List.getElem?_cons_zero, Option.getD_some, and_true, true_and, List.append_toArray, List.nil_append, List.cons_append, List.toList_toArray, Array.toList_append, Option.toArray, List.append_nil] at hA); first | fail | (obtain ⟨hSc, hSf, hSs⟩ := hS.cells; go_simp; exact hK _ (by first | exact Ext.rfl' _ | exact Ext.new _ _ | assumption)))); (try simp only [List.nil_append, List.cons_append]))
                              (refine walkI_is (u := ?_) rfl (by simp) rfl ?_ ?_; rotate_left; (focus (intro A w' hS hA K hK; (simp only [List.map_cons, List.map_nil, knows, Is, Op.operands, Call.operands, List.lookup_cons, List.lookup_nil, Nat.reduceBEq, Bool.false_eq_true, if_false, if_true, Act.eval, Array.getD_eq_getD_getElem?, List.getElem?_toArray, List.getElem?_cons_succ, List.getElem?_cons_zero, Option.getD_some, and_true, true_and, List.append_toArray, List.nil_append, List.cons_append, List.toList_toArray, Array.toList_append, Option.toArray, List.append_nil] at hA); first | fail | (obtain ⟨hSc, hSf, hSs⟩ := hS.cells; go_simp; exact hK _ (by first | exact Ext.rfl' _ | exact Ext.new _ _ | assumption)))); (try simp only [List.nil_append, List.cons_append]))
                              (refine walkI_is (u := ?_) rfl (by simp) rfl ?_ ?_; rotate_left; (focus (intro A w' hS hA K hK; (simp only [List.map_cons, List.map_nil, knows, Is, Op.operands, Call.operands, List.lookup_cons, List.lookup_nil, Nat.reduceBEq, Bool.false_eq_true, if_false, if_true, Act.eval, Array.getD_eq_getD_getElem?, List.getElem?_toArray, List.getElem?_cons_succ, List.getElem?_cons_zero, Option.getD_some, and_true, true_and, List.append_toArray, List.nil_append, List.cons_append, List.toList_toArray, Array.toList_append, Option.toArray, List.append_nil] at hA); first | fail | (obtain ⟨hSc, hSf, hSs⟩ := hS.cells; go_simp; exact hK _ (by first | exact Ext.rfl' _ | exact Ext.new _ _ | assumption)))); (try simp only [List.nil_append, List.cons_append]))
                              (refine walkI_yesis (u := ?_) rfl (by simp) rfl rfl rfl ?_ ?_; rotate_left; (focus (intro A w' hS hA K hK; (simp only [List.map_cons, List.map_nil, knows, Is, Op.operands, Call.operands, List.lookup_cons, List.lookup_nil, Nat.reduceBEq, Bool.false_eq_true, if_false, if_true, Act.eval, Array.getD_eq_getD_getElem?, List.getElem?_toArray, List.getElem?_cons_succ, List.getElem?_cons_zero, Option.getD_some, and_true, true_and, List.append_toArray, List.nil_append, List.cons_append, List.toList_toArray, Array.toList_append, Option.toArray, List.append_nil] at hA); first | fail | (obtain ⟨hSc, hSf, hSs⟩ := hS.cells; go_simp; exact hK _ (by first | exact Ext.rfl' _ | exact Ext.new _ _ | assumption)))); (try simp only [List.nil_append, List.cons_append]))
                              (refine walkI_yesis (u := ?_) rfl (by simp) rfl rfl rfl ?_ ?_; rotate_left; (focus (intro A w' hS hA K hK; (simp only [List.map_cons, List.map_nil, knows, Is, Op.operands, Call.operands, List.lookup_cons, List.lookup_nil, Nat.reduceBEq, Bool.false_eq_true, if_false, if_true, Act.eval, Array.getD_eq_getD_getElem?, List.getElem?_toArray, List.getElem?_cons_succ, List.getElem?_cons_zero, Option.getD_some, and_true, true_and, List.append_toArray, List.nil_append, List.cons_append, List.toList_toArray, Array.toList_append, Option.toArray, List.append_nil] at hA); first | fail | (obtain ⟨hSc, hSf, hSs⟩ := hS.cells; go_simp; exact hK _ (by first | exact Ext.rfl' _ | exact Ext.new _ _ | assumption)))); (try simp only [List.nil_append, List.cons_append]))
                              (refine walkI_yesis (u := ?_) rfl (by simp) rfl rfl rfl ?_ ?_; rotate_left; (focus (intro A w' hS hA K hK; (simp only [List.map_cons, List.map_nil, knows, Is, Op.operands, Call.operands, List.lookup_cons, List.lookup_nil, Nat.reduceBEq, Bool.false_eq_true, if_false, if_true, Act.eval, Array.getD_eq_getD_getElem?, List.getElem?_toArray, List.getElem?_cons_succ, List.getElem?_cons_zero, Option.getD_some, and_true, true_and, List.append_toArray, List.nil_append, List.cons_append, List.toList_toArray, Array.toList_append, Option.toArray, List.append_nil] at hA); first | (go_simp; refine RetV_at (hzr.out w') ?_; intro w6 hx6; exact hK _ hx6) | (obtain ⟨hSc, hSf, hSs⟩ := hS.cells; go_simp; exact hK _ (by first | exact Ext.rfl' _ | exact Ext.new _ _ | assumption)))); (try simp only [List.nil_append, List.cons_append]))
                              (refine walkI_yesis (u := ?_) rfl (by simp) rfl rfl rfl ?_ ?_; rotate_left; (focus (intro A w' hS hA K hK; (simp only [List.map_cons, List.map_nil, knows, Is, Op.operands, Call.operands, List.lookup_cons, List.lookup_nil, Nat.reduceBEq, Bool.false_eq_true, if_false, if_true, Act.eval, Array.getD_eq_getD_getElem?, List.getElem?_toArray, List.getElem?_cons_succ, List.getElem?_cons_zero, Option.getD_some, and_true, true_and, List.append_toArray, List.nil_append, List.cons_append, List.toList_toArray, Array.toList_append, Option.toArray, List.append_nil] at hA); first | fail | (obtain ⟨hSc, hSf, hSs⟩ := hS.cells; go_simp; exact hK _ (by first | exact Ext.rfl' _ | exact Ext.new _ _ | assumption)))); (try simp only [List.nil_append, List.cons_append]))
                              (refine walkI_yesis (u := ?_) rfl (by simp) rfl rfl rfl ?_ ?_; rotate_left; (focus (intro A w' hS hA K hK; (simp only [List.map_cons, List.map_nil, knows, Is, Op.operands, Call.operands, List.lookup_cons, List.lookup_nil, Nat.reduceBEq, Bool.false_eq_true, if_false, if_true, Act.eval, Array.getD_eq_getD_getElem?, List.getElem?_toArray, List.getElem?_cons_succ, List.getElem?_cons_zero, Option.getD_some, and_true, true_and, List.append_toArray, List.nil_append, List.cons_append, List.toList_toArray, Array.toList_append, Option.toArray, List.append_nil] at hA); first | fail | (obtain ⟨hSc, hSf, hSs⟩ := hS.cells; go_simp; exact hK _ (by first | exact Ext.rfl' _ | exact Ext.new _ _ | assumption)))); (try simp only [List.nil_append, List.cons_append]))
                              (refine walkI_yesis (u := ?_) rfl (by simp) rfl rfl rfl ?_ ?_; rotate_left; (focus (intro A w' hS hA K hK; (simp only [List.map_cons, List.map_nil, knows, Is, Op.operands, Call.operands, List.lookup_cons, List.lookup_nil, Nat.reduceBEq, Bool.false_eq_true, if_false, if_true, Act.eval, Array.getD_eq_getD_getElem?, List.getElem?_toArray, List.getElem?_cons_succ, List.getElem?_cons_zero, Option.getD_some, and_true, true_and, List.append_toArray, List.nil_append, List.cons_append, List.toList_toArray, Array.toList_append, Option.toArray, List.append_nil] at hA); first | (go_simp; refine RetV_at (hzq.out w') ?_; intro w6 hx6; exact hK _ hx6) | (obtain ⟨hSc, hSf, hSs⟩ := hS.cells; go_simp; exact hK _ (by first | exact Ext.rfl' _ | exact Ext.new _ _ | assumption)))); (try simp only [List.nil_append, List.cons_append]))
                              (refine walkI_yesis (u := ?_) rfl (by simp) rfl rfl rfl ?_ ?_; rotate_left; (focus (intro A w' hS hA K hK; (simp only [List.map_cons, List.map_nil, knows, Is, Op.operands, Call.operands, List.lookup_cons, List.lookup_nil, Nat.reduceBEq, Bool.false_eq_true, if_false, if_true, Act.eval, Array.getD_eq_getD_getElem?, List.getElem?_toArray, List.getElem?_cons_succ, List.getElem?_cons_zero, Option.getD_some, and_true, true_and, List.append_toArray, List.nil_append, List.cons_append, List.toList_toArray, Array.toList_append, Option.toArray, List.append_nil] at hA); first | fail | (obtain ⟨hSc, hSf, hSs⟩ := hS.cells; go_simp; exact hK _ (by first | exact Ext.rfl' _ | exact Ext.new _ _ | assumption)))); (try simp only [List.nil_append, List.cons_append]))
                              (refine walkI_yesis (u := ?_) rfl (by simp) rfl rfl rfl ?_ ?_; rotate_left; (focus (intro A w' hS hA K hK; (simp only [List.map_cons, List.map_nil, knows, Is, Op.operands, Call.operands, List.lookup_cons, List.lookup_nil, Nat.reduceBEq, Bool.false_eq_true, if_false, if_true, Act.eval, Array.getD_eq_getD_getElem?, List.getElem?_toArray, List.getElem?_cons_succ, List.getElem?_cons_zero, Option.getD_some, and_true, true_and, List.append_toArray, List.nil_append, List.cons_append, List.toList_toArray, Array.toList_append, Option.toArray, List.append_nil] at hA); first | fail | (obtain ⟨hSc, hSf, hSs⟩ := hS.cells; go_simp; exact hK _ (by first | exact Ext.rfl' _ | exact Ext.new _ _ | assumption)))); (try simp only [List.nil_append, List.cons_append]))
                              (refine walkI_yesis (u := ?_) rfl (by simp) rfl rfl rfl ?_ ?_; rotate_left; (focus (intro A w' hS hA K hK; (simp only [List.map_cons, List.map_nil, knows, Is, Op.operands, Call.operands, List.lookup_cons, List.lookup_nil, Nat.reduceBEq, Bool.false_eq_true, if_false, if_true, Act.eval, Array.getD_eq_getD_getElem?, List.getElem?_toArray, List.getElem?_cons_succ, List.getElem?_cons_zero, Option.getD_some, and_true, true_and, List.append_toArray, List.nil_append, List.cons_append, List.toList_toArray, Array.toList_append, Option.toArray, List.append_nil] at hA); first | fail | (obtain ⟨hSc, hSf, hSs⟩ := hS.cells; go_simp; exact hK _ (by first | exact Ext.rfl' _ | exact Ext.new _ _ | assumption)))); (try simp only [List.nil_append, List.cons_append]))
                              (refine walkI_yesis (u := ?_) rfl (by simp) rfl rfl rfl ?_ ?_; rotate_left; (focus (intro A w' hS hA K hK; (simp only [List.map_cons, List.map_nil, knows, Is, Op.operands, Call.operands, List.lookup_cons, List.lookup_nil, Nat.reduceBEq, Bool.false_eq_true, if_false, if_true, Act.eval, Array.getD_eq_getD_getElem?, List.getElem?_toArray, List.getElem?_cons_succ, List.getElem?_cons_zero, Option.getD_some, and_true, true_and, List.append_toArray, List.nil_append, List.cons_append, List.toList_toArray, Array.toList_append, Option.toArray, List.append_nil] at hA); first | fail | (obtain ⟨hSc, hSf, hSs⟩ := hS.cells; go_simp; exact hK _ (by first | exact Ext.rfl' _ | exact Ext.new _ _ | assumption)))); (try simp only [List.nil_append, List.cons_append]))
                              (refine walkI_yesis (u := ?_) rfl (by simp) rfl rfl rfl ?_ ?_; rotate_left; (focus (intro A w' hS hA K hK; (simp only [List.map_cons, List.map_nil, knows, Is, Op.operands, Call.operands, List.lookup_cons, List.lookup_nil, Nat.reduceBEq, Bool.false_eq_true, if_false, if_true, Act.eval, Array.getD_eq_getD_getElem?, List.getElem?_toArray, List.getElem?_cons_succ, List.getElem?_cons_zero, Option.getD_some, and_true, true_and, List.append_toArray, List.nil_append, List.cons_append, List.toList_toArray, Array.toList_append, Option.toArray, List.append_nil] at hA); first | fail | (obtain ⟨hSc, hSf, hSs⟩ := hS.cells; go_simp; exact hK _ (by first | exact Ext.rfl' _ | exact Ext.new _ _ | assumption)))); (try simp only [List.nil_append, List.cons_append]))
                              (refine walkI_yesis (u := ?_) rfl (by simp) rfl rfl rfl ?_ ?_; rotate_left; (focus (intro A w' hS hA K hK; (simp only [List.map_cons, List.map_nil, knows, Is, Op.operands, Call.operands, List.lookup_cons, List.lookup_nil, Nat.reduceBEq, Bool.false_eq_true, if_false, if_true, Act.eval, Array.getD_eq_getD_getElem?, List.getElem?_toArray, List.getElem?_cons_succ, List.getElem?_cons_zero, Option.getD_some, and_true, true_and, List.append_toArray, List.nil_append, List.cons_append, List.toList_toArray, Array.toList_append, Option.toArray, List.append_nil] at hA); first | fail | (obtain ⟨hSc, hSf, hSs⟩ := hS.cells; go_simp; exact hK _ (by first | exact Ext.rfl' _ | exact Ext.new _ _ | assumption)))); (try simp only [List.nil_append, List.cons_append]))
                              (refine walkI_yesis (u := ?_) rfl (by simp) rfl rfl rfl ?_ ?_; rotate_left; (focus (intro A w' hS hA K hK; (simp only [List.map_cons, List.map_nil, knows, Is, Op.operands, Call.operands, List.lookup_cons, List.lookup_nil, Nat.reduceBEq, Bool.false_eq_true, if_false, if_true, Act.eval, Array.getD_eq_getD_getElem?, List.getElem?_toArray, List.getElem?_cons_succ, List.getElem?_cons_zero, Option.getD_some, and_true, true_and, List.append_toArray, List.nil_append, List.cons_append, List.toList_toArray, Array.toList_append, Option.toArray, List.append_nil] at hA); first | fail | (obtain ⟨hSc, hSf, hSs⟩ := hS.cells; go_simp; exact hK _ (by first | exact Ext.rfl' _ | exact Ext.new _ _ | assumption)))); (try simp only [List.nil_append, List.cons_append]))
                              (refine walkI_yesis (u := ?_) rfl (by simp) rfl rfl rfl ?_ ?_; rotate_left; (focus (intro A w' hS hA K hK; (simp only [List.map_cons, List.map_nil, knows, Is, Op.operands, Call.operands, List.lookup_cons, List.lookup_nil, Nat.reduceBEq, Bool.false_eq_true, if_false, if_true, Act.eval, Array.getD_eq_getD_getElem?, List.getElem?_toArray, List.getElem?_cons_succ, List.getElem?_cons_zero, Option.getD_some, and_true, true_and, List.append_toArray, List.nil_append, List.cons_append, List.toList_toArray, Array.toList_append, Option.toArray, List.append_nil] at hA); first | fail | (obtain ⟨hSc, hSf, hSs⟩ := hS.cells; go_simp; exact hK _ (by first | exact Ext.rfl' _ | exact Ext.new _ _ | assumption)))); (try simp only [List.nil_append, List.cons_append]))
                              (refine walkI_is (u := ?_) rfl (by simp) rfl ?_ ?_; rotate_left; (focus (intro A w' hS hA K hK; (simp only [List.map_cons, List.map_nil, knows, Is, Op.operands, Call.operands, List.lookup_cons, List.lookup_nil, Nat.reduceBEq, Bool.false_eq_true, if_false, if_true, Act.eval, Array.getD_eq_getD_getElem?, List.getElem?_toArray, List.getElem?_cons_succ, List.getElem?_cons_zero, Option.getD_some, and_true, true_and, List.append_toArray, List.nil_append, List.cons_append, List.toList_toArray, Array.toList_append, Option.toArray, List.append_nil] at hA); first | fail | (obtain ⟨hSc, hSf, hSs⟩ := hS.cells; go_simp; exact hK _ (by first | exact Ext.rfl' _ | exact Ext.new _ _ | assumption)))); (try simp only [List.nil_append, List.cons_append]))
                              (refine walkI_nil ?_; simp only [List.nil_append, List.cons_append, fins, Is, forall_eq, Act.put, List.setIfInBounds_toArray, List.set_cons_zero, List.set_cons_succ])
                              intro w6 hx6
                              replace hM3 := hM3.ext hx6
                              clear f12 f7 z12 z7 l0 l1 m0 m1 hx6
                              have hO12 := hM3.box 3 rfl
                              have hO7 := hM3.box 1 rfl
                              obtain ⟨c12, f12⟩ := hO12.facts
                              obtain ⟨c7, f7⟩ := hO7.facts
                              have z12 := hO12.lt
                              have z7 := hO7.lt
                              have l0 : _ = some (Value.int .i64 r.num) := c12 0
                              have l1 : _ = some (Value.int .i64 r.den) := c12 1
                              have m0 : _ = some (Value.int .i64 (q).num) := c7 0
                              have m1 : _ = some (Value.int .i64 (q).den) := c7 1
                              clear c12 c7 hO12 hO7
                              have hM9 := ((hM3.set 1 rfl 0 (.int .i64 r.num)).set 1 rfl 1 (.int .i64 r.den)).pick [0, 1, 2] (by decide)
                              simp only [List.set_cons_succ, List.set_cons_zero, raC, List.setIfInBounds_toArray, List.map_cons, List.map_nil, List.getElem?_cons_zero, List.getElem?_cons_succ, Option.getD_some] at hM9
                              clear hM3
                              go_wp2_with fail
                              go_roundw
                              case rel => exact ⟨k + 1, some r, by omega, by go_num, rfl, Lib.hid (by rw [hnw2.out]; exact hres.out.symm), Lib.hid (fun q' hq' => hbd3.out q' (by rw [hres.out]; exact hq')), hM9⟩
                              case measure => simp [intOf]; omega
                            · have hC1 : decide (q.num < r.num) = false := decide_eq_false hC
                              have hres : Hid (noteF (some q) r = some q) := Lib.hid (by rw [hsm, if_neg (show ¬ m ≠ m by omega), hC1]; rfl)
                              clear hsm
                              (refine wp_region_I 27 (by kernel_rfl) (by kernel_rfl) ?_; simp only [List.toList_toArray, List.take_succ_cons, List.take_zero, List.drop_succ_cons, List.drop_zero])
                              (refine walkI_is (u := ?_) rfl (by simp) rfl ?_ ?_; rotate_left; (focus (intro A w' hS hA K hK; (simp only [List.map_cons, List.map_nil, knows, Is, Op.operands, Call.operands, List.lookup_cons, List.lookup_nil, Nat.reduceBEq, Bool.false_eq_true, if_false, if_true, Act.eval, Array.getD_eq_getD_getElem?, List.getElem?_toArray, List.getElem?_cons_succ, List.getElem?_cons_zero, Option.getD_some, and_true, true_and, List.append_toArray, List.nil_append, List.cons_append, List.toList_toArray, Array.toList_append, Option.toArray, List.append_nil] at hA); first | fail | (obtain ⟨hSc, hSf, hSs⟩ := hS.cells; go_simp; exact hK _ (by first | exact Ext.rfl' _ | exact Ext.new _ _ | assumption)))); (try simp only [List.nil_append, List.cons_append]))
                              (refine walkI_is (u := ?_) rfl (by simp) rfl ?_ ?_; rotate_left; (focus (intro A w' hS hA K hK; (simp only [List.map_cons, List.map_nil, knows, Is, Op.operands, Call.operands, List.lookup_cons, List.lookup_nil, Nat.reduceBEq, Bool.false_eq_true, if_false, if_true, Act.eval, Array.getD_eq_getD_getElem?, List.getElem?_toArray, List.getElem?_cons_succ, List.getElem?_cons_zero, Option.getD_some, and_true, true_and, List.append_toArray, List.nil_append, List.cons_append, List.toList_toArray, Array.toList_append, Option.toArray, List.append_nil] at hA); first | fail | (obtain ⟨hSc, hSf, hSs⟩ := hS.cells; go_simp; exact hK _ (by first | exact Ext.rfl' _ | exact Ext.new _ _ | assumption)))); (try simp only [List.nil_append, List.cons_append]))
                              (refine walkI_is (u := ?_) rfl (by simp) rfl ?_ ?_; rotate_left; (focus (intro A w' hS hA K hK; (simp only [List.map_cons, List.map_nil, knows, Is, Op.operands, Call.operands, List.lookup_cons, List.lookup_nil, Nat.reduceBEq, Bool.false_eq_true, if_false, if_true, Act.eval, Array.getD_eq_getD_getElem?, List.getElem?_toArray, List.getElem?_cons_succ, List.getElem?_cons_zero, Option.getD_some, and_true, true_and, List.append_toArray, List.nil_append, List.cons_append, List.toList_toArray, Array.toList_append, Option.toArray, List.append_nil] at hA); first | fail | (obtain ⟨hSc, hSf, hSs⟩ := hS.cells; go_simp; exact hK _ (by first | exact Ext.rfl' _ | exact Ext.new _ _ | assumption)))); (try simp only [List.nil_append, List.cons_append]))
                              (refine walkI_yesis (u := ?_) rfl (by simp) rfl rfl rfl ?_ ?_; rotate_left; (focus (intro A w' hS hA K hK; (simp only [List.map_cons, List.map_nil, knows, Is, Op.operands, Call.operands, List.lookup_cons, List.lookup_nil, Nat.reduceBEq, Bool.false_eq_true, if_false, if_true, Act.eval, Array.getD_eq_getD_getElem?, List.getElem?_toArray, List.getElem?_cons_succ, List.getElem?_cons_zero, Option.getD_some, and_true, true_and, List.append_toArray, List.nil_append, List.cons_append, List.toList_toArray, Array.toList_append, Option.toArray, List.append_nil] at hA); first | fail | (obtain ⟨hSc, hSf, hSs⟩ := hS.cells; go_simp; exact hK _ (by first | exact Ext.rfl' _ | exact Ext.new _ _ | assumption)))); (try simp only [List.nil_append, List.cons_append]))
                              (refine walkI_yesis (u := ?_) rfl (by simp) rfl rfl rfl ?_ ?_; rotate_left; (focus (intro A w' hS hA K hK; (simp only [List.map_cons, List.map_nil, knows, Is, Op.operands, Call.operands, List.lookup_cons, List.lookup_nil, Nat.reduceBEq, Bool.false_eq_true, if_false, if_true, Act.eval, Array.getD_eq_getD_getElem?, List.getElem?_toArray, List.getElem?_cons_succ, List.getElem?_cons_zero, Option.getD_some, and_true, true_and, List.append_toArray, List.nil_append, List.cons_append, List.toList_toArray, Array.toList_append, Option.toArray, List.append_nil] at hA); first | fail | (obtain ⟨hSc, hSf, hSs⟩ := hS.cells; go_simp; exact hK _ (by first | exact Ext.rfl' _ | exact Ext.new _ _ | assumption)))); (try simp only [List.nil_append, List.cons_append]))
                              (refine walkI_yesis (u := ?_) rfl (by simp) rfl rfl rfl ?_ ?_; rotate_left; (focus (intro A w' hS hA K hK; (simp only [List.map_cons, List.map_nil, knows, Is, Op.operands, Call.operands, List.lookup_cons, List.lookup_nil, Nat.reduceBEq, Bool.false_eq_true, if_false, if_true, Act.eval, Array.getD_eq_getD_getElem?, List.getElem?_toArray, List.getElem?_cons_succ, List.getElem?_cons_zero, Option.getD_some, and_true, true_and, List.append_toArray, List.nil_append, List.cons_append, List.toList_toArray, Array.toList_append, Option.toArray, List.append_nil] at hA); first | (go_simp; refine RetV_at (hzr.out w') ?_; intro w6 hx6; exact hK _ hx6) | (obtain ⟨hSc, hSf, hSs⟩ := hS.cells; go_simp; exact hK _ (by first | exact Ext.rfl' _ | exact Ext.new _ _ | assumption)))); (try simp only [List.nil_append, List.cons_append]))
                              (refine walkI_yesis (u := ?_) rfl (by simp) rfl rfl rfl ?_ ?_; rotate_left; (focus (intro A w' hS hA K hK; (simp only [List.map_cons, List.map_nil, knows, Is, Op.operands, Call.operands, List.lookup_cons, List.lookup_nil, Nat.reduceBEq, Bool.false_eq_true, if_false, if_true, Act.eval, Array.getD_eq_getD_getElem?, List.getElem?_toArray, List.getElem?_cons_succ, List.getElem?_cons_zero, Option.getD_some, and_true, true_and, List.append_toArray, List.nil_append, List.cons_append, List.toList_toArray, Array.toList_append, Option.toArray, List.append_nil] at hA); first | fail | (obtain ⟨hSc, hSf, hSs⟩ := hS.cells; go_simp; exact hK _ (by first | exact Ext.rfl' _ | exact Ext.new _ _ | assumption)))); (try simp only [List.nil_append, List.cons_append]))
                              (refine walkI_yesis (u := ?_) rfl (by simp) rfl rfl rfl ?_ ?_; rotate_left; (focus (intro A w' hS hA K hK; (simp only [List.map_cons, List.map_nil, knows, Is, Op.operands, Call.operands, List.lookup_cons, List.lookup_nil, Nat.reduceBEq, Bool.false_eq_true, if_false, if_true, Act.eval, Array.getD_eq_getD_getElem?, List.getElem?_toArray, List.getElem?_cons_succ, List.getElem?_cons_zero, Option.getD_some, and_true, true_and, List.append_toArray, List.nil_append, List.cons_append, List.toList_toArray, Array.toList_append, Option.toArray, List.append_nil] at hA); first | fail | (obtain ⟨hSc, hSf, hSs⟩ := hS.cells; go_simp; exact hK _ (by first | exact Ext.rfl' _ | exact Ext.new _ _ | assumption)))); (try simp only [List.nil_append, List.cons_append]))
                              (refine walkI_yesis (u := ?_) rfl (by simp) rfl rfl rfl ?_ ?_; rotate_left; (focus (intro A w' hS hA K hK; (simp only [List.map_cons, List.map_nil, knows, Is, Op.operands, Call.operands, List.lookup_cons, List.lookup_nil, Nat.reduceBEq, Bool.false_eq_true, if_false, if_true, Act.eval, Array.getD_eq_getD_getElem?, List.getElem?_toArray, List.getElem?_cons_succ, List.getElem?_cons_zero, Option.getD_some, and_true, true_and, List.append_toArray, List.nil_append, List.cons_append, List.toList_toArray, Array.toList_append, Option.toArray, List.append_nil] at hA); first | (go_simp; refine RetV_at (hzq.out w') ?_; intro w6 hx6; exact hK _ hx6) | (obtain ⟨hSc, hSf, hSs⟩ := hS.cells; go_simp; exact hK _ (by first | exact Ext.rfl' _ | exact Ext.new _ _ | assumption)))); (try simp only [List.nil_append, List.cons_append]))
                              (refine walkI_yesis (u := ?_) rfl (by simp) rfl rfl rfl ?_ ?_; rotate_left; (focus (intro A w' hS hA K hK; (simp only [List.map_cons, List.map_nil, knows, Is, Op.operands, Call.operands, List.lookup_cons, List.lookup_nil, Nat.reduceBEq, Bool.false_eq_true, if_false, if_true, Act.eval, Array.getD_eq_getD_getElem?, List.getElem?_toArray, List.getElem?_cons_succ, List.getElem?_cons_zero, Option.getD_some, and_true, true_and, List.append_toArray, List.nil_append, List.cons_append, List.toList_toArray, Array.toList_append, Option.toArray, List.append_nil] at hA); first | fail | (obtain ⟨hSc, hSf, hSs⟩ := hS.cells; go_simp; exact hK _ (by first | exact Ext.rfl' _ | exact Ext.new _ _ | assumption)))); (try simp only [List.nil_append, List.cons_append]))
                              (refine walkI_is (u := ?_) rfl (by simp) rfl ?_ ?_; rotate_left; (focus (intro A w' hS hA K hK; (simp only [List.map_cons, List.map_nil, knows, Is, Op.operands, Call.operands, List.lookup_cons, List.lookup_nil, Nat.reduceBEq, Bool.false_eq_true, if_false, if_true, Act.eval, Array.getD_eq_getD_getElem?, List.getElem?_toArray, List.getElem?_cons_succ, List.getElem?_cons_zero, Option.getD_some, and_true, true_and, List.append_toArray, List.nil_append, List.cons_append, List.toList_toArray, Array.toList_append, Option.toArray, List.append_nil] at hA); first | fail | (obtain ⟨hSc, hSf, hSs⟩ := hS.cells; go_simp; exact hK _ (by first | exact Ext.rfl' _ | exact Ext.new _ _ | assumption)))); (try simp only [List.nil_append, List.cons_append]))
                              (refine walkI_is (u := ?_) rfl (by simp) rfl ?_ ?_; rotate_left; (focus (intro A w' hS hA K hK; (simp only [List.map_cons, List.map_nil, knows, Is, Op.operands, Call.operands, List.lookup_cons, List.lookup_nil, Nat.reduceBEq, Bool.false_eq_true, if_false, if_true, Act.eval, Array.getD_eq_getD_getElem?, List.getElem?_toArray, List.getElem?_cons_succ, List.getElem?_cons_zero, Option.getD_some, and_true, true_and, List.append_toArray, List.nil_append, List.cons_append, List.toList_toArray, Array.toList_append, Option.toArray, List.append_nil] at hA); first | fail | (obtain ⟨hSc, hSf, hSs⟩ := hS.cells; go_simp; exact hK _ (by first | exact Ext.rfl' _ | exact Ext.new _ _ | assumption)))); (try simp only [List.nil_append, List.cons_append]))
                              (refine walkI_yesis (u := ?_) rfl (by simp) rfl rfl rfl ?_ ?_; rotate_left; (focus (intro A w' hS hA K hK; (simp only [List.map_cons, List.map_nil, knows, Is, Op.operands, Call.operands, List.lookup_cons, List.lookup_nil, Nat.reduceBEq, Bool.false_eq_true, if_false, if_true, Act.eval, Array.getD_eq_getD_getElem?, List.getElem?_toArray, List.getElem?_cons_succ, List.getElem?_cons_zero, Option.getD_some, and_true, true_and, List.append_toArray, List.nil_append, List.cons_append, List.toList_toArray, Array.toList_append, Option.toArray, List.append_nil] at hA); first | fail | (obtain ⟨hSc, hSf, hSs⟩ := hS.cells; go_simp; exact hK _ (by first | exact Ext.rfl' _ | exact Ext.new _ _ | assumption)))); (try simp only [List.nil_append, List.cons_append]))
                              (refine walkI_yesis (u := ?_) rfl (by simp) rfl rfl rfl ?_ ?_; rotate_left; (focus (intro A w' hS hA K hK; (simp only [List.map_cons, List.map_nil, knows, Is, Op.operands, Call.operands, List.lookup_cons, List.lookup_nil, Nat.reduceBEq, Bool.false_eq_true, if_false, if_true, Act.eval, Array.getD_eq_getD_getElem?, List.getElem?_toArray, List.getElem?_cons_succ, List.getElem?_cons_zero, Option.getD_some, and_true, true_and, List.append_toArray, List.nil_append, List.cons_append, List.toList_toArray, Array.toList_append, Option.toArray, List.append_nil] at hA); first | fail | (obtain ⟨hSc, hSf, hSs⟩ := hS.cells; go_simp; exact hK _ (by first | exact Ext.rfl' _ | exact Ext.new _ _ | assumption)))); (try simp only [List.nil_append, List.cons_append]))
                              (refine walkI_yesis (u := ?_) rfl (by simp) rfl rfl rfl ?_ ?_; rotate_left; (focus (intro A w' hS hA K hK; (simp only [List.map_cons, List.map_nil, knows, Is, Op.operands, Call.operands, List.lookup_cons, List.lookup_nil, Nat.reduceBEq, Bool.false_eq_true, if_false, if_true, Act.eval, Array.getD_eq_getD_getElem?, List.getElem?_toArray, List.getElem?_cons_succ, List.getElem?_cons_zero, Option.getD_some, and_true, true_and, List.append_toArray, List.nil_append, List.cons_append, List.toList_toArray, Array.toList_append, Option.toArray, List.append_nil] at hA); first | (go_simp; refine RetV_at (hzr.out w') ?_; intro w6 hx6; exact hK _ hx6) | (obtain ⟨hSc, hSf, hSs⟩ := hS.cells; go_simp; exact hK _ (by first | exact Ext.rfl' _ | exact Ext.new _ _ | assumption)))); (try simp only [List.nil_append, List.cons_append]))
                              (refine walkI_yesis (u := ?_) rfl (by simp) rfl rfl rfl ?_ ?_; rotate_left; (focus (intro A w' hS hA K hK; (simp only [List.map_cons, List.map_nil, knows, Is, Op.operands, Call.operands, List.lookup_cons, List.lookup_nil, Nat.reduceBEq, Bool.false_eq_true, if_false, if_true, Act.eval, Array.getD_eq_getD_getElem?, List.getElem?_toArray, List.getElem?_cons_succ, List.getElem?_cons_zero, Option.getD_some, and_true, true_and, List.append_toArray, List.nil_append, List.cons_append, List.toList_toArray, Array.toList_append, Option.toArray, List.append_nil] at hA); first | fail | (obtain ⟨hSc, hSf, hSs⟩ := hS.cells; go_simp; exact hK _ (by first | exact Ext.rfl' _ | exact Ext.new _ _ | assumption)))); (try simp only [List.nil_append, List.cons_append]))
                              (refine walkI_yesis (u := ?_) rfl (by simp) rfl rfl rfl ?_ ?_; rotate_left; (focus (intro A w' hS hA K hK; (simp only [List.map_cons, List.map_nil, knows, Is, Op.operands, Call.operands, List.lookup_cons, List.lookup_nil, Nat.reduceBEq, Bool.false_eq_true, if_false, if_true, Act.eval, Array.getD_eq_getD_getElem?, List.getElem?_toArray, List.getElem?_cons_succ, List.getElem?_cons_zero, Option.getD_some, and_true, true_and, List.append_toArray, List.nil_append, List.cons_append, List.toList_toArray, Array.toList_append, Option.toArray, List.append_nil] at hA); first | fail | (obtain ⟨hSc, hSf, hSs⟩ := hS.cells; go_simp; exact hK _ (by first | exact Ext.rfl' _ | exact Ext.new _ _ | assumption)))); (try simp only [List.nil_append, List.cons_append]))
                              (refine walkI_yesis (u := ?_) rfl (by simp) rfl rfl rfl ?_ ?_; rotate_left; (focus (intro A w' hS hA K hK; (simp only [List.map_cons, List.map_nil, knows, Is, Op.operands, Call.operands, List.lookup_cons, List.lookup_nil, Nat.reduceBEq, Bool.false_eq_true, if_false, if_true, Act.eval, Array.getD_eq_getD_getElem?, List.getElem?_toArray, List.getElem?_cons_succ, List.getElem?_cons_zero, Option.getD_some, and_true, true_and, List.append_toArray, List.nil_append, List.cons_append, List.toList_toArray, Array.toList_append, Option.toArray, List.append_nil] at hA); first | (go_simp; refine RetV_at (hzq.out w') ?_; intro w6 hx6; exact hK _ hx6) | (obtain ⟨hSc, hSf, hSs⟩ := hS.cells; go_simp; exact hK _ (by first | exact Ext.rfl' _ | exact Ext.new _ _ | assumption)))); (try simp only [List.nil_append, List.cons_append]))
                              (refine walkI_yesis (u := ?_) rfl (by simp) rfl rfl rfl ?_ ?_; rotate_left; (focus (intro A w' hS hA K hK; (simp only [List.map_cons, List.map_nil, knows, Is, Op.operands, Call.operands, List.lookup_cons, List.lookup_nil, Nat.reduceBEq, Bool.false_eq_true, if_false, if_true, Act.eval, Array.getD_eq_getD_getElem?, List.getElem?_toArray, List.getElem?_cons_succ, List.getElem?_cons_zero, Option.getD_some, and_true, true_and, List.append_toArray, List.nil_append, List.cons_append, List.toList_toArray, Array.toList_append, Option.toArray, List.append_nil] at hA); first | fail | (obtain ⟨hSc, hSf, hSs⟩ := hS.cells; go_simp; exact hK _ (by first | exact Ext.rfl' _ | exact Ext.new _ _ | assumption)))); (try simp only [List.nil_append, List.cons_append]))
                              (refine walkI_yesis (u := ?_) rfl (by simp) rfl rfl rfl ?_ ?_; rotate_left; (focus (intro A w' hS hA K hK; (simp only [List.map_cons, List.map_nil, knows, Is, Op.operands, Call.operands, List.lookup_cons, List.lookup_nil, Nat.reduceBEq, Bool.false_eq_true, if_false, if_true, Act.eval, Array.getD_eq_getD_getElem?, List.getElem?_toArray, List.getElem?_cons_succ, List.getElem?_cons_zero, Option.getD_some, and_true, true_and, List.append_toArray, List.nil_append, List.cons_append, List.toList_toArray, Array.toList_append, Option.toArray, List.append_nil] at hA); first | fail | (obtain ⟨hSc, hSf, hSs⟩ := hS.cells; go_simp; exact hK _ (by first | exact Ext.rfl' _ | exact Ext.new _ _ | assumption)))); (try simp only [List.nil_append, List.cons_append]))
                              (refine walkI_yesis (u := ?_) rfl (by simp) rfl rfl rfl ?_ ?_; rotate_left; (focus (intro A w' hS hA K hK; (simp only [List.map_cons, List.map_nil, knows, Is, Op.operands, Call.operands, List.lookup_cons, List.lookup_nil, Nat.reduceBEq, Bool.false_eq_true, if_false, if_true, Act.eval, Array.getD_eq_getD_getElem?, List.getElem?_toArray, List.getElem?_cons_succ, List.getElem?_cons_zero, Option.getD_some, and_true, true_and, List.append_toArray, List.nil_append, List.cons_append, List.toList_toArray, Array.toList_append, Option.toArray, List.append_nil] at hA); first | fail | (obtain ⟨hSc, hSf, hSs⟩ := hS.cells; go_simp; exact hK _ (by first | exact Ext.rfl' _ | exact Ext.new _ _ | assumption)))); (try simp only [List.nil_append, List.cons_append]))
                              (refine walkI_yesis (u := ?_) rfl (by simp) rfl rfl rfl ?_ ?_; rotate_left; (focus (intro A w' hS hA K hK; (simp only [List.map_cons, List.map_nil, knows, Is, Op.operands, Call.operands, List.lookup_cons, List.lookup_nil, Nat.reduceBEq, Bool.false_eq_true, if_false, if_true, Act.eval, Array.getD_eq_getD_getElem?, List.getElem?_toArray, List.getElem?_cons_succ, List.getElem?_cons_zero, Option.getD_some, and_true, true_and, List.append_toArray, List.nil_append, List.cons_append, List.toList_toArray, Array.toList_append, Option.toArray, List.append_nil] at hA); first | fail | (obtain ⟨hSc, hSf, hSs⟩ := hS.cells; go_simp; exact hK _ (by first | exact Ext.rfl' _ | exact Ext.new _ _ | assumption)))); (try simp only [List.nil_append, List.cons_append]))
                              (refine walkI_yesis (u := ?_) rfl (by simp) rfl rfl rfl ?_ ?_; rotate_left; (focus (intro A w' hS hA K hK; (simp only [List.map_cons, List.map_nil, knows, Is, Op.operands, Call.operands, List.lookup_cons, List.lookup_nil, Nat.reduceBEq, Bool.false_eq_true, if_false, if_true, Act.eval, Array.getD_eq_getD_getElem?, List.getElem?_toArray, List.getElem?_cons_succ, List.getElem?_cons_zero, Option.getD_some, and_true, true_and, List.append_toArray, List.nil_append, List.cons_append, List.toList_toArray, Array.toList_append, Option.toArray, List.append_nil] at hA); first | fail | (obtain ⟨hSc, hSf, hSs⟩ := hS.cells; go_simp; exact hK _ (by first | exact Ext.rfl' _ | exact Ext.new _ _ | assumption)))); (try simp only [List.nil_append, List.cons_append]))
                              (refine walkI_yesis (u := ?_) rfl (by simp) rfl rfl rfl ?_ ?_; rotate_left; (focus (intro A w' hS hA K hK; (simp only [List.map_cons, List.map_nil, knows, Is, Op.operands, Call.operands, List.lookup_cons, List.lookup_nil, Nat.reduceBEq, Bool.false_eq_true, if_false, if_true, Act.eval, Array.getD_eq_getD_getElem?, List.getElem?_toArray, List.getElem?_cons_succ, List.getElem?_cons_zero, Option.getD_some, and_true, true_and, List.append_toArray, List.nil_append, List.cons_append, List.toList_toArray, Array.toList_append, Option.toArray, List.append_nil] at hA); first | fail | (obtain ⟨hSc, hSf, hSs⟩ := hS.cells; go_simp; exact hK _ (by first | exact Ext.rfl' _ | exact Ext.new _ _ | assumption)))); (try simp only [List.nil_append, List.cons_append]))
                              (refine walkI_yesis (u := ?_) rfl (by simp) rfl rfl rfl ?_ ?_; rotate_left; (focus (intro A w' hS hA K hK; (simp only [List.map_cons, List.map_nil, knows, Is, Op.operands, Call.operands, List.lookup_cons, List.lookup_nil, Nat.reduceBEq, Bool.false_eq_true, if_false, if_true, Act.eval, Array.getD_eq_getD_getElem?, List.getElem?_toArray, List.getElem?_cons_succ, List.getElem?_cons_zero, Option.getD_some, and_true, true_and, List.append_toArray, List.nil_append, List.cons_append, List.toList_toArray, Array.toList_append, Option.toArray, List.append_nil] at hA); first | fail | (obtain ⟨hSc, hSf, hSs⟩ := hS.cells; go_simp; exact hK _ (by first | exact Ext.rfl' _ | exact Ext.new _ _ | assumption)))); (try simp only [List.nil_append, List.cons_append]))
                              (refine walkI_yesis (u := ?_) rfl (by simp) rfl rfl rfl ?_ ?_; rotate_left; (focus (intro A w' hS hA K hK; (simp only [List.map_cons, List.map_nil, knows, Is, Op.operands, Call.operands, List.lookup_cons, List.lookup_nil, Nat.reduceBEq, Bool.false_eq_true, if_false, if_true, Act.eval, Array.getD_eq_getD_getElem?, List.getElem?_toArray, List.getElem?_cons_succ, List.getElem?_cons_zero, Option.getD_some, and_true, true_and, List.append_toArray, List.nil_append, List.cons_append, List.toList_toArray, Array.toList_append, Option.toArray, List.append_nil] at hA); first | fail | (obtain ⟨hSc, hSf, hSs⟩ := hS.cells; go_simp; exact hK _ (by first | exact Ext.rfl' _ | exact Ext.new _ _ | assumption)))); (try simp only [List.nil_append, List.cons_append]))
                              (refine walkI_is (u := ?_) rfl (by simp) rfl ?_ ?_; rotate_left; (focus (intro A w' hS hA K hK; (simp only [List.map_cons, List.map_nil, knows, Is, Op.operands, Call.operands, List.lookup_cons, List.lookup_nil, Nat.reduceBEq, Bool.false_eq_true, if_false, if_true, Act.eval, Array.getD_eq_getD_getElem?, List.getElem?_toArray, List.getElem?_cons_succ, List.getElem?_cons_zero, Option.getD_some, and_true, true_and, List.append_toArray, List.nil_append, List.cons_append, List.toList_toArray, Array.toList_append, Option.toArray, List.append_nil] at hA); first | fail | (obtain ⟨hSc, hSf, hSs⟩ := hS.cells; go_simp; exact hK _ (by first | exact Ext.rfl' _ | exact Ext.new _ _ | assumption)))); (try simp only [List.nil_append, List.cons_append]))
                              (refine walkI_nil ?_; simp only [List.nil_append, List.cons_append, fins, Is, forall_eq, Act.put, List.setIfInBounds_toArray, List.set_cons_zero, List.set_cons_succ])
                              intro w6 hx6
                              replace hM3 := hM3.ext hx6
                              clear f12 f7 z12 z7 l0 l1 m0 m1 hx6
                              have hO12 := hM3.box 3 rfl
                              have hO7 := hM3.box 1 rfl
                              obtain ⟨c12, f12⟩ := hO12.facts
                              obtain ⟨c7, f7⟩ := hO7.facts
                              have z12 := hO12.lt
                              have z7 := hO7.lt
                              have l0 : _ = some (Value.int .i64 r.num) := c12 0
                              have l1 : _ = some (Value.int .i64 r.den) := c12 1
                              have m0 : _ = some (Value.int .i64 (q).num) := c7 0
                              have m1 : _ = some (Value.int .i64 (q).den) := c7 1
                              clear c12 c7 hO12 hO7
                              have hM9 := hM3.pick [0, 1, 2] (by decide)
                              simp only [List.map_cons, List.map_nil, List.getElem?_cons_zero, List.getElem?_cons_succ, Option.getD_some] at hM9
                              clear hM3
                              go_wp2_with fail
                              go_roundw
                              case rel => exact ⟨k + 1, some q, by omega, by go_num, rfl, Lib.hid (by rw [hnw2.out]; exact hres.out.symm), hbd', hM9⟩
                              case measure => simp [intOf]; omega
                          · have hB1 : ((m : Int) == (m' : Int)) = false := by rw [beq_eq_false_iff_ne]; omega
                            have hres : Hid (noteF (some q) r = some q) := Lib.hid (by rw [hsm, if_pos hB, hA1]; rfl)
                            clear hsm
                            (refine wp_region_I 27 (by kernel_rfl) (by kernel_rfl) ?_; simp only [List.toList_toArray, List.take_succ_cons, List.take_zero, List.drop_succ_cons, List.drop_zero])
                            (refine walkI_is (u := ?_) rfl (by simp) rfl ?_ ?_; rotate_left; (focus (intro A w' hS hA K hK; (simp only [List.map_cons, List.map_nil, knows, Is, Op.operands, Call.operands, List.lookup_cons, List.lookup_nil, Nat.reduceBEq, Bool.false_eq_true, if_false, if_true, Act.eval, Array.getD_eq_getD_getElem?, List.getElem?_toArray, List.getElem?_cons_succ, List.getElem?_cons_zero, Option.getD_some, and_true, true_and, List.append_toArray, List.nil_append, List.cons_append, List.toList_toArray, Array.toList_append, Option.toArray, List.append_nil] at hA); first | fail | (obtain ⟨hSc, hSf, hSs⟩ := hS.cells; go_simp; exact hK _ (by first | exact Ext.rfl' _ | exact Ext.new _ _ | assumption)))); (try simp only [List.nil_append, List.cons_append]))
                            (refine walkI_is (u := ?_) rfl (by simp) rfl ?_ ?_; rotate_left; (focus (intro A w' hS hA K hK; (simp only [List.map_cons, List.map_nil, knows, Is, Op.operands, Call.operands, List.lookup_cons, List.lookup_nil, Nat.reduceBEq, Bool.false_eq_true, if_false, if_true, Act.eval, Array.getD_eq_getD_getElem?, List.getElem?_toArray, List.getElem?_cons_succ, List.getElem?_cons_zero, Option.getD_some, and_true, true_and, List.append_toArray, List.nil_append, List.cons_append, List.toList_toArray, Array.toList_append, Option.toArray, List.append_nil] at hA); first | fail | (obtain ⟨hSc, hSf, hSs⟩ := hS.cells; go_simp; exact hK _ (by first | exact Ext.rfl' _ | exact Ext.new _ _ | assumption)))); (try simp only [List.nil_append, List.cons_append]))
                            (refine walkI_is (u := ?_) rfl (by simp) rfl ?_ ?_; rotate_left; (focus (intro A w' hS hA K hK; (simp only [List.map_cons, List.map_nil, knows, Is, Op.operands, Call.operands, List.lookup_cons, List.lookup_nil, Nat.reduceBEq, Bool.false_eq_true, if_false, if_true, Act.eval, Array.getD_eq_getD_getElem?, List.getElem?_toArray, List.getElem?_cons_succ, List.getElem?_cons_zero, Option.getD_some, and_true, true_and, List.append_toArray, List.nil_append, List.cons_append, List.toList_toArray, Array.toList_append, Option.toArray, List.append_nil] at hA); first | fail | (obtain ⟨hSc, hSf, hSs⟩ := hS.cells; go_simp; exact hK _ (by first | exact Ext.rfl' _ | exact Ext.new _ _ | assumption)))); (try simp only [List.nil_append, List.cons_append]))
                            (refine walkI_yesis (u := ?_) rfl (by simp) rfl rfl rfl ?_ ?_; rotate_left; (focus (intro A w' hS hA K hK; (simp only [List.map_cons, List.map_nil, knows, Is, Op.operands, Call.operands, List.lookup_cons, List.lookup_nil, Nat.reduceBEq, Bool.false_eq_true, if_false, if_true, Act.eval, Array.getD_eq_getD_getElem?, List.getElem?_toArray, List.getElem?_cons_succ, List.getElem?_cons_zero, Option.getD_some, and_true, true_and, List.append_toArray, List.nil_append, List.cons_append, List.toList_toArray, Array.toList_append, Option.toArray, List.append_nil] at hA); first | fail | (obtain ⟨hSc, hSf, hSs⟩ := hS.cells; go_simp; exact hK _ (by first | exact Ext.rfl' _ | exact Ext.new _ _ | assumption)))); (try simp only [List.nil_append, List.cons_append]))
                            (refine walkI_yesis (u := ?_) rfl (by simp) rfl rfl rfl ?_ ?_; rotate_left; (focus (intro A w' hS hA K hK; (simp only [List.map_cons, List.map_nil, knows, Is, Op.operands, Call.operands, List.lookup_cons, List.lookup_nil, Nat.reduceBEq, Bool.false_eq_true, if_false, if_true, Act.eval, Array.getD_eq_getD_getElem?, List.getElem?_toArray, List.getElem?_cons_succ, List.getElem?_cons_zero, Option.getD_some, and_true, true_and, List.append_toArray, List.nil_append, List.cons_append, List.toList_toArray, Array.toList_append, Option.toArray, List.append_nil] at hA); first | fail | (obtain ⟨hSc, hSf, hSs⟩ := hS.cells; go_simp; exact hK _ (by first | exact Ext.rfl' _ | exact Ext.new _ _ | assumption)))); (try simp only [List.nil_append, List.cons_append]))
                            (refine walkI_yesis (u := ?_) rfl (by simp) rfl rfl rfl ?_ ?_; rotate_left; (focus (intro A w' hS hA K hK; (simp only [List.map_cons, List.map_nil, knows, Is, Op.operands, Call.operands, List.lookup_cons, List.lookup_nil, Nat.reduceBEq, Bool.false_eq_true, if_false, if_true, Act.eval, Array.getD_eq_getD_getElem?, List.getElem?_toArray, List.getElem?_cons_succ, List.getElem?_cons_zero, Option.getD_some, and_true, true_and, List.append_toArray, List.nil_append, List.cons_append, List.toList_toArray, Array.toList_append, Option.toArray, List.append_nil] at hA); first | (go_simp; refine RetV_at (hzr.out w') ?_; intro w6 hx6; exact hK _ hx6) | (obtain ⟨hSc, hSf, hSs⟩ := hS.cells; go_simp; exact hK _ (by first | exact Ext.rfl' _ | exact Ext.new _ _ | assumption)))); (try simp only [List.nil_append, List.cons_append]))
                            (refine walkI_yesis (u := ?_) rfl (by simp) rfl rfl rfl ?_ ?_; rotate_left; (focus (intro A w' hS hA K hK; (simp only [List.map_cons, List.map_nil, knows, Is, Op.operands, Call.operands, List.lookup_cons, List.lookup_nil, Nat.reduceBEq, Bool.false_eq_true, if_false, if_true, Act.eval, Array.getD_eq_getD_getElem?, List.getElem?_toArray, List.getElem?_cons_succ, List.getElem?_cons_zero, Option.getD_some, and_true, true_and, List.append_toArray, List.nil_append, List.cons_append, List.toList_toArray, Array.toList_append, Option.toArray, List.append_nil] at hA); first | fail | (obtain ⟨hSc, hSf, hSs⟩ := hS.cells; go_simp; exact hK _ (by first | exact Ext.rfl' _ | exact Ext.new _ _ | assumption)))); (try simp only [List.nil_append, List.cons_append]))
                            (refine walkI_yesis (u := ?_) rfl (by simp) rfl rfl rfl ?_ ?_; rotate_left; (focus (intro A w' hS hA K hK; (simp only [List.map_cons, List.map_nil, knows, Is, Op.operands, Call.operands, List.lookup_cons, List.lookup_nil, Nat.reduceBEq, Bool.false_eq_true, if_false, if_true, Act.eval, Array.getD_eq_getD_getElem?, List.getElem?_toArray, List.getElem?_cons_succ, List.getElem?_cons_zero, Option.getD_some, and_true, true_and, List.append_toArray, List.nil_append, List.cons_append, List.toList_toArray, Array.toList_append, Option.toArray, List.append_nil] at hA); first | fail | (obtain ⟨hSc, hSf, hSs⟩ := hS.cells; go_simp; exact hK _ (by first | exact Ext.rfl' _ | exact Ext.new _ _ | assumption)))); (try simp only [List.nil_append, List.cons_append]))
                            (refine walkI_yesis (u := ?_) rfl (by simp) rfl rfl rfl ?_ ?_; rotate_left; (focus (intro A w' hS hA K hK; (simp only [List.map_cons, List.map_nil, knows, Is, Op.operands, Call.operands, List.lookup_cons, List.lookup_nil, Nat.reduceBEq, Bool.false_eq_true, if_false, if_true, Act.eval, Array.getD_eq_getD_getElem?, List.getElem?_toArray, List.getElem?_cons_succ, List.getElem?_cons_zero, Option.getD_some, and_true, true_and, List.append_toArray, List.nil_append, List.cons_append, List.toList_toArray, Array.toList_append, Option.toArray, List.append_nil] at hA); first | (go_simp; refine RetV_at (hzq.out w') ?_; intro w6 hx6; exact hK _ hx6) | (obtain ⟨hSc, hSf, hSs⟩ := hS.cells; go_simp; exact hK _ (by first | exact Ext.rfl' _ | exact Ext.new _ _ | assumption)))); (try simp only [List.nil_append, List.cons_append]))
                            (refine walkI_yesis (u := ?_) rfl (by simp) rfl rfl rfl ?_ ?_; rotate_left; (focus (intro A w' hS hA K hK; (simp only [List.map_cons, List.map_nil, knows, Is, Op.operands, Call.operands, List.lookup_cons, List.lookup_nil, Nat.reduceBEq, Bool.false_eq_true, if_false, if_true, Act.eval, Array.getD_eq_getD_getElem?, List.getElem?_toArray, List.getElem?_cons_succ, List.getElem?_cons_zero, Option.getD_some, and_true, true_and, List.append_toArray, List.nil_append, List.cons_append, List.toList_toArray, Array.toList_append, Option.toArray, List.append_nil] at hA); first | fail | (obtain ⟨hSc, hSf, hSs⟩ := hS.cells; go_simp; exact hK _ (by first | exact Ext.rfl' _ | exact Ext.new _ _ | assumption)))); (try simp only [List.nil_append, List.cons_append]))
                            (refine walkI_is (u := ?_) rfl (by simp) rfl ?_ ?_; rotate_left; (focus (intro A w' hS hA K hK; (simp only [List.map_cons, List.map_nil, knows, Is, Op.operands, Call.operands, List.lookup_cons, List.lookup_nil, Nat.reduceBEq, Bool.false_eq_true, if_false, if_true, Act.eval, Array.getD_eq_getD_getElem?, List.getElem?_toArray, List.getElem?_cons_succ, List.getElem?_cons_zero, Option.getD_some, and_true, true_and, List.append_toArray, List.nil_append, List.cons_append, List.toList_toArray, Array.toList_append, Option.toArray, List.append_nil] at hA); first | fail | (obtain ⟨hSc, hSf, hSs⟩ := hS.cells; go_simp; exact hK _ (by first | exact Ext.rfl' _ | exact Ext.new _ _ | assumption)))); (try simp only [List.nil_append, List.cons_append]))
                            (refine walkI_is (u := ?_) rfl (by simp) rfl ?_ ?_; rotate_left; (focus (intro A w' hS hA K hK; (simp only [List.map_cons, List.map_nil, knows, Is, Op.operands, Call.operands, List.lookup_cons, List.lookup_nil, Nat.reduceBEq, Bool.false_eq_true, if_false, if_true, Act.eval, Array.getD_eq_getD_getElem?, List.getElem?_toArray, List.getElem?_cons_succ, List.getElem?_cons_zero, Option.getD_some, and_true, true_and, List.append_toArray, List.nil_append, List.cons_append, List.toList_toArray, Array.toList_append, Option.toArray, List.append_nil] at hA); first | fail | (obtain ⟨hSc, hSf, hSs⟩ := hS.cells; go_simp; exact hK _ (by first | exact Ext.rfl' _ | exact Ext.new _ _ | assumption)))); (try simp only [List.nil_append, List.cons_append]))
                            (refine walkI_yesis (u := ?_) rfl (by simp) rfl rfl rfl ?_ ?_; rotate_left; (focus (intro A w' hS hA K hK; (simp only [List.map_cons, List.map_nil, knows, Is, Op.operands, Call.operands, List.lookup_cons, List.lookup_nil, Nat.reduceBEq, Bool.false_eq_true, if_false, if_true, Act.eval, Array.getD_eq_getD_getElem?, List.getElem?_toArray, List.getElem?_cons_succ, List.getElem?_cons_zero, Option.getD_some, and_true, true_and, List.append_toArray, List.nil_append, List.cons_append, List.toList_toArray, Array.toList_append, Option.toArray, List.append_nil] at hA); first | fail | (obtain ⟨hSc, hSf, hSs⟩ := hS.cells; go_simp; exact hK _ (by first | exact Ext.rfl' _ | exact Ext.new _ _ | assumption)))); (try simp only [List.nil_append, List.cons_append]))
                            (refine walkI_yesis (u := ?_) rfl (by simp) rfl rfl rfl ?_ ?_; rotate_left; (focus (intro A w' hS hA K hK; (simp only [List.map_cons, List.map_nil, knows, Is, Op.operands, Call.operands, List.lookup_cons, List.lookup_nil, Nat.reduceBEq, Bool.false_eq_true, if_false, if_true, Act.eval, Array.getD_eq_getD_getElem?, List.getElem?_toArray, List.getElem?_cons_succ, List.getElem?_cons_zero, Option.getD_some, and_true, true_and, List.append_toArray, List.nil_append, List.cons_append, List.toList_toArray, Array.toList_append, Option.toArray, List.append_nil] at hA); first | fail | (obtain ⟨hSc, hSf, hSs⟩ := hS.cells; go_simp; exact hK _ (by first | exact Ext.rfl' _ | exact Ext.new _ _ | assumption)))); (try simp only [List.nil_append, List.cons_append]))
                            (refine walkI_yesis (u := ?_) rfl (by simp) rfl rfl rfl ?_ ?_; rotate_left; (focus (intro A w' hS hA K hK; (simp only [List.map_cons, List.map_nil, knows, Is, Op.operands, Call.operands, List.lookup_cons, List.lookup_nil, Nat.reduceBEq, Bool.false_eq_true, if_false, if_true, Act.eval, Array.getD_eq_getD_getElem?, List.getElem?_toArray, List.getElem?_cons_succ, List.getElem?_cons_zero, Option.getD_some, and_true, true_and, List.append_toArray, List.nil_append, List.cons_append, List.toList_toArray, Array.toList_append, Option.toArray, List.append_nil] at hA); first | (go_simp; refine RetV_at (hzr.out w') ?_; intro w6 hx6; exact hK _ hx6) | (obtain ⟨hSc, hSf, hSs⟩ := hS.cells; go_simp; exact hK _ (by first | exact Ext.rfl' _ | exact Ext.new _ _ | assumption)))); (try simp only [List.nil_append, List.cons_append]))
                            (refine walkI_yesis (u := ?_) rfl (by simp) rfl rfl rfl ?_ ?_; rotate_left; (focus (intro A w' hS hA K hK; (simp only [List.map_cons, List.map_nil, knows, Is, Op.operands, Call.operands, List.lookup_cons, List.lookup_nil, Nat.reduceBEq, Bool.false_eq_true, if_false, if_true, Act.eval, Array.getD_eq_getD_getElem?, List.getElem?_toArray, List.getElem?_cons_succ, List.getElem?_cons_zero, Option.getD_some, and_true, true_and, List.append_toArray, List.nil_append, List.cons_append, List.toList_toArray, Array.toList_append, Option.toArray, List.append_nil] at hA); first | fail | (obtain ⟨hSc, hSf, hSs⟩ := hS.cells; go_simp; exact hK _ (by first | exact Ext.rfl' _ | exact Ext.new _ _ | assumption)))); (try simp only [List.nil_append, List.cons_append]))
                            (refine walkI_yesis (u := ?_) rfl (by simp) rfl rfl rfl ?_ ?_; rotate_left; (focus (intro A w' hS hA K hK; (simp only [List.map_cons, List.map_nil, knows, Is, Op.operands, Call.operands, List.lookup_cons, List.lookup_nil, Nat.reduceBEq, Bool.false_eq_true, if_false, if_true, Act.eval, Array.getD_eq_getD_getElem?, List.getElem?_toArray, List.getElem?_cons_succ, List.getElem?_cons_zero, Option.getD_some, and_true, true_and, List.append_toArray, List.nil_append, List.cons_append, List.toList_toArray, Array.toList_append, Option.toArray, List.append_nil] at hA); first | fail | (obtain ⟨hSc, hSf, hSs⟩ := hS.cells; go_simp; exact hK _ (by first | exact Ext.rfl' _ | exact Ext.new _ _ | assumption)))); (try simp only [List.nil_append, List.cons_append]))
                            (refine walkI_yesis (u := ?_) rfl (by simp) rfl rfl rfl ?_ ?_; rotate_left; (focus (intro A w' hS hA K hK; (simp only [List.map_cons, List.map_nil, knows, Is, Op.operands, Call.operands, List.lookup_cons, List.lookup_nil, Nat.reduceBEq, Bool.false_eq_true, if_false, if_true, Act.eval, Array.getD_eq_getD_getElem?, List.getElem?_toArray, List.getElem?_cons_succ, List.getElem?_cons_zero, Option.getD_some, and_true, true_and, List.append_toArray, List.nil_append, List.cons_append, List.toList_toArray, Array.toList_append, Option.toArray, List.append_nil] at hA); first | (go_simp; refine RetV_at (hzq.out w') ?_; intro w6 hx6; exact hK _ hx6) | (obtain ⟨hSc, hSf, hSs⟩ := hS.cells; go_simp; exact hK _ (by first | exact Ext.rfl' _ | exact Ext.new _ _ | assumption)))); (try simp only [List.nil_append, List.cons_append]))
                            (refine walkI_yesis (u := ?_) rfl (by simp) rfl rfl rfl ?_ ?_; rotate_left; (focus (intro A w' hS hA K hK; (simp only [List.map_cons, List.map_nil, knows, Is, Op.operands, Call.operands, List.lookup_cons, List.lookup_nil, Nat.reduceBEq, Bool.false_eq_true, if_false, if_true, Act.eval, Array.getD_eq_getD_getElem?, List.getElem?_toArray, List.getElem?_cons_succ, List.getElem?_cons_zero, Option.getD_some, and_true, true_and, List.append_toArray, List.nil_append, List.cons_append, List.toList_toArray, Array.toList_append, Option.toArray, List.append_nil] at hA); first | fail | (obtain ⟨hSc, hSf, hSs⟩ := hS.cells; go_simp; exact hK _ (by first | exact Ext.rfl' _ | exact Ext.new _ _ | assumption)))); (try simp only [List.nil_append, List.cons_append]))
                            (refine walkI_yesis (u := ?_) rfl (by simp) rfl rfl rfl ?_ ?_; rotate_left; (focus (intro A w' hS hA K hK; (simp only [List.map_cons, List.map_nil, knows, Is, Op.operands, Call.operands, List.lookup_cons, List.lookup_nil, Nat.reduceBEq, Bool.false_eq_true, if_false, if_true, Act.eval, Array.getD_eq_getD_getElem?, List.getElem?_toArray, List.getElem?_cons_succ, List.getElem?_cons_zero, Option.getD_some, and_true, true_and, List.append_toArray, List.nil_append, List.cons_append, List.toList_toArray, Array.toList_append, Option.toArray, List.append_nil] at hA); first | fail | (obtain ⟨hSc, hSf, hSs⟩ := hS.cells; go_simp; exact hK _ (by first | exact Ext.rfl' _ | exact Ext.new _ _ | assumption)))); (try simp only [List.nil_append, List.cons_append]))
                            (refine walkI_no rfl (by simp) rfl rfl rfl ?_ ?_; (focus (simp [undef]; done)); (try simp only [List.nil_append, List.cons_append]))
                            (refine walkI_no rfl (by simp) rfl rfl rfl ?_ ?_; (focus (simp [undef]; done)); (try simp only [List.nil_append, List.cons_append]))
                            (refine walkI_no rfl (by simp) rfl rfl rfl ?_ ?_; (focus (simp [undef]; done)); (try simp only [List.nil_append, List.cons_append]))
                            (refine walkI_no rfl (by simp) rfl rfl rfl ?_ ?_; (focus (simp [undef]; done)); (try simp only [List.nil_append, List.cons_append]))
                            (refine walkI_no rfl (by simp) rfl rfl rfl ?_ ?_; (focus (simp [undef]; done)); (try simp only [List.nil_append, List.cons_append]))
                            (refine walkI_yesis (u := ?_) rfl (by simp) rfl rfl rfl ?_ ?_; rotate_left; (focus (intro A w' hS hA K hK; (simp only [List.map_cons, List.map_nil, knows, Is, Op.operands, Call.operands, List.lookup_cons, List.lookup_nil, Nat.reduceBEq, Bool.false_eq_true, if_false, if_true, Act.eval, Array.getD_eq_getD_getElem?, List.getElem?_toArray, List.getElem?_cons_succ, List.getElem?_cons_zero, Option.getD_some, and_true, true_and, List.append_toArray, List.nil_append, List.cons_append, List.toList_toArray, Array.toList_append, Option.toArray, List.append_nil] at hA); first | fail | (obtain ⟨hSc, hSf, hSs⟩ := hS.cells; go_simp; exact hK _ (by first | exact Ext.rfl' _ | exact Ext.new _ _ | assumption)))); (try simp only [List.nil_append, List.cons_append]))
                            (refine walkI_is (u := ?_) rfl (by simp) rfl ?_ ?_; rotate_left; (focus (intro A w' hS hA K hK; (simp only [List.map_cons, List.map_nil, knows, Is, Op.operands, Call.operands, List.lookup_cons, List.lookup_nil, Nat.reduceBEq, Bool.false_eq_true, if_false, if_true, Act.eval, Array.getD_eq_getD_getElem?, List.getElem?_toArray, List.getElem?_cons_succ, List.getElem?_cons_zero, Option.getD_some, and_true, true_and, List.append_toArray, List.nil_append, List.cons_append, List.toList_toArray, Array.toList_append, Option.toArray, List.append_nil] at hA); first | fail | (obtain ⟨hSc, hSf, hSs⟩ := hS.cells; go_simp; exact hK _ (by first | exact Ext.rfl' _ | exact Ext.new _ _ | assumption)))); (try simp only [List.nil_append, List.cons_append]))
                            (refine walkI_nil ?_; simp only [List.nil_append, List.cons_append, fins, Is, forall_eq, Act.put, List.setIfInBounds_toArray, List.set_cons_zero, List.set_cons_succ])
                            intro w6 hx6
                            replace hM3 := hM3.ext hx6
                            clear f12 f7 z12 z7 l0 l1 m0 m1 hx6
                            have hO12 := hM3.box 3 rfl
                            have hO7 := hM3.box 1 rfl
                            obtain ⟨c12, f12⟩ := hO12.facts
                            obtain ⟨c7, f7⟩ := hO7.facts
                            have z12 := hO12.lt
                            have z7 := hO7.lt
                            have l0 : _ = some (Value.int .i64 r.num) := c12 0
                            have l1 : _ = some (Value.int .i64 r.den) := c12 1
                            have m0 : _ = some (Value.int .i64 (q).num) := c7 0
                            have m1 : _ = some (Value.int .i64 (q).den) := c7 1
                            clear c12 c7 hO12 hO7
                            have hM9 := hM3.pick [0, 1, 2] (by decide)
                            simp only [List.map_cons, List.map_nil, List.getElem?_cons_zero, List.getElem?_cons_succ, Option.getD_some] at hM9
                            clear hM3
                            go_wp2_with fail
                            go_roundw
                            case rel => exact ⟨k + 1, some q, by omega, by go_num, rfl, Lib.hid (by rw [hnw2.out]; exact hres.out.symm), hbd', hM9⟩
                            case measure => simp [intOf]; omega
                  · have hdb : (r.den != (d : Int)) = true := by simpa using hden
                    have hokf : Hid (ok = false) := Lib.hid (by rw [hok.out]; simp [hden])
                    subst hf
                    (refine wp_region_I 17 (by kernel_rfl) (by kernel_rfl) ?_; simp only [List.toList_toArray, List.take_succ_cons, List.take_zero, List.drop_succ_cons, List.drop_zero])
                    (refine walkI_is (u := ?_) rfl (by simp) rfl ?_ ?_; rotate_left; (focus (intro A w' hS hA K hK; (simp only [List.map_cons, List.map_nil, knows, Is, Op.operands, Call.operands, List.lookup_cons, List.lookup_nil, Nat.reduceBEq, Bool.false_eq_true, if_false, if_true, Act.eval, Array.getD_eq_getD_getElem?, List.getElem?_toArray, List.getElem?_cons_succ, List.getElem?_cons_zero, Option.getD_some, and_true, true_and, List.append_toArray, List.nil_append, List.cons_append, List.toList_toArray, Array.toList_append, Option.toArray, List.append_nil] at hA); first | fail | (obtain ⟨hSc, hSf, hSs⟩ := hS.cells; go_simp; exact hK _ (by first | exact Ext.rfl' _ | exact Ext.new _ _ | assumption)))); (try simp only [List.nil_append, List.cons_append]))
                    (refine walkI_is (u := ?_) rfl (by simp) rfl ?_ ?_; rotate_left; (focus (intro A w' hS hA K hK; (simp only [List.map_cons, List.map_nil, knows, Is, Op.operands, Call.operands, List.lookup_cons, List.lookup_nil, Nat.reduceBEq, Bool.false_eq_true, if_false, if_true, Act.eval, Array.getD_eq_getD_getElem?, List.getElem?_toArray, List.getElem?_cons_succ, List.getElem?_cons_zero, Option.getD_some, and_true, true_and, List.append_toArray, List.nil_append, List.cons_append, List.toList_toArray, Array.toList_append, Option.toArray, List.append_nil] at hA); first | fail | (obtain ⟨hSc, hSf, hSs⟩ := hS.cells; go_simp; exact hK _ (by first | exact Ext.rfl' _ | exact Ext.new _ _ | assumption)))); (try simp only [List.nil_append, List.cons_append]))
                    (refine walkI_is (u := ?_) rfl (by simp) rfl ?_ ?_; rotate_left; (focus (intro A w' hS hA K hK; (simp only [List.map_cons, List.map_nil, knows, Is, Op.operands, Call.operands, List.lookup_cons, List.lookup_nil, Nat.reduceBEq, Bool.false_eq_true, if_false, if_true, Act.eval, Array.getD_eq_getD_getElem?, List.getElem?_toArray, List.getElem?_cons_succ, List.getElem?_cons_zero, Option.getD_some, and_true, true_and, List.append_toArray, List.nil_append, List.cons_append, List.toList_toArray, Array.toList_append, Option.toArray, List.append_nil] at hA); first | fail | (obtain ⟨hSc, hSf, hSs⟩ := hS.cells; go_simp; exact hK _ (by first | exact Ext.rfl' _ | exact Ext.new _ _ | assumption)))); (try simp only [List.nil_append, List.cons_append]))
                    (refine walkI_yesis (u := ?_) rfl (by simp) rfl rfl rfl ?_ ?_; rotate_left; (focus (intro A w' hS hA K hK; (simp only [List.map_cons, List.map_nil, knows, Is, Op.operands, Call.operands, List.lookup_cons, List.lookup_nil, Nat.reduceBEq, Bool.false_eq_true, if_false, if_true, Act.eval, Array.getD_eq_getD_getElem?, List.getElem?_toArray, List.getElem?_cons_succ, List.getElem?_cons_zero, Option.getD_some, and_true, true_and, List.append_toArray, List.nil_append, List.cons_append, List.toList_toArray, Array.toList_append, Option.toArray, List.append_nil] at hA); first | fail | (obtain ⟨hSc, hSf, hSs⟩ := hS.cells; go_simp; exact hK _ (by first | exact Ext.rfl' _ | exact Ext.new _ _ | assumption)))); (try simp only [List.nil_append, List.cons_append]))
                    (refine walkI_yesis (u := ?_) rfl (by simp) rfl rfl rfl ?_ ?_; rotate_left; (focus (intro A w' hS hA K hK; (simp only [List.map_cons, List.map_nil, knows, Is, Op.operands, Call.operands, List.lookup_cons, List.lookup_nil, Nat.reduceBEq, Bool.false_eq_true, if_false, if_true, Act.eval, Array.getD_eq_getD_getElem?, List.getElem?_toArray, List.getElem?_cons_succ, List.getElem?_cons_zero, Option.getD_some, and_true, true_and, List.append_toArray, List.nil_append, List.cons_append, List.toList_toArray, Array.toList_append, Option.toArray, List.append_nil] at hA); first | fail | (obtain ⟨hSc, hSf, hSs⟩ := hS.cells; go_simp; exact hK _ (by first | exact Ext.rfl' _ | exact Ext.new _ _ | assumption)))); (try simp only [List.nil_append, List.cons_append]))
                    (refine walkI_yesis (u := ?_) rfl (by simp) rfl rfl rfl ?_ ?_; rotate_left; (focus (intro A w' hS hA K hK; (simp only [List.map_cons, List.map_nil, knows, Is, Op.operands, Call.operands, List.lookup_cons, List.lookup_nil, Nat.reduceBEq, Bool.false_eq_true, if_false, if_true, Act.eval, Array.getD_eq_getD_getElem?, List.getElem?_toArray, List.getElem?_cons_succ, List.getElem?_cons_zero, Option.getD_some, and_true, true_and, List.append_toArray, List.nil_append, List.cons_append, List.toList_toArray, Array.toList_append, Option.toArray, List.append_nil] at hA); first | fail | (obtain ⟨hSc, hSf, hSs⟩ := hS.cells; go_simp; exact hK _ (by first | exact Ext.rfl' _ | exact Ext.new _ _ | assumption)))); (try simp only [List.nil_append, List.cons_append]))
                    (refine walkI_yesis (u := ?_) rfl (by simp) rfl rfl rfl ?_ ?_; rotate_left; (focus (intro A w' hS hA K hK; (simp only [List.map_cons, List.map_nil, knows, Is, Op.operands, Call.operands, List.lookup_cons, List.lookup_nil, Nat.reduceBEq, Bool.false_eq_true, if_false, if_true, Act.eval, Array.getD_eq_getD_getElem?, List.getElem?_toArray, List.getElem?_cons_succ, List.getElem?_cons_zero, Option.getD_some, and_true, true_and, List.append_toArray, List.nil_append, List.cons_append, List.toList_toArray, Array.toList_append, Option.toArray, List.append_nil] at hA); first | fail | (obtain ⟨hSc, hSf, hSs⟩ := hS.cells; go_simp; exact hK _ (by first | exact Ext.rfl' _ | exact Ext.new _ _ | assumption)))); (try simp only [List.nil_append, List.cons_append]))
                    (refine walkI_is (u := ?_) rfl (by simp) rfl ?_ ?_; rotate_left; (focus (intro A w' hS hA K hK; (simp only [List.map_cons, List.map_nil, knows, Is, Op.operands, Call.operands, List.lookup_cons, List.lookup_nil, Nat.reduceBEq, Bool.false_eq_true, if_false, if_true, Act.eval, Array.getD_eq_getD_getElem?, List.getElem?_toArray, List.getElem?_cons_succ, List.getElem?_cons_zero, Option.getD_some, and_true, true_and, List.append_toArray, List.nil_append, List.cons_append, List.toList_toArray, Array.toList_append, Option.toArray, List.append_nil] at hA); first | fail | (obtain ⟨hSc, hSf, hSs⟩ := hS.cells; go_simp; exact hK _ (by first | exact Ext.rfl' _ | exact Ext.new _ _ | assumption)))); (try simp only [List.nil_append, List.cons_append]))
                    (refine walkI_is (u := ?_) rfl (by simp) rfl ?_ ?_; rotate_left; (focus (intro A w' hS hA K hK; (simp only [List.map_cons, List.map_nil, knows, Is, Op.operands, Call.operands, List.lookup_cons, List.lookup_nil, Nat.reduceBEq, Bool.false_eq_true, if_false, if_true, Act.eval, Array.getD_eq_getD_getElem?, List.getElem?_toArray, List.getElem?_cons_succ, List.getElem?_cons_zero, Option.getD_some, and_true, true_and, List.append_toArray, List.nil_append, List.cons_append, List.toList_toArray, Array.toList_append, Option.toArray, List.append_nil] at hA); first | fail | (obtain ⟨hSc, hSf, hSs⟩ := hS.cells; go_simp; exact hK _ (by first | exact Ext.rfl' _ | exact Ext.new _ _ | assumption)))); (try simp only [List.nil_append, List.cons_append]))
                    (refine walkI_no rfl (by simp) rfl rfl rfl ?_ ?_; (focus (simp [undef]; done)); (try simp only [List.nil_append, List.cons_append]))
                    (refine walkI_no rfl (by simp) rfl rfl rfl ?_ ?_; (focus (simp [undef]; done)); (try simp only [List.nil_append, List.cons_append]))
                    (refine walkI_no rfl (by simp) rfl rfl rfl ?_ ?_; (focus (simp [undef]; done)); (try simp only [List.nil_append, List.cons_append]))
                    (refine walkI_no rfl (by simp) rfl rfl rfl ?_ ?_; (focus (simp [undef]; done)); (try simp only [List.nil_append, List.cons_append]))
                    (refine walkI_no rfl (by simp) rfl rfl rfl ?_ ?_; (focus (simp [undef]; done)); (try simp only [List.nil_append, List.cons_append]))
                    (refine walkI_no rfl (by simp) rfl rfl rfl ?_ ?_; (focus (simp [undef]; done)); (try simp only [List.nil_append, List.cons_append]))
                    (refine walkI_no rfl (by simp) rfl rfl rfl ?_ ?_; (focus (simp [undef]; done)); (try simp only [List.nil_append, List.cons_append]))
                    (refine walkI_is (u := ?_) rfl (by simp) rfl ?_ ?_; rotate_left; (focus (intro A w' hS hA K hK; (simp only [List.map_cons, List.map_nil, knows, Is, Op.operands, Call.operands, List.lookup_cons, List.lookup_nil, Nat.reduceBEq, Bool.false_eq_true, if_false, if_true, Act.eval, Array.getD_eq_getD_getElem?, List.getElem?_toArray, List.getElem?_cons_succ, List.getElem?_cons_zero, Option.getD_some, and_true, true_and, List.append_toArray, List.nil_append, List.cons_append, List.toList_toArray, Array.toList_append, Option.toArray, List.append_nil] at hA); first | fail | (obtain ⟨hSc, hSf, hSs⟩ := hS.cells; go_simp; exact hK _ (by first | exact Ext.rfl' _ | exact Ext.new _ _ | assumption)))); (try simp only [List.nil_append, List.cons_append]))
                    (refine walkI_nil ?_; simp only [List.nil_append, List.cons_append, fins, Is, forall_eq, Act.put, List.setIfInBounds_toArray, List.set_cons_zero, List.set_cons_succ])
                    intro w6 hx6
                    have hM8 := (hM3.ext hx6).pick [0, 1, 2] (by decide)
                    simp only [List.map_cons, List.map_nil, List.getElem?_cons_zero, List.getElem?_cons_succ, Option.getD_some] at hM8
                    clear hM3
                    go_wp2_with fail
                    go_roundw
                    case rel => exact ⟨k + 1, b', by omega, by go_num, rfl, Lib.hid (by rw [hnew.out, hokf.out]; rfl), hbd', hM8⟩
                    case measure => simp [intOf]; omega
                · have hfb : (f != 0) = true := by simpa using hf
                  have hokf : Hid (ok = false) := Lib.hid (by rw [hok.out]; simp [hf])
                  (refine wp_region_I 17 (by kernel_rfl) (by kernel_rfl) ?_; simp only [List.toList_toArray, List.take_succ_cons, List.take_zero, List.drop_succ_cons, List.drop_zero])
                  (refine walkI_is (u := ?_) rfl (by simp) rfl ?_ ?_; rotate_left; (focus (intro A w' hS hA K hK; (simp only [List.map_cons, List.map_nil, knows, Is, Op.operands, Call.operands, List.lookup_cons, List.lookup_nil, Nat.reduceBEq, Bool.false_eq_true, if_false, if_true, Act.eval, Array.getD_eq_getD_getElem?, List.getElem?_toArray, List.getElem?_cons_succ, List.getElem?_cons_zero, Option.getD_some, and_true, true_and, List.append_toArray, List.nil_append, List.cons_append, List.toList_toArray, Array.toList_append, Option.toArray, List.append_nil] at hA); first | fail | (obtain ⟨hSc, hSf, hSs⟩ := hS.cells; go_simp; exact hK _ (by first | exact Ext.rfl' _ | exact Ext.new _ _ | assumption)))); (try simp only [List.nil_append, List.cons_append]))
                  (refine walkI_is (u := ?_) rfl (by simp) rfl ?_ ?_; rotate_left; (focus (intro A w' hS hA K hK; (simp only [List.map_cons, List.map_nil, knows, Is, Op.operands, Call.operands, List.lookup_cons, List.lookup_nil, Nat.reduceBEq, Bool.false_eq_true, if_false, if_true, Act.eval, Array.getD_eq_getD_getElem?, List.getElem?_toArray, List.getElem?_cons_succ, List.getElem?_cons_zero, Option.getD_some, and_true, true_and, List.append_toArray, List.nil_append, List.cons_append, List.toList_toArray, Array.toList_append, Option.toArray, List.append_nil] at hA); first | fail | (obtain ⟨hSc, hSf, hSs⟩ := hS.cells; go_simp; exact hK _ (by first | exact Ext.rfl' _ | exact Ext.new _ _ | assumption)))); (try simp only [List.nil_append, List.cons_append]))
                  (refine walkI_is (u := ?_) rfl (by simp) rfl ?_ ?_; rotate_left; (focus (intro A w' hS hA K hK; (simp only [List.map_cons, List.map_nil, knows, Is, Op.operands, Call.operands, List.lookup_cons, List.lookup_nil, Nat.reduceBEq, Bool.false_eq_true, if_false, if_true, Act.eval, Array.getD_eq_getD_getElem?, List.getElem?_toArray, List.getElem?_cons_succ, List.getElem?_cons_zero, Option.getD_some, and_true, true_and, List.append_toArray, List.nil_append, List.cons_append, List.toList_toArray, Array.toList_append, Option.toArray, List.append_nil] at hA); first | fail | (obtain ⟨hSc, hSf, hSs⟩ := hS.cells; go_simp; exact hK _ (by first | exact Ext.rfl' _ | exact Ext.new _ _ | assumption)))); (try simp only [List.nil_append, List.cons_append]))
                  (refine walkI_no rfl (by simp) rfl rfl rfl ?_ ?_; (focus (simp [undef]; done)); (try simp only [List.nil_append, List.cons_append]))
                  (refine walkI_no rfl (by simp) rfl rfl rfl ?_ ?_; (focus (simp [undef]; done)); (try simp only [List.nil_append, List.cons_append]))
                  (refine walkI_no rfl (by simp) rfl rfl rfl ?_ ?_; (focus (simp [undef]; done)); (try simp only [List.nil_append, List.cons_append]))
                  (refine walkI_no rfl (by simp) rfl rfl rfl ?_ ?_; (focus (simp [undef]; done)); (try simp only [List.nil_append, List.cons_append]))
                  (refine walkI_is (u := ?_) rfl (by simp) rfl ?_ ?_; rotate_left; (focus (intro A w' hS hA K hK; (simp only [List.map_cons, List.map_nil, knows, Is, Op.operands, Call.operands, List.lookup_cons, List.lookup_nil, Nat.reduceBEq, Bool.false_eq_true, if_false, if_true, Act.eval, Array.getD_eq_getD_getElem?, List.getElem?_toArray, List.getElem?_cons_succ, List.getElem?_cons_zero, Option.getD_some, and_true, true_and, List.append_toArray, List.nil_append, List.cons_append, List.toList_toArray, Array.toList_append, Option.toArray, List.append_nil] at hA); first | fail | (obtain ⟨hSc, hSf, hSs⟩ := hS.cells; go_simp; exact hK _ (by first | exact Ext.rfl' _ | exact Ext.new _ _ | assumption)))); (try simp only [List.nil_append, List.cons_append]))
                  (refine walkI_is (u := ?_) rfl (by simp) rfl ?_ ?_; rotate_left; (focus (intro A w' hS hA K hK; (simp only [List.map_cons, List.map_nil, knows, Is, Op.operands, Call.operands, List.lookup_cons, List.lookup_nil, Nat.reduceBEq, Bool.false_eq_true, if_false, if_true, Act.eval, Array.getD_eq_getD_getElem?, List.getElem?_toArray, List.getElem?_cons_succ, List.getElem?_cons_zero, Option.getD_some, and_true, true_and, List.append_toArray, List.nil_append, List.cons_append, List.toList_toArray, Array.toList_append, Option.toArray, List.append_nil] at hA); first | fail | (obtain ⟨hSc, hSf, hSs⟩ := hS.cells; go_simp; exact hK _ (by first | exact Ext.rfl' _ | exact Ext.new _ _ | assumption)))); (try simp only [List.nil_append, List.cons_append]))
                  (refine walkI_no rfl (by simp) rfl rfl rfl ?_ ?_; (focus (simp [undef]; done)); (try simp only [List.nil_append, List.cons_append]))
                  (refine walkI_no rfl (by simp) rfl rfl rfl ?_ ?_; (focus (simp [undef]; done)); (try simp only [List.nil_append, List.cons_append]))
                  (refine walkI_no rfl (by simp) rfl rfl rfl ?_ ?_; (focus (simp [undef]; done)); (try simp only [List.nil_append, List.cons_append]))
                  (refine walkI_no rfl (by simp) rfl rfl rfl ?_ ?_; (focus (simp [undef]; done)); (try simp only [List.nil_append, List.cons_append]))
                  (refine walkI_no rfl (by simp) rfl rfl rfl ?_ ?_; (focus (simp [undef]; done)); (try simp only [List.nil_append, List.cons_append]))
                  (refine walkI_no rfl (by simp) rfl rfl rfl ?_ ?_; (focus (simp [undef]; done)); (try simp only [List.nil_append, List.cons_append]))
                  (refine walkI_no rfl (by simp) rfl rfl rfl ?_ ?_; (focus (simp [undef]; done)); (try simp only [List.nil_append, List.cons_append]))
                  (refine walkI_is (u := ?_) rfl (by simp) rfl ?_ ?_; rotate_left; (focus (intro A w' hS hA K hK; (simp only [List.map_cons, List.map_nil, knows, Is, Op.operands, Call.operands, List.lookup_cons, List.lookup_nil, Nat.reduceBEq, Bool.false_eq_true, if_false, if_true, Act.eval, Array.getD_eq_getD_getElem?, List.getElem?_toArray, List.getElem?_cons_succ, List.getElem?_cons_zero, Option.getD_some, and_true, true_and, List.append_toArray, List.nil_append, List.cons_append, List.toList_toArray, Array.toList_append, Option.toArray, List.append_nil] at hA); first | fail | (obtain ⟨hSc, hSf, hSs⟩ := hS.cells; go_simp; exact hK _ (by first | exact Ext.rfl' _ | exact Ext.new _ _ | assumption)))); (try simp only [List.nil_append, List.cons_append]))
                  (refine walkI_nil ?_; simp only [List.nil_append, List.cons_append, fins, Is, forall_eq, Act.put, List.setIfInBounds_toArray, List.set_cons_zero, List.set_cons_succ])
                  intro w6 hx6
                  have hM8 := (hM3.ext hx6).pick [0, 1, 2] (by decide)
                  simp only [List.map_cons, List.map_nil, List.getElem?_cons_zero, List.getElem?_cons_succ, Option.getD_some] at hM8
                  clear hM3
                  go_wp2_with fail
                  go_roundw
                  case rel => exact ⟨k + 1, b', by omega, by go_num, rfl, Lib.hid (by rw [hnew.out, hokf.out]; rfl), hbd', hM8⟩
                  case measure => simp [intOf]; omega
end Go.Proofs.Ytmbkefgmiehdiaa
