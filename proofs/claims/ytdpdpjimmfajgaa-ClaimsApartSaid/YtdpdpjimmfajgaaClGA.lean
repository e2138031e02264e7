/- the order of formulas of the reference, for greater formulas.; the documented example of claims: class, of, lives.; the reference of package claims: alts, Alts. -/
import Derived.Test.YtdpdpjimmfajgaaFmP
import Derived.Test.YtdpdpjimmfajgaaCalmK
import Derived.Test.YtdpdpjimmfajgaaClBA
import Derived.Test.YtdpdpjimmfajgaaClV
namespace Go.Proofs.Ytdpdpjimmfajgaa
open Go.RowKit Go.Shelf
set_option linter.unusedSimpArgs false
set_option linter.unusedVariables false
set_option maxRecDepth 100000 in
set_option maxHeartbeats 2000000 in
theorem orderB_c (f : Fm) (cs : List Value) (w : World) (hr : FmR (ph w) cs f) (hlen : f.inn.length ≤ 400000) : Calls Try.prog 50 #[.agg cs.toArray] w fun e w' => ∃ v, e = .returned v ∧ Ext w w' ∧ OwnS w.heap.size noH w' IntR 1 3 v (ordF f) := by
  obtain ⟨a3, c3, a4, c4, rfl, i1, i2, hil, hkl, hi, hk⟩ := hr.form
  unfold fmC
  clear hr hk
  have hof := Lib.hid (show ordF f = ([f.op, f.n, (f.inn.length : Int)] ++ f.inn.flatMap ordI) ++ [(f.kids.length : Int)] from rfl)
  have i3 : I64 (f.inn.length : Int) := by unfold I64; omega
  have i4 : I64 (f.kids.length : Int) := by unfold I64; omega
  go_enter Try.func50, Try.ntmps50
  go_wp2_with fail
  have hM := (((Mem.start w noH (noH_le _)).new #[.int .i64 f.op, .int .i64 f.n, .slice a3 f.inn.length c3, .slice a4 f.kids.length c4] 30).new' #[.int .i64 f.op, .int .i64 f.n, .int .i64 f.inn.length] 3 (n := w.heap.size + 1) (by simp)).asOwn 1 rfl mono_IntR (sz := 1) (xs := [f.op, f.n, (f.inn.length : Int)]) (n := 3) (by simp) (by simp [maxLen]) rfl
    (cells_ints (l := [f.op, f.n, (f.inn.length : Int)]) (by simp; exact ⟨i1, i2, i3⟩))
  simp only [List.nil_append, List.cons_append, List.set_cons_succ, List.set_cons_zero, List.length_cons, List.length_nil, Nat.zero_add, Nat.reduceAdd] at hM
  go_loopw [3, 4] (fun v i wr => ∃ k : Nat, k ≤ f.inn.length ∧ i = .int .i64 k ∧ Mem w noH [box w.heap.size #[.int .i64 f.op, .int .i64 f.n, .slice a3 f.inn.length c3, .slice a4 f.kids.length c4] 30, own mono_IntR 1 3 v ([f.op, f.n, (f.inn.length : Int)] ++ (f.inn.take k).flatMap ordI)] noH wr) (fun _ i _ => f.inn.length - (intOf i).toNat)
  case atStart => exact ⟨0, Nat.zero_le _, rfl, hM⟩
  case round =>
    obtain ⟨k, hk, rfl, hM⟩ := hrel
    obtain ⟨kc, kf⟩ := (hM.box 0 rfl).facts
    have k2 : _ = some (Value.slice a3 f.inn.length c3) := kc 2
    have k3 : _ = some (Value.slice a4 f.kids.length c4) := kc 3
    have hbl0 := (hM.box 0 rfl).lt
    by_cases hlt : k < f.inn.length
    · obtain ⟨b, o, rfl, h0, h1, h2, h3, h4, h5, h6, h7, hbl, hI⟩ := ItvsR.at (hi.mono mono_ItvR hM.ex.ple) k hlt
      have hstep : Hid (([f.op, f.n, (f.inn.length : Int)] ++ (f.inn.take k).flatMap ordI) ++ ordI f.inn[k] = [f.op, f.n, (f.inn.length : Int)] ++ (f.inn.take (k + 1)).flatMap ordI) := by
        show _ = _; rw [List.take_succ_eq_append_getElem hlt, List.flatMap_append, List.append_assoc]; simp
      have hll : ([f.op, f.n, (f.inn.length : Int)] ++ (f.inn.take k).flatMap ordI).length ≤ 4000000 := by rw [List.length_append, ordIs_len, List.length_take]; simp; omega
      have hoI := ordI_I64 hI
      generalize [f.op, f.n, (f.inn.length : Int)] ++ (f.inn.take k).flatMap ordI = pre at *
      generalize f.inn[k] = x at *
      obtain ⟨ga, gn, rfl, -⟩ := hM.form 1 rfl
      clear hi kc
      obtain ⟨⟨p, q⟩, ⟨r, s⟩, lO, rO, lI, rI⟩ := x
      dsimp only at *
      go_wp2_with fail
      have hM2 := hM.new #[.int .i64 p, .int .i64 q, .int .i64 r, .int .i64 s, .bool lO, .bool rO, .bool lI, .bool rI] 74
      simp only [List.nil_append, List.cons_append] at hM2
      have hBl := (hM2.box 2 rfl).lt
      obtain ⟨bc, bf⟩ := (hM2.box 2 rfl).facts
      clear hM h0 h1 h2 h3 h4 h5 h6 h7 kf k2 k3
      generalize wr.alloc _ = W at *
      have m0 : _ = some (Value.int .i64 p) := bc 0
      have m1 : _ = some (Value.int .i64 q) := bc 1
      have m2 : _ = some (Value.int .i64 r) := bc 2
      have m3 : _ = some (Value.int .i64 s) := bc 3
      have m4 : _ = some (Value.bool lO) := bc 4
      have m5 : _ = some (Value.bool rO) := bc 5
      have m6 : _ = some (Value.bool lI) := bc 6
      have m7 : _ = some (Value.bool rI) := bc 7
      clear bc
      (refine wp_region_I 26 (by kernel_rfl) (by kernel_rfl) ?_; simp only [List.toList_toArray, List.take_succ_cons, List.take_zero, List.drop_succ_cons, List.drop_zero])
      (refine walkI_is (u := ?_) rfl (by simp) rfl ?_ ?_; rotate_left; (focus (intro A w' hS hA K hK; (simp only [List.map_cons, List.map_nil, knows, Is, Op.operands, Call.operands, List.lookup_cons, List.lookup_nil, Nat.reduceBEq, Bool.false_eq_true, if_false, if_true, Act.eval, Array.getD_eq_getD_getElem?, List.getElem?_toArray, List.getElem?_cons_succ, List.getElem?_cons_zero, Option.getD_some, and_true, true_and, List.append_toArray, List.nil_append, List.cons_append, List.toList_toArray, Array.toList_append, Option.toArray, List.append_nil] at hA); first | fail | (obtain ⟨hSc, hSf, hSs⟩ := hS.cells; go_simp; exact hK _ (by first | exact Ext.rfl' _ | exact Ext.new _ _ | assumption)))); (try simp only [List.nil_append, List.cons_append]))
      (refine walkI_is (u := ?_) rfl (by simp) rfl ?_ ?_; rotate_left; (focus (intro A w' hS hA K hK; (simp only [List.map_cons, List.map_nil, knows, Is, Op.operands, Call.operands, List.lookup_cons, List.lookup_nil, Nat.reduceBEq, Bool.false_eq_true, if_false, if_true, Act.eval, Array.getD_eq_getD_getElem?, List.getElem?_toArray, List.getElem?_cons_succ, List.getElem?_cons_zero, Option.getD_some, and_true, true_and, List.append_toArray, List.nil_append, List.cons_append, List.toList_toArray, Array.toList_append, Option.toArray, List.append_nil] at hA); first | fail | (obtain ⟨hSc, hSf, hSs⟩ := hS.cells; go_simp; exact hK _ (by first | exact Ext.rfl' _ | exact Ext.new _ _ | assumption)))); (try simp only [List.nil_append, List.cons_append]))
      (refine walkI_is (u := ?_) rfl (by simp) rfl ?_ ?_; rotate_left; (focus (intro A w' hS hA K hK; (simp only [List.map_cons, List.map_nil, knows, Is, Op.operands, Call.operands, List.lookup_cons, List.lookup_nil, Nat.reduceBEq, Bool.false_eq_true, if_false, if_true, Act.eval, Array.getD_eq_getD_getElem?, List.getElem?_toArray, List.getElem?_cons_succ, List.getElem?_cons_zero, Option.getD_some, and_true, true_and, List.append_toArray, List.nil_append, List.cons_append, List.toList_toArray, Array.toList_append, Option.toArray, List.append_nil] at hA); first | fail | (obtain ⟨hSc, hSf, hSs⟩ := hS.cells; go_simp; exact hK _ (by first | exact Ext.rfl' _ | exact Ext.new _ _ | assumption)))); (try simp only [List.nil_append, List.cons_append]))
      (refine walkI_is (u := ?_) rfl (by simp) rfl ?_ ?_; rotate_left; (focus (intro A w' hS hA K hK; (simp only [List.map_cons, List.map_nil, knows, Is, Op.operands, Call.operands, List.lookup_cons, List.lookup_nil, Nat.reduceBEq, Bool.false_eq_true, if_false, if_true, Act.eval, Array.getD_eq_getD_getElem?, List.getElem?_toArray, List.getElem?_cons_succ, List.getElem?_cons_zero, Option.getD_some, and_true, true_and, List.append_toArray, List.nil_append, List.cons_append, List.toList_toArray, Array.toList_append, Option.toArray, List.append_nil] at hA); first | (go_simp; refine RetP_at (one7_c _ _) ?_; exact hK _ (by repeat (first | (with_reducible assumption) | (with_reducible exact Ext.rfl' _) | (with_reducible exact Ext.new _ _) | (with_reducible refine Ext.alloc' ?_ _) | (with_reducible refine Ext.drew' ?_) | (with_reducible refine Ext.drewN' ?_ _) | (with_reducible refine Ext.set' ?_ ?_ _; rotate_left; (focus (first | omega | (simp; done) | (simp; omega)))) | (with_reducible refine Ext.then (b := ?_) ?_ ?_; rotate_left; rotate_left; (with_reducible assumption))))) | (obtain ⟨hSc, hSf, hSs⟩ := hS.cells; go_simp; exact hK _ (by first | exact Ext.rfl' _ | exact Ext.new _ _ | assumption)))); (try simp only [List.nil_append, List.cons_append]))
      (refine walkI_is (u := ?_) rfl (by simp) rfl ?_ ?_; rotate_left; (focus (intro A w' hS hA K hK; (simp only [List.map_cons, List.map_nil, knows, Is, Op.operands, Call.operands, List.lookup_cons, List.lookup_nil, Nat.reduceBEq, Bool.false_eq_true, if_false, if_true, Act.eval, Array.getD_eq_getD_getElem?, List.getElem?_toArray, List.getElem?_cons_succ, List.getElem?_cons_zero, Option.getD_some, and_true, true_and, List.append_toArray, List.nil_append, List.cons_append, List.toList_toArray, Array.toList_append, Option.toArray, List.append_nil] at hA); first | fail | (obtain ⟨hSc, hSf, hSs⟩ := hS.cells; go_simp; exact hK _ (by first | exact Ext.rfl' _ | exact Ext.new _ _ | assumption)))); (try simp only [List.nil_append, List.cons_append]))
      (refine walkI_is (u := ?_) rfl (by simp) rfl ?_ ?_; rotate_left; (focus (intro A w' hS hA K hK; (simp only [List.map_cons, List.map_nil, knows, Is, Op.operands, Call.operands, List.lookup_cons, List.lookup_nil, Nat.reduceBEq, Bool.false_eq_true, if_false, if_true, Act.eval, Array.getD_eq_getD_getElem?, List.getElem?_toArray, List.getElem?_cons_succ, List.getElem?_cons_zero, Option.getD_some, and_true, true_and, List.append_toArray, List.nil_append, List.cons_append, List.toList_toArray, Array.toList_append, Option.toArray, List.append_nil] at hA); first | fail | (obtain ⟨hSc, hSf, hSs⟩ := hS.cells; go_simp; exact hK _ (by first | exact Ext.rfl' _ | exact Ext.new _ _ | assumption)))); (try simp only [List.nil_append, List.cons_append]))
      (refine walkI_is (u := ?_) rfl (by simp) rfl ?_ ?_; rotate_left; (focus (intro A w' hS hA K hK; (simp only [List.map_cons, List.map_nil, knows, Is, Op.operands, Call.operands, List.lookup_cons, List.lookup_nil, Nat.reduceBEq, Bool.false_eq_true, if_false, if_true, Act.eval, Array.getD_eq_getD_getElem?, List.getElem?_toArray, List.getElem?_cons_succ, List.getElem?_cons_zero, Option.getD_some, and_true, true_and, List.append_toArray, List.nil_append, List.cons_append, List.toList_toArray, Array.toList_append, Option.toArray, List.append_nil] at hA); first | (go_simp; refine RetP_at (one7_c _ _) ?_; exact hK _ (by repeat (first | (with_reducible assumption) | (with_reducible exact Ext.rfl' _) | (with_reducible exact Ext.new _ _) | (with_reducible refine Ext.alloc' ?_ _) | (with_reducible refine Ext.drew' ?_) | (with_reducible refine Ext.drewN' ?_ _) | (with_reducible refine Ext.set' ?_ ?_ _; rotate_left; (focus (first | omega | (simp; done) | (simp; omega)))) | (with_reducible refine Ext.then (b := ?_) ?_ ?_; rotate_left; rotate_left; (with_reducible assumption))))) | (obtain ⟨hSc, hSf, hSs⟩ := hS.cells; go_simp; exact hK _ (by first | exact Ext.rfl' _ | exact Ext.new _ _ | assumption)))); (try simp only [List.nil_append, List.cons_append]))
      (refine walkI_is (u := ?_) rfl (by simp) rfl ?_ ?_; rotate_left; (focus (intro A w' hS hA K hK; (simp only [List.map_cons, List.map_nil, knows, Is, Op.operands, Call.operands, List.lookup_cons, List.lookup_nil, Nat.reduceBEq, Bool.false_eq_true, if_false, if_true, Act.eval, Array.getD_eq_getD_getElem?, List.getElem?_toArray, List.getElem?_cons_succ, List.getElem?_cons_zero, Option.getD_some, and_true, true_and, List.append_toArray, List.nil_append, List.cons_append, List.toList_toArray, Array.toList_append, Option.toArray, List.append_nil] at hA); first | fail | (obtain ⟨hSc, hSf, hSs⟩ := hS.cells; go_simp; exact hK _ (by first | exact Ext.rfl' _ | exact Ext.new _ _ | assumption)))); (try simp only [List.nil_append, List.cons_append]))
      (refine walkI_is (u := ?_) rfl (by simp) rfl ?_ ?_; rotate_left; (focus (intro A w' hS hA K hK; (simp only [List.map_cons, List.map_nil, knows, Is, Op.operands, Call.operands, List.lookup_cons, List.lookup_nil, Nat.reduceBEq, Bool.false_eq_true, if_false, if_true, Act.eval, Array.getD_eq_getD_getElem?, List.getElem?_toArray, List.getElem?_cons_succ, List.getElem?_cons_zero, Option.getD_some, and_true, true_and, List.append_toArray, List.nil_append, List.cons_append, List.toList_toArray, Array.toList_append, Option.toArray, List.append_nil] at hA); first | fail | (obtain ⟨hSc, hSf, hSs⟩ := hS.cells; go_simp; exact hK _ (by first | exact Ext.rfl' _ | exact Ext.new _ _ | assumption)))); (try simp only [List.nil_append, List.cons_append]))
      (refine walkI_is (u := ?_) rfl (by simp) rfl ?_ ?_; rotate_left; (focus (intro A w' hS hA K hK; (simp only [List.map_cons, List.map_nil, knows, Is, Op.operands, Call.operands, List.lookup_cons, List.lookup_nil, Nat.reduceBEq, Bool.false_eq_true, if_false, if_true, Act.eval, Array.getD_eq_getD_getElem?, List.getElem?_toArray, List.getElem?_cons_succ, List.getElem?_cons_zero, Option.getD_some, and_true, true_and, List.append_toArray, List.nil_append, List.cons_append, List.toList_toArray, Array.toList_append, Option.toArray, List.append_nil] at hA); first | fail | (obtain ⟨hSc, hSf, hSs⟩ := hS.cells; go_simp; exact hK _ (by first | exact Ext.rfl' _ | exact Ext.new _ _ | assumption)))); (try simp only [List.nil_append, List.cons_append]))
      (refine walkI_is (u := ?_) rfl (by simp) rfl ?_ ?_; rotate_left; (focus (intro A w' hS hA K hK; (simp only [List.map_cons, List.map_nil, knows, Is, Op.operands, Call.operands, List.lookup_cons, List.lookup_nil, Nat.reduceBEq, Bool.false_eq_true, if_false, if_true, Act.eval, Array.getD_eq_getD_getElem?, List.getElem?_toArray, List.getElem?_cons_succ, List.getElem?_cons_zero, Option.getD_some, and_true, true_and, List.append_toArray, List.nil_append, List.cons_append, List.toList_toArray, Array.toList_append, Option.toArray, List.append_nil] at hA); first | fail | (obtain ⟨hSc, hSf, hSs⟩ := hS.cells; go_simp; exact hK _ (by first | exact Ext.rfl' _ | exact Ext.new _ _ | assumption)))); (try simp only [List.nil_append, List.cons_append]))
      (refine walkI_is (u := ?_) rfl (by simp) rfl ?_ ?_; rotate_left; (focus (intro A w' hS hA K hK; (simp only [List.map_cons, List.map_nil, knows, Is, Op.operands, Call.operands, List.lookup_cons, List.lookup_nil, Nat.reduceBEq, Bool.false_eq_true, if_false, if_true, Act.eval, Array.getD_eq_getD_getElem?, List.getElem?_toArray, List.getElem?_cons_succ, List.getElem?_cons_zero, Option.getD_some, and_true, true_and, List.append_toArray, List.nil_append, List.cons_append, List.toList_toArray, Array.toList_append, Option.toArray, List.append_nil] at hA); first | fail | (obtain ⟨hSc, hSf, hSs⟩ := hS.cells; go_simp; exact hK _ (by first | exact Ext.rfl' _ | exact Ext.new _ _ | assumption)))); (try simp only [List.nil_append, List.cons_append]))
      (refine walkI_is (u := ?_) rfl (by simp) rfl ?_ ?_; rotate_left; (focus (intro A w' hS hA K hK; (simp only [List.map_cons, List.map_nil, knows, Is, Op.operands, Call.operands, List.lookup_cons, List.lookup_nil, Nat.reduceBEq, Bool.false_eq_true, if_false, if_true, Act.eval, Array.getD_eq_getD_getElem?, List.getElem?_toArray, List.getElem?_cons_succ, List.getElem?_cons_zero, Option.getD_some, and_true, true_and, List.append_toArray, List.nil_append, List.cons_append, List.toList_toArray, Array.toList_append, Option.toArray, List.append_nil] at hA); first | fail | (obtain ⟨hSc, hSf, hSs⟩ := hS.cells; go_simp; exact hK _ (by first | exact Ext.rfl' _ | exact Ext.new _ _ | assumption)))); (try simp only [List.nil_append, List.cons_append]))
      (refine walkI_is (u := ?_) rfl (by simp) rfl ?_ ?_; rotate_left; (focus (intro A w' hS hA K hK; (simp only [List.map_cons, List.map_nil, knows, Is, Op.operands, Call.operands, List.lookup_cons, List.lookup_nil, Nat.reduceBEq, Bool.false_eq_true, if_false, if_true, Act.eval, Array.getD_eq_getD_getElem?, List.getElem?_toArray, List.getElem?_cons_succ, List.getElem?_cons_zero, Option.getD_some, and_true, true_and, List.append_toArray, List.nil_append, List.cons_append, List.toList_toArray, Array.toList_append, Option.toArray, List.append_nil] at hA); first | fail | (obtain ⟨hSc, hSf, hSs⟩ := hS.cells; go_simp; exact hK _ (by first | exact Ext.rfl' _ | exact Ext.new _ _ | assumption)))); (try simp only [List.nil_append, List.cons_append]))
      (refine walkI_is (u := ?_) rfl (by simp) rfl ?_ ?_; rotate_left; (focus (intro A w' hS hA K hK; (simp only [List.map_cons, List.map_nil, knows, Is, Op.operands, Call.operands, List.lookup_cons, List.lookup_nil, Nat.reduceBEq, Bool.false_eq_true, if_false, if_true, Act.eval, Array.getD_eq_getD_getElem?, List.getElem?_toArray, List.getElem?_cons_succ, List.getElem?_cons_zero, Option.getD_some, and_true, true_and, List.append_toArray, List.nil_append, List.cons_append, List.toList_toArray, Array.toList_append, Option.toArray, List.append_nil] at hA); first | fail | (obtain ⟨hSc, hSf, hSs⟩ := hS.cells; go_simp; exact hK _ (by first | exact Ext.rfl' _ | exact Ext.new _ _ | assumption)))); (try simp only [List.nil_append, List.cons_append]))
      (refine walkI_is (u := ?_) rfl (by simp) rfl ?_ ?_; rotate_left; (focus (intro A w' hS hA K hK; (simp only [List.map_cons, List.map_nil, knows, Is, Op.operands, Call.operands, List.lookup_cons, List.lookup_nil, Nat.reduceBEq, Bool.false_eq_true, if_false, if_true, Act.eval, Array.getD_eq_getD_getElem?, List.getElem?_toArray, List.getElem?_cons_succ, List.getElem?_cons_zero, Option.getD_some, and_true, true_and, List.append_toArray, List.nil_append, List.cons_append, List.toList_toArray, Array.toList_append, Option.toArray, List.append_nil] at hA); first | (go_simp; refine RetP_at (one7_c _ _) ?_; exact hK _ (by repeat (first | (with_reducible assumption) | (with_reducible exact Ext.rfl' _) | (with_reducible exact Ext.new _ _) | (with_reducible refine Ext.alloc' ?_ _) | (with_reducible refine Ext.drew' ?_) | (with_reducible refine Ext.drewN' ?_ _) | (with_reducible refine Ext.set' ?_ ?_ _; rotate_left; (focus (first | omega | (simp; done) | (simp; omega)))) | (with_reducible refine Ext.then (b := ?_) ?_ ?_; rotate_left; rotate_left; (with_reducible assumption))))) | (obtain ⟨hSc, hSf, hSs⟩ := hS.cells; go_simp; exact hK _ (by first | exact Ext.rfl' _ | exact Ext.new _ _ | assumption)))); (try simp only [List.nil_append, List.cons_append]))
      (refine walkI_is (u := ?_) rfl (by simp) rfl ?_ ?_; rotate_left; (focus (intro A w' hS hA K hK; (simp only [List.map_cons, List.map_nil, knows, Is, Op.operands, Call.operands, List.lookup_cons, List.lookup_nil, Nat.reduceBEq, Bool.false_eq_true, if_false, if_true, Act.eval, Array.getD_eq_getD_getElem?, List.getElem?_toArray, List.getElem?_cons_succ, List.getElem?_cons_zero, Option.getD_some, and_true, true_and, List.append_toArray, List.nil_append, List.cons_append, List.toList_toArray, Array.toList_append, Option.toArray, List.append_nil] at hA); first | fail | (obtain ⟨hSc, hSf, hSs⟩ := hS.cells; go_simp; exact hK _ (by first | exact Ext.rfl' _ | exact Ext.new _ _ | assumption)))); (try simp only [List.nil_append, List.cons_append]))
      (refine walkI_is (u := ?_) rfl (by simp) rfl ?_ ?_; rotate_left; (focus (intro A w' hS hA K hK; (simp only [List.map_cons, List.map_nil, knows, Is, Op.operands, Call.operands, List.lookup_cons, List.lookup_nil, Nat.reduceBEq, Bool.false_eq_true, if_false, if_true, Act.eval, Array.getD_eq_getD_getElem?, List.getElem?_toArray, List.getElem?_cons_succ, List.getElem?_cons_zero, Option.getD_some, and_true, true_and, List.append_toArray, List.nil_append, List.cons_append, List.toList_toArray, Array.toList_append, Option.toArray, List.append_nil] at hA); first | fail | (obtain ⟨hSc, hSf, hSs⟩ := hS.cells; go_simp; exact hK _ (by first | exact Ext.rfl' _ | exact Ext.new _ _ | assumption)))); (try simp only [List.nil_append, List.cons_append]))
      (refine walkI_is (u := ?_) rfl (by simp) rfl ?_ ?_; rotate_left; (focus (intro A w' hS hA K hK; (simp only [List.map_cons, List.map_nil, knows, Is, Op.operands, Call.operands, List.lookup_cons, List.lookup_nil, Nat.reduceBEq, Bool.false_eq_true, if_false, if_true, Act.eval, Array.getD_eq_getD_getElem?, List.getElem?_toArray, List.getElem?_cons_succ, List.getElem?_cons_zero, Option.getD_some, and_true, true_and, List.append_toArray, List.nil_append, List.cons_append, List.toList_toArray, Array.toList_append, Option.toArray, List.append_nil] at hA); first | (go_simp; refine RetP_at (one7_c _ _) ?_; exact hK _ (by repeat (first | (with_reducible assumption) | (with_reducible exact Ext.rfl' _) | (with_reducible exact Ext.new _ _) | (with_reducible refine Ext.alloc' ?_ _) | (with_reducible refine Ext.drew' ?_) | (with_reducible refine Ext.drewN' ?_ _) | (with_reducible refine Ext.set' ?_ ?_ _; rotate_left; (focus (first | omega | (simp; done) | (simp; omega)))) | (with_reducible refine Ext.then (b := ?_) ?_ ?_; rotate_left; rotate_left; (with_reducible assumption))))) | (obtain ⟨hSc, hSf, hSs⟩ := hS.cells; go_simp; exact hK _ (by first | exact Ext.rfl' _ | exact Ext.new _ _ | assumption)))); (try simp only [List.nil_append, List.cons_append]))
      (refine walkI_is (u := ?_) rfl (by simp) rfl ?_ ?_; rotate_left; (focus (intro A w' hS hA K hK; (simp only [List.map_cons, List.map_nil, knows, Is, Op.operands, Call.operands, List.lookup_cons, List.lookup_nil, Nat.reduceBEq, Bool.false_eq_true, if_false, if_true, Act.eval, Array.getD_eq_getD_getElem?, List.getElem?_toArray, List.getElem?_cons_succ, List.getElem?_cons_zero, Option.getD_some, and_true, true_and, List.append_toArray, List.nil_append, List.cons_append, List.toList_toArray, Array.toList_append, Option.toArray, List.append_nil] at hA); first | fail | (obtain ⟨hSc, hSf, hSs⟩ := hS.cells; go_simp; exact hK _ (by first | exact Ext.rfl' _ | exact Ext.new _ _ | assumption)))); (try simp only [List.nil_append, List.cons_append]))
      (refine walkI_is (u := ?_) rfl (by simp) rfl ?_ ?_; rotate_left; (focus (intro A w' hS hA K hK; (simp only [List.map_cons, List.map_nil, knows, Is, Op.operands, Call.operands, List.lookup_cons, List.lookup_nil, Nat.reduceBEq, Bool.false_eq_true, if_false, if_true, Act.eval, Array.getD_eq_getD_getElem?, List.getElem?_toArray, List.getElem?_cons_succ, List.getElem?_cons_zero, Option.getD_some, and_true, true_and, List.append_toArray, List.nil_append, List.cons_append, List.toList_toArray, Array.toList_append, Option.toArray, List.append_nil] at hA); first | fail | (obtain ⟨hSc, hSf, hSs⟩ := hS.cells; go_simp; exact hK _ (by first | exact Ext.rfl' _ | exact Ext.new _ _ | assumption)))); (try simp only [List.nil_append, List.cons_append]))
      (refine walkI_is (u := ?_) rfl (by simp) rfl ?_ ?_; rotate_left; (focus (intro A w' hS hA K hK; (simp only [List.map_cons, List.map_nil, knows, Is, Op.operands, Call.operands, List.lookup_cons, List.lookup_nil, Nat.reduceBEq, Bool.false_eq_true, if_false, if_true, Act.eval, Array.getD_eq_getD_getElem?, List.getElem?_toArray, List.getElem?_cons_succ, List.getElem?_cons_zero, Option.getD_some, and_true, true_and, List.append_toArray, List.nil_append, List.cons_append, List.toList_toArray, Array.toList_append, Option.toArray, List.append_nil] at hA); first | fail | (obtain ⟨hSc, hSf, hSs⟩ := hS.cells; go_simp; exact hK _ (by first | exact Ext.rfl' _ | exact Ext.new _ _ | assumption)))); (try simp only [List.nil_append, List.cons_append]))
      (refine walkI_is (u := ?_) rfl (by simp) rfl ?_ ?_; rotate_left; (focus (intro A w' hS hA K hK; (simp only [List.map_cons, List.map_nil, knows, Is, Op.operands, Call.operands, List.lookup_cons, List.lookup_nil, Nat.reduceBEq, Bool.false_eq_true, if_false, if_true, Act.eval, Array.getD_eq_getD_getElem?, List.getElem?_toArray, List.getElem?_cons_succ, List.getElem?_cons_zero, Option.getD_some, and_true, true_and, List.append_toArray, List.nil_append, List.cons_append, List.toList_toArray, Array.toList_append, Option.toArray, List.append_nil] at hA); first | fail | (obtain ⟨hSc, hSf, hSs⟩ := hS.cells; go_simp; exact hK _ (by first | exact Ext.rfl' _ | exact Ext.new _ _ | assumption)))); (try simp only [List.nil_append, List.cons_append]))
      (refine walkI_is (u := ?_) rfl (by simp) rfl ?_ ?_; rotate_left; (focus (intro A w' hS hA K hK; (simp only [List.map_cons, List.map_nil, knows, Is, Op.operands, Call.operands, List.lookup_cons, List.lookup_nil, Nat.reduceBEq, Bool.false_eq_true, if_false, if_true, Act.eval, Array.getD_eq_getD_getElem?, List.getElem?_toArray, List.getElem?_cons_succ, List.getElem?_cons_zero, Option.getD_some, and_true, true_and, List.append_toArray, List.nil_append, List.cons_append, List.toList_toArray, Array.toList_append, Option.toArray, List.append_nil] at hA); first | fail | (obtain ⟨hSc, hSf, hSs⟩ := hS.cells; go_simp; exact hK _ (by first | exact Ext.rfl' _ | exact Ext.new _ _ | assumption)))); (try simp only [List.nil_append, List.cons_append]))
      (refine walkI_is (u := ?_) rfl (by simp) rfl ?_ ?_; rotate_left; (focus (intro A w' hS hA K hK; (simp only [List.map_cons, List.map_nil, knows, Is, Op.operands, Call.operands, List.lookup_cons, List.lookup_nil, Nat.reduceBEq, Bool.false_eq_true, if_false, if_true, Act.eval, Array.getD_eq_getD_getElem?, List.getElem?_toArray, List.getElem?_cons_succ, List.getElem?_cons_zero, Option.getD_some, and_true, true_and, List.append_toArray, List.nil_append, List.cons_append, List.toList_toArray, Array.toList_append, Option.toArray, List.append_nil] at hA); first | fail | (obtain ⟨hSc, hSf, hSs⟩ := hS.cells; go_simp; exact hK _ (by first | exact Ext.rfl' _ | exact Ext.new _ _ | assumption)))); (try simp only [List.nil_append, List.cons_append]))
      (refine walkI_step (NewSl W (intC (ordI ⟨⟨p, q⟩, ⟨r, s⟩, lO, rO, lI, rI⟩)).toArray 3 8) rfl (by simp) rfl (stab_NewSl _ _ _ _) ?_ ?_; (focus (intro A w' hS hA K hK; (simp only [List.map_cons, List.map_nil, knows, Is, Op.operands, Call.operands, List.lookup_cons, List.lookup_nil, Nat.reduceBEq, Bool.false_eq_true, if_false, if_true, Act.eval, Array.getD_eq_getD_getElem?, List.getElem?_toArray, List.getElem?_cons_succ, List.getElem?_cons_zero, Option.getD_some, and_true, true_and, List.append_toArray, List.nil_append, List.cons_append, List.toList_toArray, Array.toList_append, Option.toArray, List.append_nil] at hA); (have hs' := hS.size; go_simp; exact hK _ _ (Ext.new _ _) ⟨_, rfl, Own.new _ _ _, by omega⟩))); (try simp only [List.nil_append, List.cons_append]))
      (refine walkI_nil ?_; simp only [List.nil_append, List.cons_append, fins, Is, forall_eq, Act.put, List.setIfInBounds_toArray, List.set_cons_zero, List.set_cons_succ])
      rintro w2 hx2 v9 ⟨g, rfl, ho, hg⟩
      have hM3 := hM2.ext hx2
      have hS8 := Src.ints (H := noH) (n := 8) hoI ho rfl
      clear m0 m1 m2 m3 m4 m5 m6 m7 bf
      go_wp2_with (at_builtin; refine wpList_append_M 1 rfl _ _ 22 rfl Try.underlying22 infoInt rfl rfl rfl (hM3) rfl (hS8) one_IntR ?c3 ?c4 ?c5)
      case c3 => simp [ordI]; omega
      case c4 => simp [ordI]; omega
      case c5 =>
        intro v' w3 hM4
        try simp only [List.set_cons_succ, List.set_cons_zero] at hM4
        rw [hstep.out] at hM4
        go_wp2_with fail
        go_roundw
        case rel =>
          have hM5 := hM4.pick [0, 1] (by simp)
          simp only [List.map_cons, List.map_nil, List.getElem?_cons_zero, List.getElem?_cons_succ, Option.getD_some] at hM5
          exact ⟨k + 1, by omega, by go_num, hM5⟩
        case measure => simp [intOf]; omega
    · rw [List.take_of_length_le (by omega)] at hM
      have hll : ([f.op, f.n, (f.inn.length : Int)] ++ f.inn.flatMap ordI).length ≤ 4000000 := by rw [List.length_append, ordIs_len]; simp; omega
      generalize [f.op, f.n, (f.inn.length : Int)] ++ f.inn.flatMap ordI = pre at *
      obtain ⟨ga, gn, rfl, -⟩ := hM.form 1 rfl
      clear hi kc
      have hM2 := hM.ext (Ext.new wr (.cells #[.int .i64 f.kids.length] 3))
      have hS1 := Src.ints (H := noH) (n := 1) (l := [(f.kids.length : Int)]) (by simpa using i4) (Own.new wr #[.int .i64 f.kids.length] 3) rfl
      go_wp2_with (at_builtin; refine wpList_append_M 1 rfl _ _ 22 rfl Try.underlying22 infoInt rfl rfl rfl (hM2) rfl (hS1) one_IntR ?c3 ?c4 ?c5)
      case c3 => simp; omega
      case c4 => simp; omega
      case c5 =>
        intro v' w3 hM4
        try simp only [List.set_cons_succ, List.set_cons_zero] at hM4
        rw [← hof.out] at hM4
        go_wp2_with fail
        go_ret
        exact ⟨_, rfl, hM4.ex, hM4.ownS 1 rfl⟩
set_option maxRecDepth 100000 in
set_option maxHeartbeats 2000000 in
theorem rcmpB_c (f : Fm) : ∀ (g : Fm) (cs ds : List Value) (w : World), FmR (ph w) cs f → FmR (ph w) ds g → f.bulk ≤ 400000 → g.bulk ≤ 400000 →
    Calls Try.prog 32 #[.agg cs.toArray, .agg ds.toArray] w (RetV w (.int .i64 (cmpF f g))) := by
  induction f using Fm.ind with
  | h f ih =>
    intro g cs ds w hr hq hb1 hb2
    have hr' := hr
    have hq' := hq
    obtain ⟨a3, c3, a4, c4, rfl, -, -, hil, hkl, hi, hk⟩ := hr.form
    obtain ⟨b3, d3, b4, d4, rfl, -, -, gil, gkl, gi, gk⟩ := hq.form
    unfold fmC at *
    clear hr hq hi gi
    have hbf := f.bulk_eq
    have hbg := g.bulk_eq
    have hkf := f.kids_le
    have hkg := g.kids_le
    have hE := Lib.hid (cmpF_eq f g)
    have HI := Lib.hid ih; clear ih
    go_enter Try.func32, Try.ntmps32
    go_wp2_with fail
    have hM0 := ((Mem.start w noH (noH_le _)).new #[.int .i64 f.op, .int .i64 f.n, .slice a3 f.inn.length c3, .slice a4 f.kids.length c4] 30).new' #[.int .i64 g.op, .int .i64 g.n, .slice b3 g.inn.length d3, .slice b4 g.kids.length d4] 30 (n := w.heap.size + 1) (by simp)
    simp only [List.nil_append, List.cons_append] at hM0
    refine (orderB_c f _ _ (mono_FmR _ _ _ _ (Ext.ple (by repeat (first | (with_reducible assumption) | (with_reducible exact Ext.rfl' _) | (with_reducible exact Ext.new _ _) | (with_reducible refine Ext.alloc' ?_ _) | (with_reducible refine Ext.drew' ?_) | (with_reducible refine Ext.drewN' ?_ _) | (with_reducible refine Ext.set' ?_ ?_ _; rotate_left; (focus (first | omega | (simp; done) | (simp; omega)))) | (with_reducible refine Ext.then (b := ?_) ?_ ?_; rotate_left; rotate_left; (with_reducible assumption))))) hr') (by omega)).mono ?_
    rintro e w1 ⟨v1, rfl, hx1, ho1⟩
    obtain ⟨H1, -, -, hM1⟩ := hM0.take hx1 ho1 mono_IntR (noH_le _)
    simp only [List.nil_append, List.cons_append] at hM1
    obtain ⟨kc, kf⟩ := (hM1.box 0 rfl).facts
    obtain ⟨lc, lf⟩ := (hM1.box 1 rfl).facts
    have hl1 := (hM1.box 1 rfl).lt
    clear hM0 hx1 ho1
    go_wp2_with fail
    refine (orderB_c g _ _ (mono_FmR _ _ _ _ hM1.ex.ple hq') (by omega)).mono ?_
    rintro e w2 ⟨v2, rfl, hx2, ho2⟩
    obtain ⟨H2, -, -, hM2⟩ := hM1.take hx2 ho2 mono_IntR (noH_le _)
    simp only [List.nil_append, List.cons_append] at hM2
    clear hM1 hx2 ho2 kc kf lc lf hl1
    have hR1 := hM2.rep 2 rfl
    have hR2 := hM2.rep 3 rfl
    obtain ⟨xa, xc, rfl, xlen, hR1⟩ := hR1.form
    obtain ⟨ya, yc, rfl, ylen, hR2⟩ := hR2.form
    have hkids : cmpZ (ordF f) (ordF g) = 0 → f.kids.length = g.kids.length ∧ (ordF f).length = (ordF g).length := fun h => ⟨(ordF_0 (a := f) (b := g) h).2.2.2, by rw [ordF_len, ordF_len, (ordF_0 (a := f) (b := g) h).2.2.1]⟩
    have hB1 := hM2.box 0 rfl
    have hB2 := hM2.box 1 rfl
    have hX := hM2.ex
    clear hM2
    generalize hx : ordF f = X at *
    generalize hy : ordF g = Y at *
    replace hx := Lib.hid hx
    replace hy := Lib.hid hy
    replace hkids := Lib.hid hkids
    go_wp2_with fail
    go_loopw [7] (fun i wr => ∃ k : Nat, k ≤ X.length ∧ k ≤ Y.length ∧ i = .int .i64 k ∧ Hid (cmpZ X Y = cmpZ (X.drop k) (Y.drop k)) ∧ Ext w2 wr) (fun i _ => X.length - (intOf i).toNat)
    case atStart => exact ⟨0, Nat.zero_le _, Nat.zero_le _, rfl, Lib.hid rfl, (by repeat (first | (with_reducible assumption) | (with_reducible exact Ext.rfl' _) | (with_reducible exact Ext.new _ _) | (with_reducible refine Ext.alloc' ?_ _) | (with_reducible refine Ext.drew' ?_) | (with_reducible refine Ext.drewN' ?_ _) | (with_reducible refine Ext.set' ?_ ?_ _; rotate_left; (focus (first | omega | (simp; done) | (simp; omega)))) | (with_reducible refine Ext.then (b := ?_) ?_ ?_; rotate_left; rotate_left; (with_reducible assumption))))⟩
    case round =>
      obtain ⟨k, hk1, hk2, rfl, hZ, hxr⟩ := hrel
      by_cases hlt1 : k < X.length
      · by_cases hlt2 : k < Y.length
        · obtain ⟨b, o, rfl, h0, i0, hbl⟩ := IntsR.at (hR1.mono mono_IntR hxr.ple) k hlt1
          obtain ⟨b', o', rfl, h0', i0', hbl'⟩ := IntsR.at (hR2.mono mono_IntR hxr.ple) k hlt2
          have hd := Lib.hid (cmpZ_drop hlt1 hlt2)
          generalize X[k] = x at *
          generalize Y[k] = y at *
          clear hR1 hR2 hk gk hB1 hB2
          by_cases h1 : x < y
          · have b1 : decide (x < y) = true := by simpa using h1
            have hn : Hid (cmpF f g = -1) := by show _ = _; rw [hE.out, hZ.out, hd.out, if_pos h1]; rfl
            clear hd
            go_wp2_with fail
            (refine wp_region_calm (S := fun w' => Ext _ w') (by kernel_rfl) (by kernel_rfl) (Ext.rfl' _).drew' ?_; (try simp only [List.toList_toArray]); (repeat (first | (refine walkF_skip ?_ ?_; (focus rfl); (try simp only [Act.put, List.setIfInBounds_toArray, List.set_cons_zero, List.set_cons_succ])) | (refine walkF_step (v := ?_) rfl ?_ ?_ ?_; rotate_left; (focus rfl); (focus (intro w' hS A hA K hK; (simp only [agrees, Op.operands, Call.operands, Act.eval, Array.getD_eq_getD_getElem?, List.getElem?_toArray, List.getElem?_cons_succ, List.getElem?_cons_zero, Option.getD_some, and_true, true_and, List.append_toArray, List.nil_append, List.cons_append, List.toList_toArray, Array.toList_append] at hA); first | fail | (obtain ⟨hSc, hSf, hSs⟩ := hS.cells; go_simp; exact hK _ hS))); (try simp only [Act.put, List.setIfInBounds_toArray, List.set_cons_zero, List.set_cons_succ])))); refine walkF_nil ?_)
            intro w3 hw3
            go_wp2_with fail
            go_ret
            exact ⟨ret_int hn.out.symm, (by repeat (first | (with_reducible assumption) | (with_reducible exact Ext.rfl' _) | (with_reducible exact Ext.new _ _) | (with_reducible refine Ext.alloc' ?_ _) | (with_reducible refine Ext.drew' ?_) | (with_reducible refine Ext.drewN' ?_ _) | (with_reducible refine Ext.set' ?_ ?_ _; rotate_left; (focus (first | omega | (simp; done) | (simp; omega)))) | (with_reducible refine Ext.then (b := ?_) ?_ ?_; rotate_left; rotate_left; (with_reducible assumption))))⟩
          have b1 : decide (x < y) = false := by simpa using h1
          by_cases h2 : y < x
          · have b2 : decide (y < x) = true := by simpa using h2
            have hn : Hid (cmpF f g = 1) := by show _ = _; rw [hE.out, hZ.out, hd.out, if_neg h1, if_pos h2]; rfl
            clear hd
            go_wp2_with fail
            (refine wp_region_calm (S := fun w' => Ext _ w') (by kernel_rfl) (by kernel_rfl) (Ext.rfl' _).drew' ?_; (try simp only [List.toList_toArray]); (repeat (first | (refine walkF_skip ?_ ?_; (focus rfl); (try simp only [Act.put, List.setIfInBounds_toArray, List.set_cons_zero, List.set_cons_succ])) | (refine walkF_step (v := ?_) rfl ?_ ?_ ?_; rotate_left; (focus rfl); (focus (intro w' hS A hA K hK; (simp only [agrees, Op.operands, Call.operands, Act.eval, Array.getD_eq_getD_getElem?, List.getElem?_toArray, List.getElem?_cons_succ, List.getElem?_cons_zero, Option.getD_some, and_true, true_and, List.append_toArray, List.nil_append, List.cons_append, List.toList_toArray, Array.toList_append] at hA); first | fail | (obtain ⟨hSc, hSf, hSs⟩ := hS.cells; go_simp; exact hK _ hS))); (try simp only [Act.put, List.setIfInBounds_toArray, List.set_cons_zero, List.set_cons_succ])))); refine walkF_nil ?_)
            intro w3 hw3
            replace h0 := hw3.cell1 h0
            replace h0' := hw3.cell1 h0'
            replace hbl := cell_lt h0
            replace hbl' := cell_lt h0'
            go_wp2_with fail
            (refine wp_region_calm (S := fun w' => Ext _ w') (by kernel_rfl) (by kernel_rfl) (Ext.rfl' _).drew' ?_; (try simp only [List.toList_toArray]); (repeat (first | (refine walkF_skip ?_ ?_; (focus rfl); (try simp only [Act.put, List.setIfInBounds_toArray, List.set_cons_zero, List.set_cons_succ])) | (refine walkF_step (v := ?_) rfl ?_ ?_ ?_; rotate_left; (focus rfl); (focus (intro w' hS A hA K hK; (simp only [agrees, Op.operands, Call.operands, Act.eval, Array.getD_eq_getD_getElem?, List.getElem?_toArray, List.getElem?_cons_succ, List.getElem?_cons_zero, Option.getD_some, and_true, true_and, List.append_toArray, List.nil_append, List.cons_append, List.toList_toArray, Array.toList_append] at hA); first | fail | (obtain ⟨hSc, hSf, hSs⟩ := hS.cells; go_simp; exact hK _ hS))); (try simp only [Act.put, List.setIfInBounds_toArray, List.set_cons_zero, List.set_cons_succ])))); refine walkF_nil ?_)
            intro w4 hw4
            go_wp2_with fail
            go_ret
            exact ⟨ret_int hn.out.symm, (by repeat (first | (with_reducible assumption) | (with_reducible exact Ext.rfl' _) | (with_reducible exact Ext.new _ _) | (with_reducible refine Ext.alloc' ?_ _) | (with_reducible refine Ext.drew' ?_) | (with_reducible refine Ext.drewN' ?_ _) | (with_reducible refine Ext.set' ?_ ?_ _; rotate_left; (focus (first | omega | (simp; done) | (simp; omega)))) | (with_reducible refine Ext.then (b := ?_) ?_ ?_; rotate_left; rotate_left; (with_reducible assumption))))⟩
          · have b2 : decide (y < x) = false := by simpa using h2
            have hn : Hid (cmpZ X Y = cmpZ (X.drop (k + 1)) (Y.drop (k + 1))) := by show _ = _; rw [hZ.out, hd.out, if_neg h1, if_neg h2]
            clear hd
            go_wp2_with fail
            (refine wp_region_calm (S := fun w' => Ext _ w') (by kernel_rfl) (by kernel_rfl) (Ext.rfl' _).drew' ?_; (try simp only [List.toList_toArray]); (repeat (first | (refine walkF_skip ?_ ?_; (focus rfl); (try simp only [Act.put, List.setIfInBounds_toArray, List.set_cons_zero, List.set_cons_succ])) | (refine walkF_step (v := ?_) rfl ?_ ?_ ?_; rotate_left; (focus rfl); (focus (intro w' hS A hA K hK; (simp only [agrees, Op.operands, Call.operands, Act.eval, Array.getD_eq_getD_getElem?, List.getElem?_toArray, List.getElem?_cons_succ, List.getElem?_cons_zero, Option.getD_some, and_true, true_and, List.append_toArray, List.nil_append, List.cons_append, List.toList_toArray, Array.toList_append] at hA); first | fail | (obtain ⟨hSc, hSf, hSs⟩ := hS.cells; go_simp; exact hK _ hS))); (try simp only [Act.put, List.setIfInBounds_toArray, List.set_cons_zero, List.set_cons_succ])))); refine walkF_nil ?_)
            intro w3 hw3
            replace h0 := hw3.cell1 h0
            replace h0' := hw3.cell1 h0'
            replace hbl := cell_lt h0
            replace hbl' := cell_lt h0'
            go_wp2_with fail
            (refine wp_region_calm (S := fun w' => Ext _ w') (by kernel_rfl) (by kernel_rfl) (Ext.rfl' _).drew' ?_; (try simp only [List.toList_toArray]); (repeat (first | (refine walkF_skip ?_ ?_; (focus rfl); (try simp only [Act.put, List.setIfInBounds_toArray, List.set_cons_zero, List.set_cons_succ])) | (refine walkF_step (v := ?_) rfl ?_ ?_ ?_; rotate_left; (focus rfl); (focus (intro w' hS A hA K hK; (simp only [agrees, Op.operands, Call.operands, Act.eval, Array.getD_eq_getD_getElem?, List.getElem?_toArray, List.getElem?_cons_succ, List.getElem?_cons_zero, Option.getD_some, and_true, true_and, List.append_toArray, List.nil_append, List.cons_append, List.toList_toArray, Array.toList_append] at hA); first | fail | (obtain ⟨hSc, hSf, hSs⟩ := hS.cells; go_simp; exact hK _ hS))); (try simp only [Act.put, List.setIfInBounds_toArray, List.set_cons_zero, List.set_cons_succ])))); refine walkF_nil ?_)
            intro w4 hw4
            go_wp2_with fail
            go_roundw
            case rel => exact ⟨k + 1, by omega, by omega, by go_num, hn, (by repeat (first | (with_reducible assumption) | (with_reducible exact Ext.rfl' _) | (with_reducible exact Ext.new _ _) | (with_reducible refine Ext.alloc' ?_ _) | (with_reducible refine Ext.drew' ?_) | (with_reducible refine Ext.drewN' ?_ _) | (with_reducible refine Ext.set' ?_ ?_ _; rotate_left; (focus (first | omega | (simp; done) | (simp; omega)))) | (with_reducible refine Ext.then (b := ?_) ?_ ?_; rotate_left; rotate_left; (with_reducible assumption))))⟩
            case measure => simp [intOf]; omega
        · have hZ0 : cmpZ X Y = 0 := by rw [hZ.out]; exact cmpZ_end (.inr (by omega))
          have := (hkids.out hZ0).2
          omega
      · have hZ0 : cmpZ X Y = 0 := by rw [hZ.out]; exact cmpZ_end (.inl (by omega))
        have hkk := (hkids.out hZ0).1
        have hE2 : Hid (cmpF f g = cmpFs f.kids g.kids) := by show _ = _; rw [hE.out, hZ0]; rfl
        replace hB1 := hB1.keep hxr
        replace hB2 := hB2.keep hxr
        replace hX := hX.then hxr
        clear hR1 hR2 hZ hE hZ0
        obtain ⟨kc, -⟩ := hB1.facts
        obtain ⟨lc, -⟩ := hB2.facts
        have hl2 := hB2.lt
        go_wp2_with fail
        go_loopw [8] (fun i wx => ∃ m : Nat, m ≤ f.kids.length ∧ i = .int .i64 m ∧ Hid (cmpF f g = cmpFs (f.kids.drop m) (g.kids.drop m)) ∧ Ext wr wx) (fun i _ => f.kids.length - (intOf i).toNat)
        case atStart => exact ⟨0, Nat.zero_le _, rfl, hE2, (by repeat (first | (with_reducible assumption) | (with_reducible exact Ext.rfl' _) | (with_reducible exact Ext.new _ _) | (with_reducible refine Ext.alloc' ?_ _) | (with_reducible refine Ext.drew' ?_) | (with_reducible refine Ext.drewN' ?_ _) | (with_reducible refine Ext.set' ?_ ?_ _; rotate_left; (focus (first | omega | (simp; done) | (simp; omega)))) | (with_reducible refine Ext.then (b := ?_) ?_ ?_; rotate_left; rotate_left; (with_reducible assumption))))⟩
        case round =>
          obtain ⟨m, hm, rfl, hF, hxx⟩ := hrel
          replace hB1 := hB1.keep hxx
          replace hB2 := hB2.keep hxx
          replace hX := hX.then hxx
          clear kc lc hl2
          obtain ⟨kc, -⟩ := hB1.facts
          obtain ⟨lc, -⟩ := hB2.facts
          have hl2 := hB2.lt
          have hl1 := hB1.lt
          by_cases hlt : m < f.kids.length
          · have hlt2 : m < g.kids.length := by omega
            obtain ⟨b, o, p3, e3, p4, e4, rfl, h0, h1, h2, h3, hEa, hbl⟩ := FmsR.at (hk.mono mono_FmR hX.ple) m hlt
            obtain ⟨b', o', q3, f3, q4, f4, rfl, h0', h1', h2', h3', hEb, hbl'⟩ := FmsR.at (gk.mono mono_FmR hX.ple) m hlt2
            have k3 : _ = some (Value.slice (some ⟨b, o, none⟩) f.kids.length c4) := kc 3
            have l3 : _ = some (Value.slice (some ⟨b', o', none⟩) g.kids.length d4) := lc 3
            unfold fmC at hEa hEb
            have ha1 := Fm.kid_le (List.getElem_mem hlt)
            have ha2 := Fm.kid_le (List.getElem_mem hlt2)
            have hd := Lib.hid (cmpFs_drop hlt hlt2)
            have hc := Lib.hid (fun W (hW : Ext wr W) => HI.out _ (List.getElem_mem hlt) g.kids[m] _ _ W (mono_FmR _ _ _ _ (Ext.ple hW) hEa) (mono_FmR _ _ _ _ (Ext.ple hW) hEb) (by omega) (by omega))
            generalize cmpF f.kids[m] g.kids[m] = z at *
            generalize f.kids[m] = x at *
            generalize g.kids[m] = y at *
            clear hk gk hEa hEb kc lc HI
            have hlm : m < f.kids.length := hlt
            go_wp2_with fail
            (refine wp_region_I 12 (by kernel_rfl) (by kernel_rfl) ?_; simp only [List.toList_toArray, List.take_succ_cons, List.take_zero, List.drop_succ_cons, List.drop_zero])
            (refine walkI_is (u := ?_) rfl (by simp) rfl ?_ ?_; rotate_left; (focus (intro A w' hS hA K hK; (simp only [List.map_cons, List.map_nil, knows, Is, Op.operands, Call.operands, List.lookup_cons, List.lookup_nil, Nat.reduceBEq, Bool.false_eq_true, if_false, if_true, Act.eval, Array.getD_eq_getD_getElem?, List.getElem?_toArray, List.getElem?_cons_succ, List.getElem?_cons_zero, Option.getD_some, and_true, true_and, List.append_toArray, List.nil_append, List.cons_append, List.toList_toArray, Array.toList_append, Option.toArray, List.append_nil] at hA); first | fail | (obtain ⟨hSc, hSf, hSs⟩ := hS.cells; go_simp; exact hK _ (by first | exact Ext.rfl' _ | exact Ext.new _ _ | assumption)))); (try simp only [List.nil_append, List.cons_append]))
            (refine walkI_is (u := ?_) rfl (by simp) rfl ?_ ?_; rotate_left; (focus (intro A w' hS hA K hK; (simp only [List.map_cons, List.map_nil, knows, Is, Op.operands, Call.operands, List.lookup_cons, List.lookup_nil, Nat.reduceBEq, Bool.false_eq_true, if_false, if_true, Act.eval, Array.getD_eq_getD_getElem?, List.getElem?_toArray, List.getElem?_cons_succ, List.getElem?_cons_zero, Option.getD_some, and_true, true_and, List.append_toArray, List.nil_append, List.cons_append, List.toList_toArray, Array.toList_append, Option.toArray, List.append_nil] at hA); first | fail | (obtain ⟨hSc, hSf, hSs⟩ := hS.cells; go_simp; exact hK _ (by first | exact Ext.rfl' _ | exact Ext.new _ _ | assumption)))); (try simp only [List.nil_append, List.cons_append]))
            (refine walkI_is (u := ?_) rfl (by simp) rfl ?_ ?_; rotate_left; (focus (intro A w' hS hA K hK; (simp only [List.map_cons, List.map_nil, knows, Is, Op.operands, Call.operands, List.lookup_cons, List.lookup_nil, Nat.reduceBEq, Bool.false_eq_true, if_false, if_true, Act.eval, Array.getD_eq_getD_getElem?, List.getElem?_toArray, List.getElem?_cons_succ, List.getElem?_cons_zero, Option.getD_some, and_true, true_and, List.append_toArray, List.nil_append, List.cons_append, List.toList_toArray, Array.toList_append, Option.toArray, List.append_nil] at hA); first | fail | (obtain ⟨hSc, hSf, hSs⟩ := hS.cells; go_simp; exact hK _ (by first | exact Ext.rfl' _ | exact Ext.new _ _ | assumption)))); (try simp only [List.nil_append, List.cons_append]))
            (refine walkI_is (u := ?_) rfl (by simp) rfl ?_ ?_; rotate_left; (focus (intro A w' hS hA K hK; (simp only [List.map_cons, List.map_nil, knows, Is, Op.operands, Call.operands, List.lookup_cons, List.lookup_nil, Nat.reduceBEq, Bool.false_eq_true, if_false, if_true, Act.eval, Array.getD_eq_getD_getElem?, List.getElem?_toArray, List.getElem?_cons_succ, List.getElem?_cons_zero, Option.getD_some, and_true, true_and, List.append_toArray, List.nil_append, List.cons_append, List.toList_toArray, Array.toList_append, Option.toArray, List.append_nil] at hA); first | fail | (obtain ⟨hSc, hSf, hSs⟩ := hS.cells; go_simp; exact hK _ (by first | exact Ext.rfl' _ | exact Ext.new _ _ | assumption)))); (try simp only [List.nil_append, List.cons_append]))
            (refine walkI_is (u := ?_) rfl (by simp) rfl ?_ ?_; rotate_left; (focus (intro A w' hS hA K hK; (simp only [List.map_cons, List.map_nil, knows, Is, Op.operands, Call.operands, List.lookup_cons, List.lookup_nil, Nat.reduceBEq, Bool.false_eq_true, if_false, if_true, Act.eval, Array.getD_eq_getD_getElem?, List.getElem?_toArray, List.getElem?_cons_succ, List.getElem?_cons_zero, Option.getD_some, and_true, true_and, List.append_toArray, List.nil_append, List.cons_append, List.toList_toArray, Array.toList_append, Option.toArray, List.append_nil] at hA); first | fail | (obtain ⟨hSc, hSf, hSs⟩ := hS.cells; go_simp; exact hK _ (by first | exact Ext.rfl' _ | exact Ext.new _ _ | assumption)))); (try simp only [List.nil_append, List.cons_append]))
            (refine walkI_is (u := ?_) rfl (by simp) rfl ?_ ?_; rotate_left; (focus (intro A w' hS hA K hK; (simp only [List.map_cons, List.map_nil, knows, Is, Op.operands, Call.operands, List.lookup_cons, List.lookup_nil, Nat.reduceBEq, Bool.false_eq_true, if_false, if_true, Act.eval, Array.getD_eq_getD_getElem?, List.getElem?_toArray, List.getElem?_cons_succ, List.getElem?_cons_zero, Option.getD_some, and_true, true_and, List.append_toArray, List.nil_append, List.cons_append, List.toList_toArray, Array.toList_append, Option.toArray, List.append_nil] at hA); first | fail | (obtain ⟨hSc, hSf, hSs⟩ := hS.cells; go_simp; exact hK _ (by first | exact Ext.rfl' _ | exact Ext.new _ _ | assumption)))); (try simp only [List.nil_append, List.cons_append]))
            (refine walkI_is (u := ?_) rfl (by simp) rfl ?_ ?_; rotate_left; (focus (intro A w' hS hA K hK; (simp only [List.map_cons, List.map_nil, knows, Is, Op.operands, Call.operands, List.lookup_cons, List.lookup_nil, Nat.reduceBEq, Bool.false_eq_true, if_false, if_true, Act.eval, Array.getD_eq_getD_getElem?, List.getElem?_toArray, List.getElem?_cons_succ, List.getElem?_cons_zero, Option.getD_some, and_true, true_and, List.append_toArray, List.nil_append, List.cons_append, List.toList_toArray, Array.toList_append, Option.toArray, List.append_nil] at hA); first | fail | (obtain ⟨hSc, hSf, hSs⟩ := hS.cells; go_simp; exact hK _ (by first | exact Ext.rfl' _ | exact Ext.new _ _ | assumption)))); (try simp only [List.nil_append, List.cons_append]))
            (refine walkI_is (u := ?_) rfl (by simp) rfl ?_ ?_; rotate_left; (focus (intro A w' hS hA K hK; (simp only [List.map_cons, List.map_nil, knows, Is, Op.operands, Call.operands, List.lookup_cons, List.lookup_nil, Nat.reduceBEq, Bool.false_eq_true, if_false, if_true, Act.eval, Array.getD_eq_getD_getElem?, List.getElem?_toArray, List.getElem?_cons_succ, List.getElem?_cons_zero, Option.getD_some, and_true, true_and, List.append_toArray, List.nil_append, List.cons_append, List.toList_toArray, Array.toList_append, Option.toArray, List.append_nil] at hA); first | fail | (obtain ⟨hSc, hSf, hSs⟩ := hS.cells; go_simp; exact hK _ (by first | exact Ext.rfl' _ | exact Ext.new _ _ | assumption)))); (try simp only [List.nil_append, List.cons_append]))
            (refine walkI_is (u := ?_) rfl (by simp) rfl ?_ ?_; rotate_left; (focus (intro A w' hS hA K hK; (simp only [List.map_cons, List.map_nil, knows, Is, Op.operands, Call.operands, List.lookup_cons, List.lookup_nil, Nat.reduceBEq, Bool.false_eq_true, if_false, if_true, Act.eval, Array.getD_eq_getD_getElem?, List.getElem?_toArray, List.getElem?_cons_succ, List.getElem?_cons_zero, Option.getD_some, and_true, true_and, List.append_toArray, List.nil_append, List.cons_append, List.toList_toArray, Array.toList_append, Option.toArray, List.append_nil] at hA); first | fail | (obtain ⟨hSc, hSf, hSs⟩ := hS.cells; go_simp; exact hK _ (by first | exact Ext.rfl' _ | exact Ext.new _ _ | assumption)))); (try simp only [List.nil_append, List.cons_append]))
            (refine walkI_is (u := ?_) rfl (by simp) rfl ?_ ?_; rotate_left; (focus (intro A w' hS hA K hK; (simp only [List.map_cons, List.map_nil, knows, Is, Op.operands, Call.operands, List.lookup_cons, List.lookup_nil, Nat.reduceBEq, Bool.false_eq_true, if_false, if_true, Act.eval, Array.getD_eq_getD_getElem?, List.getElem?_toArray, List.getElem?_cons_succ, List.getElem?_cons_zero, Option.getD_some, and_true, true_and, List.append_toArray, List.nil_append, List.cons_append, List.toList_toArray, Array.toList_append, Option.toArray, List.append_nil] at hA); first | fail | (obtain ⟨hSc, hSf, hSs⟩ := hS.cells; go_simp; exact hK _ (by first | exact Ext.rfl' _ | exact Ext.new _ _ | assumption)))); (try simp only [List.nil_append, List.cons_append]))
            (refine walkI_is (u := ?_) rfl (by simp) rfl ?_ ?_; rotate_left; (focus (intro A w' hS hA K hK; (simp only [List.map_cons, List.map_nil, knows, Is, Op.operands, Call.operands, List.lookup_cons, List.lookup_nil, Nat.reduceBEq, Bool.false_eq_true, if_false, if_true, Act.eval, Array.getD_eq_getD_getElem?, List.getElem?_toArray, List.getElem?_cons_succ, List.getElem?_cons_zero, Option.getD_some, and_true, true_and, List.append_toArray, List.nil_append, List.cons_append, List.toList_toArray, Array.toList_append, Option.toArray, List.append_nil] at hA); first | (go_simp; refine RetV_at (hc.out _ (by repeat (first | (with_reducible assumption) | (with_reducible exact Ext.rfl' _) | (with_reducible exact Ext.new _ _) | (with_reducible refine Ext.alloc' ?_ _) | (with_reducible refine Ext.drew' ?_) | (with_reducible refine Ext.drewN' ?_ _) | (with_reducible refine Ext.set' ?_ ?_ _; rotate_left; (focus (first | omega | (simp; done) | (simp; omega)))) | (with_reducible refine Ext.then (b := ?_) ?_ ?_; rotate_left; rotate_left; (with_reducible assumption))))) ?_; intro w5 hx5; exact hK _ hx5) | (obtain ⟨hSc, hSf, hSs⟩ := hS.cells; go_simp; exact hK _ (by first | exact Ext.rfl' _ | exact Ext.new _ _ | assumption)))); (try simp only [List.nil_append, List.cons_append]))
            (refine walkI_is (u := ?_) rfl (by simp) rfl ?_ ?_; rotate_left; (focus (intro A w' hS hA K hK; (simp only [List.map_cons, List.map_nil, knows, Is, Op.operands, Call.operands, List.lookup_cons, List.lookup_nil, Nat.reduceBEq, Bool.false_eq_true, if_false, if_true, Act.eval, Array.getD_eq_getD_getElem?, List.getElem?_toArray, List.getElem?_cons_succ, List.getElem?_cons_zero, Option.getD_some, and_true, true_and, List.append_toArray, List.nil_append, List.cons_append, List.toList_toArray, Array.toList_append, Option.toArray, List.append_nil] at hA); first | fail | (obtain ⟨hSc, hSf, hSs⟩ := hS.cells; go_simp; exact hK _ (by first | exact Ext.rfl' _ | exact Ext.new _ _ | assumption)))); (try simp only [List.nil_append, List.cons_append]))
            (refine walkI_nil ?_; simp only [List.nil_append, List.cons_append, fins, Is, forall_eq, Act.put, List.setIfInBounds_toArray, List.set_cons_zero, List.set_cons_succ])
            intro w6 hx6
            by_cases hz : z = 0
            · have b3 : (z == 0) = true := by simpa using hz
              have b4 : (z != 0) = false := by simpa using hz
              have hn : Hid (cmpF f g = cmpFs (f.kids.drop (m + 1)) (g.kids.drop (m + 1))) := by show _ = _; rw [hF.out, hd.out, if_neg (by simpa using hz)]
              clear hd hz
              go_wp2_with fail
              go_roundw
              case rel => exact ⟨m + 1, by omega, by go_num, hn, (by repeat (first | (with_reducible assumption) | (with_reducible exact Ext.rfl' _) | (with_reducible exact Ext.new _ _) | (with_reducible refine Ext.alloc' ?_ _) | (with_reducible refine Ext.drew' ?_) | (with_reducible refine Ext.drewN' ?_ _) | (with_reducible refine Ext.set' ?_ ?_ _; rotate_left; (focus (first | omega | (simp; done) | (simp; omega)))) | (with_reducible refine Ext.then (b := ?_) ?_ ?_; rotate_left; rotate_left; (with_reducible assumption))))⟩
              case measure => simp [intOf]; omega
            · have b3 : (z == 0) = false := by simpa using hz
              have b4 : (z != 0) = true := by simpa using hz
              have hn : Hid (cmpF f g = z) := by show _ = _; rw [hF.out, hd.out, if_pos hz]
              clear hd
              go_wp2_with fail
              go_ret
              exact ⟨ret_int hn.out.symm, (by repeat (first | (with_reducible assumption) | (with_reducible exact Ext.rfl' _) | (with_reducible exact Ext.new _ _) | (with_reducible refine Ext.alloc' ?_ _) | (with_reducible refine Ext.drew' ?_) | (with_reducible refine Ext.drewN' ?_ _) | (with_reducible refine Ext.set' ?_ ?_ _; rotate_left; (focus (first | omega | (simp; done) | (simp; omega)))) | (with_reducible refine Ext.then (b := ?_) ?_ ?_; rotate_left; rotate_left; (with_reducible assumption))))⟩
          · have hn : Hid (cmpF f g = 0) := by
              show _ = _
              rw [hF.out, List.drop_eq_nil_of_le (by omega)]
              rfl
            have k3 : _ = some (Value.slice a4 f.kids.length c4) := kc 3
            clear hk gk kc lc
            go_wp2_with fail
            go_ret
            exact ⟨ret_int hn.out.symm, (by repeat (first | (with_reducible assumption) | (with_reducible exact Ext.rfl' _) | (with_reducible exact Ext.new _ _) | (with_reducible refine Ext.alloc' ?_ _) | (with_reducible refine Ext.drew' ?_) | (with_reducible refine Ext.drewN' ?_ _) | (with_reducible refine Ext.set' ?_ ?_ _; rotate_left; (focus (first | omega | (simp; done) | (simp; omega)))) | (with_reducible refine Ext.then (b := ?_) ?_ ?_; rotate_left; rotate_left; (with_reducible assumption))))⟩
theorem rsameB_c (f g : Fm) (cs ds : List Value) (w : World) (hr : FmR (ph w) cs f) (hq : FmR (ph w) ds g) (hb1 : f.bulk ≤ 400000) (hb2 : g.bulk ≤ 400000) :
    Calls Try.prog 12 #[.agg cs.toArray, .agg ds.toArray] w (RetV w (.bool (B (f = g)))) := by
  have hr' := hr
  have hq' := hq
  obtain ⟨a3, c3, a4, c4, rfl, -⟩ := hr.form
  obtain ⟨b3, d3, b4, d4, rfl, -⟩ := hq.form
  unfold fmC at *
  have h0 := Lib.hid (cmpF_0 f g)
  go_enter Try.func12, Try.ntmps12
  go_wp2_with fail
  refine RetV_at (rcmpB_c f g _ _ _ (mono_FmR _ _ _ _ (Ext.ple (by repeat (first | (with_reducible assumption) | (with_reducible exact Ext.rfl' _) | (with_reducible exact Ext.new _ _) | (with_reducible refine Ext.alloc' ?_ _) | (with_reducible refine Ext.drew' ?_) | (with_reducible refine Ext.drewN' ?_ _) | (with_reducible refine Ext.set' ?_ ?_ _; rotate_left; (focus (first | omega | (simp; done) | (simp; omega)))) | (with_reducible refine Ext.then (b := ?_) ?_ ?_; rotate_left; rotate_left; (with_reducible assumption))))) hr') (mono_FmR _ _ _ _ (Ext.ple (by repeat (first | (with_reducible assumption) | (with_reducible exact Ext.rfl' _) | (with_reducible exact Ext.new _ _) | (with_reducible refine Ext.alloc' ?_ _) | (with_reducible refine Ext.drew' ?_) | (with_reducible refine Ext.drewN' ?_ _) | (with_reducible refine Ext.set' ?_ ?_ _; rotate_left; (focus (first | omega | (simp; done) | (simp; omega)))) | (with_reducible refine Ext.then (b := ?_) ?_ ?_; rotate_left; rotate_left; (with_reducible assumption))))) hq') hb1 hb2) ?_
  intro w1 hx1
  generalize cmpF f g = z at *
  go_wp2_with fail
  go_ret
  refine ⟨ret_B ?_, (by repeat (first | (with_reducible assumption) | (with_reducible exact Ext.rfl' _) | (with_reducible exact Ext.new _ _) | (with_reducible refine Ext.alloc' ?_ _) | (with_reducible refine Ext.drew' ?_) | (with_reducible refine Ext.drewN' ?_ _) | (with_reducible refine Ext.set' ?_ ?_ _; rotate_left; (focus (first | omega | (simp; done) | (simp; omega)))) | (with_reducible refine Ext.then (b := ?_) ?_ ?_; rotate_left; rotate_left; (with_reducible assumption))))⟩
  rw [← h0.out]; simp
theorem samelistB_c (l m : List Fm) (va vb : Value) (w : World) (ha : FmsR (ph w) va l) (hb : FmsR (ph w) vb m) (h1 : sumN Fm.bulk l ≤ 390000) (h2 : sumN Fm.bulk m ≤ 390000) :
    Calls Try.prog 13 #[va, vb] w (RetV w (.bool (B (l = m)))) := by
  obtain ⟨a4, c4, rfl, -, ha⟩ := ha.form
  obtain ⟨b4, d4, rfl, -, hb⟩ := hb.form
  go_enter Try.func13, Try.ntmps13
  go_wp2_with fail
  refine RetV_at (rsameB_c (.mk 4 0 [] l) (.mk 4 0 [] m) (fmC (.mk 4 0 [] l) none 0 a4 c4) (fmC (.mk 4 0 [] m) none 0 b4 d4) _
    (FmR.of (f := .mk 4 0 [] l) (by simp [Fm.op, I64]) (by simp [Fm.n, I64]) (SliceRep.nil _ _ _) (ha.mono mono_FmR (Ext.ple (by repeat (first | (with_reducible assumption) | (with_reducible exact Ext.rfl' _) | (with_reducible exact Ext.new _ _) | (with_reducible refine Ext.alloc' ?_ _) | (with_reducible refine Ext.drew' ?_) | (with_reducible refine Ext.drewN' ?_ _) | (with_reducible refine Ext.set' ?_ ?_ _; rotate_left; (focus (first | omega | (simp; done) | (simp; omega)))) | (with_reducible refine Ext.then (b := ?_) ?_ ?_; rotate_left; rotate_left; (with_reducible assumption)))))))
    (FmR.of (f := .mk 4 0 [] m) (by simp [Fm.op, I64]) (by simp [Fm.n, I64]) (SliceRep.nil _ _ _) (hb.mono mono_FmR (Ext.ple (by repeat (first | (with_reducible assumption) | (with_reducible exact Ext.rfl' _) | (with_reducible exact Ext.new _ _) | (with_reducible refine Ext.alloc' ?_ _) | (with_reducible refine Ext.drew' ?_) | (with_reducible refine Ext.drewN' ?_ _) | (with_reducible refine Ext.set' ?_ ?_ _; rotate_left; (focus (first | omega | (simp; done) | (simp; omega)))) | (with_reducible refine Ext.then (b := ?_) ?_ ?_; rotate_left; rotate_left; (with_reducible assumption)))))))
    (by rw [Fm.bulk_eq]; simp [Fm.inn, Fm.kids]; omega) (by rw [Fm.bulk_eq]; simp [Fm.inn, Fm.kids]; omega)) ?_
  intro w1 hx1
  go_wp2_with fail
  go_ret
  refine ⟨ret_B ?_, (by repeat (first | (with_reducible assumption) | (with_reducible exact Ext.rfl' _) | (with_reducible exact Ext.new _ _) | (with_reducible refine Ext.alloc' ?_ _) | (with_reducible refine Ext.drew' ?_) | (with_reducible refine Ext.drewN' ?_ _) | (with_reducible refine Ext.set' ?_ ?_ _; rotate_left; (focus (first | omega | (simp; done) | (simp; omega)))) | (with_reducible refine Ext.then (b := ?_) ?_ ?_; rotate_left; rotate_left; (with_reducible assumption))))⟩
  rw [B_iff]
end Go.Proofs.Ytdpdpjimmfajgaa
namespace Go.Proofs.Ytdpdpjimmfajgaa
open Go.RowKit Go.Shelf
set_option linter.unusedSimpArgs false
set_option linter.unusedVariables false
def clsF (n : Int) : Fm := .mk 1 n [] []
theorem clsF_R (H : PH) {n : Int} (hn : I64 n) : FmR H (fmC (clsF n) none 0 none 0) (clsF n) := FmR.of (by simp [clsF, Fm.op, I64]) (by simpa [clsF, Fm.n] using hn) (SliceRep.nil _ _ _) (SliceRep.nil _ _ _)
theorem class_c (n : Int) (w : World) : Calls Try.prog 34 #[.int .i64 n] w (RetV w (.agg #[.int .i64 1, .int .i64 n, .slice none 0 0, .slice none 0 0])) := by
  go_enter Try.func34, Try.ntmps34
  go_wp2_with fail
  have ho := Own.new w #[.int .i64 1, .int .i64 n, .slice none 0 0, .slice none 0 0] 30
  have hx := Ext.new w (.cells #[.int .i64 1, .int .i64 n, .slice none 0 0, .slice none 0 0] 30)
  generalize w.alloc _ = w9 at *
  obtain ⟨q, -⟩ := ho.facts
  have q0 : _ = some (Value.int .i64 1) := q 0
  have q1 : _ = some (Value.int .i64 n) := q 1
  have q2 : _ = some (Value.slice none 0 0) := q 2
  have q3 : _ = some (Value.slice none 0 0) := q 3
  refine bodyPost_ret (v := .agg #[.int .i64 1, .int .i64 n, .slice none 0 0, .slice none 0 0]) (by simp [results, Try.results34, go_sem, q0, q1, q2, q3]) rfl ?_
  exact ⟨rfl, hx⟩
/-- a formula of two kids, in memory of its own -/
theorem of2_c {H : PH} (op : Int) (f g : Fm) (a3 : Option Addr) (c3 : Nat) (a4 : Option Addr) (c4 : Nat) (b3 : Option Addr) (d3 : Nat) (b4 : Option Addr) (d4 : Nat) (w : World) (ho : I64 op) (hl : PLe H (ph w)) (hf : FmR H (fmC f a3 c3 a4 c4) f) (hg : FmR H (fmC g b3 d3 b4 d4) g) :
    Calls Try.prog 33 #[.int .i64 op, fmV f a3 c3 a4 c4, fmV g b3 d3 b4 d4] w fun e w' => ∃ b, e = .returned (.agg #[.int .i64 op, .int .i64 0, .slice none 0 0, .slice (some ⟨b, 0, none⟩) 2 2]) ∧ Ext w w' ∧ FmsR (up H w w') (.slice (some ⟨b, 0, none⟩) 2 2) [f, g] := by
  unfold fmC at hf hg
  go_enter Try.func33, Try.ntmps33
  go_wp2_with fail
  have hM := (((((Mem.start w H hl).ext (Ext.new w (.cells #[.int .i64 f.op, .int .i64 f.n, .slice a3 f.inn.length c3, .slice a4 f.kids.length c4] 30))).ext (Ext.new _ (.cells #[.int .i64 g.op, .int .i64 g.n, .slice b3 g.inn.length d3, .slice b4 g.kids.length d4] 30))).ext (Ext.new _ (.cells #[.int .i64 op, .int .i64 0, .slice none 0 0, .slice (some ⟨w.heap.size + 1 + 1 + 1, 0, none⟩) 2 2] 30))).new' #[.int .i64 f.op, .int .i64 f.n, .slice a3 f.inn.length c3, .slice a4 f.kids.length c4, .int .i64 g.op, .int .i64 g.n, .slice b3 g.inn.length d3, .slice b4 g.kids.length d4] 30 (n := w.heap.size + 1 + 1 + 1) (by simp)).asOwn 0 rfl mono_FmR (sz := 4) (xs := [f, g]) (n := 2) (by simp) (by simp [maxLen]) rfl ⟨_, _, rfl, rfl, hf, _, [], rfl, rfl, hg, rfl⟩
  have hk := hM.repUp 0 rfl
  have hx := hM.ex
  have ho2 : Own ((((w.alloc (.cells #[.int .i64 f.op, .int .i64 f.n, .slice a3 f.inn.length c3, .slice a4 f.kids.length c4] 30)).alloc (.cells #[.int .i64 g.op, .int .i64 g.n, .slice b3 g.inn.length d3, .slice b4 g.kids.length d4] 30)).alloc (.cells #[.int .i64 op, .int .i64 0, .slice none 0 0, .slice (some ⟨w.heap.size + 1 + 1 + 1, 0, none⟩) 2 2] 30)).alloc (.cells #[.int .i64 f.op, .int .i64 f.n, .slice a3 f.inn.length c3, .slice a4 f.kids.length c4, .int .i64 g.op, .int .i64 g.n, .slice b3 g.inn.length d3, .slice b4 g.kids.length d4] 30)) (w.heap.size + 1 + 1) #[.int .i64 op, .int .i64 0, .slice none 0 0, .slice (some ⟨w.heap.size + 1 + 1 + 1, 0, none⟩) 2 2] 30 := (by repeat (first | (with_reducible assumption) | (with_reducible exact Own.new _ _ _) | (with_reducible refine Own.new' _ _ _ ?_; (focus (simp; done))) | (with_reducible refine Own.alloc ?_ _) | (with_reducible refine Own.drew ?_) | (with_reducible refine Own.drewN ?_ _) | (with_reducible refine Own.keep (w := ?_) ?_ ?_; rotate_left; (with_reducible assumption); (exact (by repeat (first | (with_reducible assumption) | (with_reducible exact Ext.rfl' _) | (with_reducible exact Ext.new _ _) | (with_reducible refine Ext.alloc' ?_ _) | (with_reducible refine Ext.drew' ?_) | (with_reducible refine Ext.drewN' ?_ _) | (with_reducible refine Ext.set' ?_ ?_ _; rotate_left; (focus (first | omega | (simp; done) | (simp; omega)))) | (with_reducible refine Ext.then (b := ?_) ?_ ?_; rotate_left; rotate_left; (with_reducible assumption)))))) | (with_reducible refine Own.keep (w := ?_) ?_ ?_; rotate_left; rotate_left; (with_reducible assumption))))
  clear hM
  generalize World.alloc _ _ = w9 at *
  obtain ⟨q, -⟩ := ho2.facts
  have q0 : _ = some (Value.int .i64 op) := q 0
  have q1 : _ = some (Value.int .i64 0) := q 1
  have q2 : _ = some (Value.slice none 0 0) := q 2
  have q3 : _ = some (Value.slice (some ⟨w.heap.size + 1 + 1 + 1, 0, none⟩) 2 2) := q 3
  refine bodyPost_ret (v := .agg #[.int .i64 op, .int .i64 0, .slice none 0 0, .slice (some ⟨w.heap.size + 1 + 1 + 1, 0, none⟩) 2 2]) (by simp [results, Try.results33, go_sem, q0, q1, q2, q3]) rfl ?_
  exact ⟨w.heap.size + 1 + 1 + 1, rfl, hx, hk⟩
def orF : Fm := .mk 5 0 [] [clsF 0, clsF 1]
def LV : List Cl := [⟨[], orF⟩, ⟨[0], clsF 2⟩]
def or1 : Fm := .mk 5 0 [] [orF]
def wantF : Fm := .mk 4 0 [] [clsF 2, or1]
def wantA : List Fm := [.mk 4 0 [] [clsF 0, clsF 2], .mk 4 0 [] [clsF 1, clsF 2]]
theorem lv_mean : meaningE LV 1 = (wantF, 0) := by kernel_rfl
theorem lv_alts : altsE LV 1 = (wantA, 0) := by kernel_rfl
theorem ints1 {w : World} {g : Nat} {x : Int} {T : TypeId} (ho : Own w g #[.int .i64 x] T) (hx : I64 x) : IntsR (ph w) (.slice (some ⟨g, 0, none⟩) 1 1) [x] := by
  refine ⟨_, 1, rfl, Nat.le_refl _, by simp [maxLen], .inr ⟨g, 0, rfl, ⟨[.int .i64 x], rfl, fun j hj => ?_, rfl, hx⟩, trivial⟩⟩
  obtain rfl : j = 0 := by omega
  rw [← cell_ph]
  exact ho.facts.1 0
theorem orF_R {H : PH} {b : Nat} (h : FmsR H (.slice (some ⟨b, 0, none⟩) 2 2) [clsF 0, clsF 1]) : FmR H [.int .i64 5, .int .i64 0, .slice none 0 0, .slice (some ⟨b, 0, none⟩) 2 2] orF :=
  FmR.of (f := orF) (a3 := none) (c3 := 0) (a4 := some ⟨b, 0, none⟩) (c4 := 2) (by simp [orF, Fm.op, I64]) (by simp [orF, Fm.n, I64]) (SliceRep.nil _ _ _) h
theorem lv_bulk : ∀ c ∈ LV, c.body.bulk ≤ 900000 := by
  intro c hc
  simp only [LV, List.mem_cons, List.not_mem_nil, or_false] at hc
  rcases hc with rfl | rfl <;> simp [orF, clsF, Fm.bulk, fbulks]
/-- the state of the region that makes the formula wanted -/
def LvJ (w : World) : Pj.Inv := fun dn s wx => ∃ (H : PH) (b : Nat), Mem w (ph w) [if dn 5 then box b zeroFc 30 else nop] H wx ∧ (dn 5 = true → s 7 = .pointer (some ⟨b, 0, none⟩)) ∧
  (dn 0 = true → s 27 = .agg #[.int .i64 1, .int .i64 2, .slice none 0 0, .slice none 0 0]) ∧
  (dn 2 = true → ∃ g, s 29 = .slice (some ⟨g, 0, none⟩) 1 1 ∧ FmsR H (.slice (some ⟨g, 0, none⟩) 1 1) [orF]) ∧
  (dn 3 = true → ∃ g, s 30 = .agg #[.int .i64 5, .int .i64 0, .slice none 0 0, .slice (some ⟨g, 0, none⟩) 1 1] ∧ FmsR H (.slice (some ⟨g, 0, none⟩) 1 1) [orF]) ∧
  (dn 4 = true → ∃ g, s 31 = .agg #[.int .i64 4, .int .i64 0, .slice none 0 0, .slice (some ⟨g, 0, none⟩) 2 2] ∧ FmsR H (.slice (some ⟨g, 0, none⟩) 2 2) [clsF 2, or1])
set_option maxRecDepth 100000 in
set_option maxHeartbeats 4000000 in
theorem lives_c (w : World) : Calls Try.prog 14 #[] w (RetV w (.bool true)) := by
  have i5 : I64 5 := by simp [I64]
  have i4 : I64 4 := by simp [I64]
  go_enter Try.func14, Try.ntmps14
  go_wp2_with fail
  refine RetV_at (class_c 0 _) ?_
  intro w1 hx1
  go_wp2_with fail
  refine RetV_at (class_c 1 _) ?_
  intro w2 hx2
  go_wp2_with fail
  refine (of2_c (H := noH) 5 (clsF 0) (clsF 1) none 0 none 0 none 0 none 0 w2 i5 (noH_le _) (clsF_R _ (by simp [I64])) (clsF_R _ (by simp [I64]))).mono ?_
  rintro e w3 ⟨b, rfl, hx3, hk⟩
  have hM := ((((Mem.start w noH (noH_le _)).ext hx1).ext hx2).up hx3).new' #[.int .i64 5, .int .i64 0, .slice none 0 0, .slice (some ⟨b, 0, none⟩) 2 2] 30 (n := w3.heap.size) rfl
  simp only [List.nil_append] at hM
  have hOr := orF_R hk
  generalize up noH w2 w3 = H3 at *
  clear hx1 hx2 hx3 hk
  go_upto_region 2 with (fail)
  generalize w3.alloc _ = W at *
  generalize w3.heap.size = B1 at *
  obtain ⟨uc, -⟩ := (hM.box 0 rfl).facts
  have u0 : _ = some (Value.int .i64 5) := uc 0
  have u1 : _ = some (Value.int .i64 0) := uc 1
  have u2 : _ = some (Value.slice none 0 0) := uc 2
  have u3 : _ = some (Value.slice (some ⟨b, 0, none⟩) 2 2) := uc 3
  have ul := (hM.box 0 rfl).lt
  have hlW := hM.ple
  clear uc
  (refine wp_region_I 7 (by kernel_rfl) (by kernel_rfl) ?_; simp only [List.toList_toArray, List.take_succ_cons, List.take_zero, List.drop_succ_cons, List.drop_zero])
  (refine walkI_is (u := ?_) rfl (by simp) rfl ?_ ?_; rotate_left; (focus (intro A w' hS hA K hK; (simp only [List.map_cons, List.map_nil, knows, Is, Op.operands, Call.operands, List.lookup_cons, List.lookup_nil, Nat.reduceBEq, Bool.false_eq_true, if_false, if_true, Act.eval, Array.getD_eq_getD_getElem?, List.getElem?_toArray, List.getElem?_cons_succ, List.getElem?_cons_zero, Option.getD_some, and_true, true_and, List.append_toArray, List.nil_append, List.cons_append, List.toList_toArray, Array.toList_append, Option.toArray, List.append_nil] at hA); first | fail | (obtain ⟨hSc, hSf, hSs⟩ := hS.cells; go_simp; exact hK _ (by first | exact Ext.rfl' _ | exact Ext.new _ _ | assumption)))); (try simp only [List.nil_append, List.cons_append]))
  (refine walkI_is (u := ?_) rfl (by simp) rfl ?_ ?_; rotate_left; (focus (intro A w' hS hA K hK; (simp only [List.map_cons, List.map_nil, knows, Is, Op.operands, Call.operands, List.lookup_cons, List.lookup_nil, Nat.reduceBEq, Bool.false_eq_true, if_false, if_true, Act.eval, Array.getD_eq_getD_getElem?, List.getElem?_toArray, List.getElem?_cons_succ, List.getElem?_cons_zero, Option.getD_some, and_true, true_and, List.append_toArray, List.nil_append, List.cons_append, List.toList_toArray, Array.toList_append, Option.toArray, List.append_nil] at hA); first | fail | (obtain ⟨hSc, hSf, hSs⟩ := hS.cells; go_simp; exact hK _ (by first | exact Ext.rfl' _ | exact Ext.new _ _ | assumption)))); (try simp only [List.nil_append, List.cons_append]))
  (refine walkI_step (NewSl W #[.int .i64 0] 3 1) rfl (by simp) rfl (stab_NewSl _ _ _ _) ?_ ?_; (focus (intro A w' hS hA K hK; (simp only [List.map_cons, List.map_nil, knows, Is, Op.operands, Call.operands, List.lookup_cons, List.lookup_nil, Nat.reduceBEq, Bool.false_eq_true, if_false, if_true, Act.eval, Array.getD_eq_getD_getElem?, List.getElem?_toArray, List.getElem?_cons_succ, List.getElem?_cons_zero, Option.getD_some, and_true, true_and, List.append_toArray, List.nil_append, List.cons_append, List.toList_toArray, Array.toList_append, Option.toArray, List.append_nil] at hA); (have hs' := hS.size; go_simp; exact hK _ _ (Ext.new _ _) ⟨_, rfl, Own.new _ _ _, by omega⟩))); (try simp only [List.nil_append, List.cons_append]))
  (refine walkI_is (u := ?_) rfl (by simp) rfl ?_ ?_; rotate_left; (focus (intro A w' hS hA K hK; (simp only [List.map_cons, List.map_nil, knows, Is, Op.operands, Call.operands, List.lookup_cons, List.lookup_nil, Nat.reduceBEq, Bool.false_eq_true, if_false, if_true, Act.eval, Array.getD_eq_getD_getElem?, List.getElem?_toArray, List.getElem?_cons_succ, List.getElem?_cons_zero, Option.getD_some, and_true, true_and, List.append_toArray, List.nil_append, List.cons_append, List.toList_toArray, Array.toList_append, Option.toArray, List.append_nil] at hA); first | (go_simp; refine RetV_at (class_c 2 _) ?_; intro w'' hx''; exact hK _ hx'') | (obtain ⟨hSc, hSf, hSs⟩ := hS.cells; go_simp; exact hK _ (by first | exact Ext.rfl' _ | exact Ext.new _ _ | assumption)))); (try simp only [List.nil_append, List.cons_append]))
  (refine walkI_step ((fun v w' => ∃ g, v = .agg #[.slice (some ⟨g, 0, none⟩) 1 1, .int .i64 1, .int .i64 2, .slice none 0 0, .slice none 0 0] ∧ Own w' g #[.int .i64 0] 3)) rfl (by simp) rfl ((fun v w w' _ ⟨g, h1, h2⟩ e => ⟨g, h1, h2.keep e⟩)) ?_ ?_; (focus (intro A w' hS hA K hK; (simp only [List.map_cons, List.map_nil, knows, Is, Op.operands, Call.operands, List.lookup_cons, List.lookup_nil, Nat.reduceBEq, Bool.false_eq_true, if_false, if_true, Act.eval, Array.getD_eq_getD_getElem?, List.getElem?_toArray, List.getElem?_cons_succ, List.getElem?_cons_zero, Option.getD_some, and_true, true_and, List.append_toArray, List.nil_append, List.cons_append, List.toList_toArray, Array.toList_append, Option.toArray, List.append_nil] at hA); (obtain ⟨⟨g, hA1, hA2, -⟩, hA4⟩ := hA; go_simp; exact hK _ _ (Ext.rfl' _) ⟨g, rfl, hA2⟩))); (try simp only [List.nil_append, List.cons_append]))
  (refine walkI_step ((fun v w' => ClsR (ph w') v LV)) rfl (by simp) rfl ((fun v w w' _ h e => h.mono mono_ClR e.ple)) ?_ ?_; (focus (intro A w' hS hA K hK; (simp only [List.map_cons, List.map_nil, knows, Is, Op.operands, Call.operands, List.lookup_cons, List.lookup_nil, Nat.reduceBEq, Bool.false_eq_true, if_false, if_true, Act.eval, Array.getD_eq_getD_getElem?, List.getElem?_toArray, List.getElem?_cons_succ, List.getElem?_cons_zero, Option.getD_some, and_true, true_and, List.append_toArray, List.nil_append, List.cons_append, List.toList_toArray, Array.toList_append, Option.toArray, List.append_nil] at hA); (obtain ⟨hA4, g, hA1, hA2⟩ := hA; have hm := ((Mem.start w' (ph w') (fun _ _ h => h)).new' #[.slice none 0 0, .int .i64 5, .int .i64 0, .slice none 0 0, .slice (some ⟨b, 0, none⟩) 2 2, .slice (some ⟨g, 0, none⟩) 1 1, .int .i64 1, .int .i64 2, .slice none 0 0, .slice none 0 0] 43 (n := w'.heap.size) rfl).asOwn 0 rfl mono_ClR (sz := 5) (xs := LV) (n := 2) (by simp [LV]) (by simp [maxLen]) rfl ⟨_, _, rfl, rfl, ⟨_, _, rfl, SliceRep.nil _ _ _, mono_FmR _ _ _ _ (hlW.trans hS.ple) hOr⟩, _, [], rfl, rfl, ⟨_, _, rfl, ints1 hA2 (by simp [I64]), clsF_R _ (by simp [I64])⟩, rfl⟩; go_simp; exact hK _ _ (Ext.new _ _) (hm.rep 0 rfl)))); (try simp only [List.nil_append, List.cons_append]))
  (refine walkI_step ((fun v w' => ClsR (ph w') v LV)) rfl (by simp) rfl ((fun v w w' _ h e => h.mono mono_ClR e.ple)) ?_ ?_; (focus (intro A w' hS hA K hK; (simp only [List.map_cons, List.map_nil, knows, Is, Op.operands, Call.operands, List.lookup_cons, List.lookup_nil, Nat.reduceBEq, Bool.false_eq_true, if_false, if_true, Act.eval, Array.getD_eq_getD_getElem?, List.getElem?_toArray, List.getElem?_cons_succ, List.getElem?_cons_zero, Option.getD_some, and_true, true_and, List.append_toArray, List.nil_append, List.cons_append, List.toList_toArray, Array.toList_append, Option.toArray, List.append_nil] at hA); (go_simp; exact hK _ _ (Ext.rfl' _) hA))); (try simp only [List.nil_append, List.cons_append]))
  (refine walkI_nil ?_; simp only [List.nil_append, List.cons_append, fins, Is, forall_eq, Act.put, List.setIfInBounds_toArray, List.set_cons_zero, List.set_cons_succ])
  rintro w4 hx4 v13 - v15 - v16 - v2 hcl
  replace hM := hM.ext hx4
  clear u0 u1 u2 u3 ul hx4
  go_wp2_with fail
  refine (meaning_c _ LV 1 _ hcl lv_bulk).mono ?_
  rintro e w5 ⟨b3, d3, b4, d4, rfl, hx5, hF5⟩
  rw [lv_mean] at hF5 ⊢
  dsimp only at hF5 ⊢
  have o1 := (hM.box 0 rfl).keep hx5
  have hxw := hM.ex.then hx5
  replace hcl := hcl.mono mono_ClR hx5.ple
  have hO5 := mono_FmR _ _ _ _ (hM.ple.trans hx5.ple) hOr
  clear hM hOr hlW
  go_upto_region 4 with (fail)
  have e5 := Ext.new w5 (.cells #[.int .i64 wantF.op, .int .i64 wantF.n, .slice b3 wantF.inn.length d3, .slice b4 wantF.kids.length d4] 30)
  have o3 := Own.new w5 #[.int .i64 wantF.op, .int .i64 wantF.n, .slice b3 wantF.inn.length d3, .slice b4 wantF.kids.length d4] 30
  replace o1 := o1.keep e5
  replace hxw := hxw.then e5
  replace hcl := hcl.mono mono_ClR e5.ple
  replace hO5 := mono_FmR _ _ _ _ e5.ple hO5
  replace hF5 := mono_FmR _ _ _ _ e5.ple hF5
  generalize w5.alloc _ = w6 at *
  generalize w5.heap.size = B3 at *
  clear e5 hx5
  go_wp2_with fail
  refine (alts_c _ LV 1 _ hcl lv_bulk).mono ?_
  rintro e w7 ⟨v5, rfl, hx7, hA⟩
  rw [lv_alts] at hA ⊢
  dsimp only at hA ⊢
  replace o1 := o1.keep hx7
  replace o3 := o3.keep hx7
  replace hxw := hxw.then hx7
  replace hO5 := mono_FmR _ _ _ _ hx7.ple hO5
  replace hF5 := mono_FmR _ _ _ _ hx7.ple hF5
  clear hcl hx7
  go_upto_region 5 with (fail)
  obtain ⟨uc, -⟩ := o1.facts
  have u0 : _ = some (Value.int .i64 5) := uc 0
  have u1 : _ = some (Value.int .i64 0) := uc 1
  have u2 : _ = some (Value.slice none 0 0) := uc 2
  have u3 : _ = some (Value.slice (some ⟨b, 0, none⟩) 2 2) := uc 3
  have ul := o1.lt
  clear uc
  (refine Pj.wp_region_J 6 (LvJ w7) (by kernel_rfl) (by kernel_rfl) (⟨ph w7, 0, ((Mem.start w7 (ph w7) (fun _ _ h => h)).ext (Ext.rfl' w7).drew').pick [0] (by decide), by simp, by simp, by simp, by simp, by simp⟩) ?_; simp only [List.toList_toArray, List.take_succ_cons, List.take_zero, List.drop_succ_cons, List.drop_zero])
  (refine Pj.walkI_step rfl (by simp) rfl ?_ ?_; (focus (intro A w' dn hS hJ hd0 hdn hA K hK; (try simp only [List.map_cons, List.map_nil, Pj.knows, Pj.Is, Pj.Any, Op.operands, Call.operands, List.lookup_cons, List.lookup_nil, Nat.reduceBEq, Bool.false_eq_true, if_false, if_true, Act.eval, Array.getD_eq_getD_getElem?, List.getElem?_toArray, List.getElem?_cons_succ, List.getElem?_cons_zero, Option.getD_some, and_true, true_and, List.append_toArray, List.nil_append, List.cons_append, List.toList_toArray, Array.toList_append, Option.toArray, List.append_nil] at hA); (obtain ⟨H, b', i2, i7, j0, j2, j3, j4⟩ := hJ; go_simp; refine RetV_at (class_c 2 _) ?_; intro w'' hx''; exact hK _ _ (hS.then hx'') ⟨H, b', i2.ext hx'', i7, fun _ => rfl, j2, j3, j4⟩))); (try simp only [List.nil_append, List.cons_append]))
  (refine Pj.walkI_is (u := ?_) rfl (by simp) rfl (fun dn s w h => h) ?_ ?_; rotate_left; (focus (intro A w' dn hS hJ hdn hA K hK; (try simp only [List.map_cons, List.map_nil, Pj.knows, Pj.Is, Pj.Any, Op.operands, Call.operands, List.lookup_cons, List.lookup_nil, Nat.reduceBEq, Bool.false_eq_true, if_false, if_true, Act.eval, Array.getD_eq_getD_getElem?, List.getElem?_toArray, List.getElem?_cons_succ, List.getElem?_cons_zero, Option.getD_some, and_true, true_and, List.append_toArray, List.nil_append, List.cons_append, List.toList_toArray, Array.toList_append, Option.toArray, List.append_nil] at hA); first | fail | (obtain ⟨hSc, hSf, hSs⟩ := hS.cells; go_simp; exact hK))); (try simp only [List.nil_append, List.cons_append]))
  (refine Pj.walkI_step rfl (by simp) rfl ?_ ?_; (focus (intro A w' dn hS hJ hd0 hdn hA K hK; (try simp only [List.map_cons, List.map_nil, Pj.knows, Pj.Is, Pj.Any, Op.operands, Call.operands, List.lookup_cons, List.lookup_nil, Nat.reduceBEq, Bool.false_eq_true, if_false, if_true, Act.eval, Array.getD_eq_getD_getElem?, List.getElem?_toArray, List.getElem?_cons_succ, List.getElem?_cons_zero, Option.getD_some, and_true, true_and, List.append_toArray, List.nil_append, List.cons_append, List.toList_toArray, Array.toList_append, Option.toArray, List.append_nil] at hA); (obtain ⟨H, b', i2, i7, j0, j2, j3, j4⟩ := hJ; have hu := ple_up (w' := w'.alloc (.cells #[.int .i64 5, .int .i64 0, .slice none 0 0, .slice (some ⟨b, 0, none⟩) 2 2] 30)) i2.ple; have hm := ((Mem.start w' H i2.ple).new' #[.int .i64 5, .int .i64 0, .slice none 0 0, .slice (some ⟨b, 0, none⟩) 2 2] 30 (n := w'.heap.size) rfl).asOwn 0 rfl mono_FmR (sz := 4) (xs := [orF]) (n := 1) (by simp) (by simp [maxLen]) rfl ⟨_, [], rfl, rfl, mono_FmR _ _ _ _ i2.le hO5, rfl⟩; have hr := hm.repUp 0 rfl; go_simp; exact hK _ _ (hS.alloc' _) ⟨_, b', i2.up (Ext.new _ _), i7, j0, fun _ => ⟨_, rfl, hr⟩, fun h => (j3 h).imp fun g h => ⟨h.1, h.2.mono mono_FmR hu⟩, fun h => (j4 h).imp fun g h => ⟨h.1, h.2.mono mono_FmR hu⟩⟩))); (try simp only [List.nil_append, List.cons_append]))
  (refine Pj.walkI_step rfl (by simp) rfl ?_ ?_; (focus (intro A w' dn hS hJ hd0 hdn hA K hK; (try simp only [List.map_cons, List.map_nil, Pj.knows, Pj.Is, Pj.Any, Op.operands, Call.operands, List.lookup_cons, List.lookup_nil, Nat.reduceBEq, Bool.false_eq_true, if_false, if_true, Act.eval, Array.getD_eq_getD_getElem?, List.getElem?_toArray, List.getElem?_cons_succ, List.getElem?_cons_zero, Option.getD_some, and_true, true_and, List.append_toArray, List.nil_append, List.cons_append, List.toList_toArray, Array.toList_append, Option.toArray, List.append_nil] at hA); (obtain ⟨H, b', i2, i7, j0, j2, j3, j4⟩ := hJ; obtain ⟨g, e2, k2⟩ := j2 (hdn 2 (List.contains_iff_mem.1 (by kernel_rfl))); unfold Pj.sl at e2; simp only [Array.getD_eq_getD_getElem?] at e2; go_simp; exact hK _ _ hS ⟨H, b', i2, i7, j0, j2, fun _ => ⟨g, rfl, k2⟩, j4⟩))); (try simp only [List.nil_append, List.cons_append]))
  (refine Pj.walkI_step rfl (by simp) rfl ?_ ?_; (focus (intro A w' dn hS hJ hd0 hdn hA K hK; (try simp only [List.map_cons, List.map_nil, Pj.knows, Pj.Is, Pj.Any, Op.operands, Call.operands, List.lookup_cons, List.lookup_nil, Nat.reduceBEq, Bool.false_eq_true, if_false, if_true, Act.eval, Array.getD_eq_getD_getElem?, List.getElem?_toArray, List.getElem?_cons_succ, List.getElem?_cons_zero, Option.getD_some, and_true, true_and, List.append_toArray, List.nil_append, List.cons_append, List.toList_toArray, Array.toList_append, Option.toArray, List.append_nil] at hA); (obtain ⟨H, b', i2, i7, j0, j2, j3, j4⟩ := hJ; obtain ⟨g, e2, k2⟩ := j3 (hdn 3 (List.contains_iff_mem.1 (by kernel_rfl))); have e0 := j0 (hdn 0 (List.contains_iff_mem.1 (by kernel_rfl))); unfold Pj.sl at e2 e0; simp only [Array.getD_eq_getD_getElem?] at e2 e0; go_simp; refine (of2_c (H := H) 4 (clsF 2) or1 none 0 none 0 none 0 (some ⟨g, 0, none⟩) 1 w' i4 i2.ple (clsF_R _ (by simp [I64])) (FmR.of (by simp [or1, Fm.op, I64]) (by simp [or1, Fm.n, I64]) (SliceRep.nil _ _ _) k2)).mono ?_; rintro e w'' ⟨g2, rfl, hx'', hr''⟩; have hu := ple_up (w' := w'') i2.ple; exact hK _ _ (hS.then hx'') ⟨_, b', i2.up hx'', i7, j0, fun h => (j2 h).imp fun g h => ⟨h.1, h.2.mono mono_FmR hu⟩, fun h => (j3 h).imp fun g h => ⟨h.1, h.2.mono mono_FmR hu⟩, fun _ => ⟨g2, rfl, hr''⟩⟩))); (try simp only [List.nil_append, List.cons_append]))
  (refine Pj.walkI_step rfl (by simp) rfl ?_ ?_; (focus (intro A w' dn hS hJ hd0 hdn hA K hK; (try simp only [List.map_cons, List.map_nil, Pj.knows, Pj.Is, Pj.Any, Op.operands, Call.operands, List.lookup_cons, List.lookup_nil, Nat.reduceBEq, Bool.false_eq_true, if_false, if_true, Act.eval, Array.getD_eq_getD_getElem?, List.getElem?_toArray, List.getElem?_cons_succ, List.getElem?_cons_zero, Option.getD_some, and_true, true_and, List.append_toArray, List.nil_append, List.cons_append, List.toList_toArray, Array.toList_append, Option.toArray, List.append_nil] at hA); (obtain ⟨H, b', i2, i7, j0, j2, j3, j4⟩ := hJ; have hd5 : dn 5 = false := hd0; rw [hd5] at i2; have i3 := i2.fillNop 0 rfl (Ext.new w' (.cells zeroFc 30)) (Own.new w' zeroFc 30) (Nat.le_refl _); go_simp; exact hK _ _ (hS.alloc' _) ⟨H, w'.heap.size, i3, fun _ => rfl, j0, j2, j3, j4⟩))); (try simp only [List.nil_append, List.cons_append]))
  (refine Pj.walkI_nil ?_; simp only [List.nil_append, List.cons_append, Pj.fins, Pj.Is, Pj.Any, forall_eq, true_implies, Act.put, List.setIfInBounds_toArray, List.set_cons_zero, List.set_cons_succ])
  intro w8 hx8 v27 v29 v30 v31 v7 hJ
  obtain ⟨H, b7, i2, i7, -, -, -, j4⟩ := hJ
  have e7 : v7 = .pointer (some ⟨b7, 0, none⟩) := i7 rfl
  obtain ⟨g4, e31, hR⟩ := j4 rfl
  have e31' : v31 = .agg #[.int .i64 4, .int .i64 0, .slice none 0 0, .slice (some ⟨g4, 0, none⟩) 2 2] := e31
  have hM : Mem w7 (ph w7) [box b7 zeroFc 30] H w8 := i2
  clear i2 i7 j4 e31 u0 u1 u2 u3 ul
  subst e7 e31'
  obtain ⟨va, vc, rfl, -, hA⟩ := hA.form
  obtain ⟨uc, uf⟩ := (hM.box 0 rfl).facts
  have u0 : _ = some (Value.int .i64 0) := uc 0
  have u1 : _ = some (Value.int .i64 0) := uc 1
  have u2 : _ = some (Value.slice none 0 0) := uc 2
  have u3 : _ = some (Value.slice none 0 0) := uc 3
  have ul := (hM.box 0 rfl).lt
  have hM9 := hM.set4 0 rfl (.int .i64 4) (.int .i64 0) (.slice none 0 0) (.slice (some ⟨g4, 0, none⟩) 2 2)
  simp only [List.set_cons_zero] at hM9
  clear uc hM
  go_upto_region 6 with (fail)
  generalize ((((w8.setCell _ _).setCell _ _).setCell _ _).setCell _ _) = w9 at *
  have hx9 := hM9.ex
  have hW9 : FmR (ph w9) [.int .i64 4, .int .i64 0, .slice none 0 0, .slice (some ⟨g4, 0, none⟩) 2 2] wantF := mono_FmR _ _ _ _ hM9.ple (FmR.of (f := wantF) (a3 := none) (c3 := 0) (a4 := some ⟨g4, 0, none⟩) (c4 := 2) (by simp [wantF, Fm.op, I64]) (by simp [wantF, Fm.n, I64]) (SliceRep.nil _ _ _) hR)
  replace hF5 := mono_FmR _ _ _ _ hx9.ple hF5
  replace hA := hA.mono mono_FmR hx9.ple
  replace o3 := o3.keep hx9
  replace hxw := hxw.then hx9
  clear u0 u1 u2 u3 ul uf
  obtain ⟨uc, -⟩ := o3.facts
  have u0 : _ = some (Value.int .i64 wantF.op) := uc 0
  have u1 : _ = some (Value.int .i64 wantF.n) := uc 1
  have u2 : _ = some (Value.slice b3 wantF.inn.length d3) := uc 2
  have u3 : _ = some (Value.slice b4 wantF.kids.length d4) := uc 3
  have ul := o3.lt
  obtain ⟨tc, -⟩ := (hM9.box 0 rfl).facts
  have t0 : _ = some (Value.int .i64 4) := tc 0
  have t1 : _ = some (Value.int .i64 0) := tc 1
  have t2 : _ = some (Value.slice none 0 0) := tc 2
  have t3 : _ = some (Value.slice (some ⟨g4, 0, none⟩) 2 2) := tc 3
  have tl := (hM9.box 0 rfl).lt
  have hwb : wantF.bulk ≤ 100000 := by simp [wantF, or1, orF, clsF, Fm.bulk, fbulks]
  clear uc tc hM9 hR
  go_wp2_with fail
  refine RetV_at (rsame_c wantF wantF _ _ _ hF5 hW9 hwb hwb) ?_
  intro wa hxa
  rw [show B (wantF = wantF) = true from B_iff.2 rfl]
  replace hA := hA.mono mono_FmR hxa.ple
  replace hxw := hxw.then hxa
  clear hF5 hW9 o3 hxa u0 u1 u2 u3 ul t0 t1 t2 t3 tl
  go_wp2_with fail
  refine RetV_at (class_c 0 _) ?_
  intro wb hxb
  go_wp2_with fail
  refine RetV_at (class_c 2 _) ?_
  intro wc hxc
  go_wp2_with fail
  refine (of2_c (H := noH) 4 (clsF 0) (clsF 2) none 0 none 0 none 0 none 0 wc i4 (noH_le _) (clsF_R _ (by simp [I64])) (clsF_R _ (by simp [I64]))).mono ?_
  rintro e wd ⟨gd, rfl, hxd, hkd⟩
  go_wp2_with fail
  refine RetV_at (class_c 1 _) ?_
  intro we hxe
  go_wp2_with fail
  refine RetV_at (class_c 2 _) ?_
  intro wf hxf
  go_wp2_with fail
  refine (of2_c (H := noH) 4 (clsF 1) (clsF 2) none 0 none 0 none 0 none 0 wf i4 (noH_le _) (clsF_R _ (by simp [I64])) (clsF_R _ (by simp [I64]))).mono ?_
  rintro e wg ⟨gg, rfl, hxg, hkg⟩
  have hxx := ((hxb.then hxc).then hxd).then ((hxe.then hxf).then hxg)
  have hk1 : FmsR (ph wg) (.slice (some ⟨gd, 0, none⟩) 2 2) [clsF 0, clsF 2] := (hkd.mono mono_FmR (fun k o hk => by
    unfold up at hk; split at hk
    · cases hk
    · exact hk)).mono mono_FmR ((hxe.then hxf).then hxg).ple
  have hk2 : FmsR (ph wg) (.slice (some ⟨gg, 0, none⟩) 2 2) [clsF 1, clsF 2] := hkg.mono mono_FmR (fun k o hk => by
    unfold up at hk; split at hk
    · cases hk
    · exact hk)
  have f1 : FmR (ph wg) [.int .i64 4, .int .i64 0, .slice none 0 0, .slice (some ⟨gd, 0, none⟩) 2 2] (.mk 4 0 [] [clsF 0, clsF 2]) := FmR.of (f := .mk 4 0 [] [clsF 0, clsF 2]) (a3 := none) (c3 := 0) (a4 := some ⟨gd, 0, none⟩) (c4 := 2) (by simp [Fm.op, I64]) (by simp [Fm.n, I64]) (SliceRep.nil _ _ _) hk1
  have f2 : FmR (ph wg) [.int .i64 4, .int .i64 0, .slice none 0 0, .slice (some ⟨gg, 0, none⟩) 2 2] (.mk 4 0 [] [clsF 1, clsF 2]) := FmR.of (f := .mk 4 0 [] [clsF 1, clsF 2]) (a3 := none) (c3 := 0) (a4 := some ⟨gg, 0, none⟩) (c4 := 2) (by simp [Fm.op, I64]) (by simp [Fm.n, I64]) (SliceRep.nil _ _ _) hk2
  have hm := ((Mem.start wg (ph wg) (fun _ _ h => h)).new' #[.int .i64 4, .int .i64 0, .slice none 0 0, .slice (some ⟨gd, 0, none⟩) 2 2, .int .i64 4, .int .i64 0, .slice none 0 0, .slice (some ⟨gg, 0, none⟩) 2 2] 30 (n := wg.heap.size) rfl).asOwn 0 rfl mono_FmR (sz := 4) (xs := wantA) (n := 2) (by simp [wantA]) (by simp [maxLen]) rfl ⟨_, _, rfl, rfl, f1, _, [], rfl, rfl, f2, rfl⟩
  have hr := hm.rep 0 rfl
  have hA2 := hA.mono mono_FmR (hxx.then hm.ex).ple
  have hsl := Lib.hid (fun W (e : Ext _ W) => samelist_c wantA wantA _ _ W (hA2.mono mono_FmR e.ple) (hr.mono mono_FmR e.ple) (by simp [wantA, clsF, sumN, Fm.bulk, fbulks]) (by simp [wantA, clsF, sumN, Fm.bulk, fbulks]))
  replace hxw := hxw.then (hxx.then hm.ex)
  clear hm hr hA2 hA hk1 hk2 f1 f2 hkd hkg hxb hxc hxd hxe hxf hxg hxx
  go_wp2_with fail
  refine RetV_at (hsl.out _ (Ext.rfl' _)) ?_
  intro wh hxh
  rw [show B True = true from B_iff.2 trivial]
  go_wp2_with fail
  go_ret
  exact ⟨rfl, hxw.then hxh⟩
end Go.Proofs.Ytdpdpjimmfajgaa
namespace Go.Proofs.Ytdpdpjimmfajgaa
open Go.RowKit Go.Shelf
set_option linter.unusedSimpArgs false
set_option linter.unusedVariables false
/-- a call's own memory joins its caller's -/
theorem Mem.join {w W w2 : World} {H0 H3 H : PH} {L Li : List Chunk} (hN : Mem w H0 L H3 W) (hI : Mem W H3 Li H w2) : Mem w H0 (L ++ Li) H w2 := by
  have hw := hN.ex.size
  have get : ∀ {i : Nat} {c : Chunk}, (L ++ Li)[i]? = some c → (i < L.length ∧ L[i]? = some c) ∨ (L.length ≤ i ∧ Li[i - L.length]? = some c) := by
    intro i c h
    by_cases hi : i < L.length
    · rw [List.getElem?_append_left hi] at h; exact .inl ⟨hi, h⟩
    · rw [List.getElem?_append_right (by omega)] at h; exact .inr ⟨by omega, h⟩
  refine ⟨hN.l0, hN.le.trans hI.le, hI.ub.trans ((up_mono hN.ub).trans (up_up hN.ex hI.ex)), hN.ex.then hI.ex, fun i c hi => ?_, fun i c hi k hk => ?_, fun i j c d hij hi hj k hk hk' => ?_⟩
  · rcases get hi with ⟨-, h⟩ | ⟨-, h⟩
    · exact c.mono (c.loc (hN.ok _ c h) fun k hk => hI.ex.block k (hN.lt h hk)) hI.le
    · exact hI.ok _ c h
  · rcases get hi with ⟨-, h⟩ | ⟨-, h⟩
    · refine ⟨(hN.fr _ c h k hk).1, ?_⟩
      cases hx : H k with
      | none => rfl
      | some o =>
        have h1 := hI.ub k o hx
        unfold Proofs.Ytdpdpjimmfajgaa.up at h1
        rw [if_pos (hN.lt h hk), (hN.fr _ c h k hk).2] at h1
        cases h1
    · have := hI.fr _ c h k hk
      exact ⟨by omega, this.2⟩
  · rcases get hi with ⟨g1, h1⟩ | ⟨g1, h1⟩ <;> rcases get hj with ⟨g2, h2⟩ | ⟨g2, h2⟩
    · exact hN.ap i j c d hij h1 h2 k hk hk'
    · have := hN.lt h1 hk; have := (hI.fr _ d h2 k hk').1; omega
    · have := (hI.fr _ c h1 k hk).1; have := hN.lt h2 hk'; omega
    · exact hI.ap _ _ c d (by omega) h1 h2 k hk hk'
theorem dn_no {dn : Nat → Bool} {i j : Nat} (h : dn j = true → dn i = true) (hi : dn i = false) : dn j = false := by
  cases hj : dn j with
  | true => rw [h hj] at hi; cases hi
  | false => rfl
/-- an empty literal takes a free place -/
theorem Mem.litNop {w0 w : World} {H0 H : PH} {L : List Chunk} (h : Mem w0 H0 L H w) (i : Nat) (hi : L[i]? = some nop) {α : Type} {E : PH → List Value → α → Prop} (hm : Mono E) (sz : Nat) (T : TypeId) : Mem w0 H0 (L.set i (own hm sz T (.slice (some ⟨w.heap.size, 0, none⟩) 0 0) ([] : List α))) H (w.alloc (.cells #[] T)) :=
  h.put i hi (c' := own hm sz T (.slice (some ⟨w.heap.size, 0, none⟩) 0 0) ([] : List α)) (.inr ⟨w.heap.size, 0, #[], rfl, Own.new w _ _, Nat.le_refl _, by simp [maxLen], by simp, by simp [Cells]⟩) (fun k hk => .inr (by cases hk; exact Nat.le_refl _)) (h.ex.then (Ext.new w _)) fun k hk _ => (Ext.new w (.cells #[] T)).block k hk
/-- the state of the region that makes the formula of both -/
def RBJ (W : World) (H3 : PH) (pa pb : List Fm) : Pj.Inv := fun dn s wx => ∃ (H : PH) (b : Nat),
  Mem W H3 [if dn 14 then box b zeroFc 30 else nop, if dn 12 then own mono_FmR 4 30 (s 91) (pa ++ pb) else if dn 6 then own mono_FmR 4 30 (s 85) pa else if dn 0 then own mono_FmR 4 30 (s 79) ([] : List Fm) else nop] H wx ∧
  (dn 6 = true → dn 0 = true) ∧ (dn 12 = true → dn 6 = true) ∧ (dn 14 = true → s 13 = .pointer (some ⟨b, 0, none⟩)) ∧
  (dn 5 = true → FmsR H (s 84) pa) ∧ (dn 11 = true → FmsR H (s 90) pb) ∧ (dn 13 = true → dn 12 = true ∧ s 92 = .agg #[.int .i64 4, .int .i64 0, .slice none 0 0, s 91])
set_option maxRecDepth 100000 in
set_option maxHeartbeats 8000000 in
theorem ralts_c {H0 : PH} (v : Value) (l : List Cl) (hv : validC l = 0) (i : Nat) : ∀ (w : World), PLe H0 (ph w) → ClsR H0 v l → i < l.length → Calls Try.prog 31 #[v, .int .i64 i] w (AltP w H0 (altC l i)) := by
  induction i using Nat.strongRecOn with
  | ind i ih =>
    intro w hH hr hi
    have hr' := hr
    obtain ⟨a, c, rfl, hlen, hr⟩ := hr.form
    obtain ⟨b, o, a1, c1, a3, c3, a4, c4, rfl, h0, h1, h2, h3, h4, hbl, hrl, hrf, hE⟩ := ClsR.atH hr hH i hi
    obtain ⟨v1, v2, v3⟩ := (validC_0 hv).2 i hi
    have hal := altC_eq hv i hi
    have hBd : ∀ r ∈ l[i].refs, 0 ≤ r ∧ r < i := fun r hr => by have := refsB_mem v2 r hr; omega
    have hcall : ∀ r ∈ l[i].refs, ∀ W, PLe H0 (ph W) → Calls Try.prog 31 #[.slice (some ⟨b, o, none⟩) l.length c, .int .i64 r] W (AltP W H0 (at? (altsL l) r)) := by
      intro r hr1 W hW
      have g1 := hBd r hr1
      have g2 := ih r.toNat (by omega) W hW hr' (by omega)
      rw [show ((r.toNat : Nat) : Int) = r by omega] at g2
      have e : altC l r.toNat = at? (altsL l) r := by unfold altC at?; rw [Int.toNat_natCast]
      rw [e] at g2
      exact g2
    have hav := fun r fs => alts_valid hv (r := r) (fs := fs)
    have hbody := valid_bulk v3
    obtain ⟨w1', w2', w3'⟩ := validF_0 v3
    have htl := topsF_len l[i].body
    have htv : ∀ f ∈ topsF l[i].body, validF f = 0 := fun f hf => validF_pre v3 (topsF_mem _ f hf)
    have hao : altC l i = if l[i].refs = [] then (if (topsF l[i].body).length ≤ 64 then some (topsF l[i].body) else none) else altGo (altsL l) (topsF l[i].body) [] l[i].refs := hal
    replace hao := Lib.hid hao
    replace hcall := Lib.hid hcall
    clear ih hal hr hr' v2
    have hrp := Lib.hid (rtops_c l[i].body _ w hH hE (by omega))
    generalize altsL l = ms at *
    generalize l[i] = x at *
    unfold fmC at hrp
    go_enter Try.func31, Try.ntmps31
    go_wp2_with fail
    refine hrp.out.mono ?_
    rintro e w1 ⟨v6, rfl, hx1, hT⟩
    have hM := ((Mem.start w H0 hH).up hx1).nil mono_FmR 4 30
    simp only [List.nil_append] at hM
    obtain ⟨ta, tc, rfl, -, hT⟩ := hT.form
    generalize up H0 w w1 = H1 at *
    generalize topsF x.body = ts at *
    have hts : ts.length ≤ 96 := by omega
    have q0 := hM.ex.cell1 h0
    have ql := cell_lt q0
    clear hrp
    by_cases hre : x.refs = []
    · have b1' : ((x.refs.length : Int) == 0) = true := by rw [hre]; rfl
      have hao2 : Hid (altC l i = if ts.length ≤ 64 then some ts else none) := by show _ = _; rw [hao.out, if_pos hre]
      clear hao hre hcall
      go_wp2_with fail
      refine bodyPost_ret (v := .tuple #[(.slice ta ts.length tc), .bool (decide ((ts.length : Int) ≤ 64))]) (by simp [results, Try.results31, go_sem]) rfl ?_
      refine ⟨.slice ta ts.length tc, ?_, hM.ex, fun l' h => ?_⟩
      · rw [hao2.out]; split <;> (simp; omega)
      · rw [hao2.out] at h
        split at h
        · cases h; exact hT.mono mono_FmR hM.ub
        · cases h
    · have b1' : ((x.refs.length : Int) == 0) = false := by
        have := List.length_pos_iff.2 hre
        simp; omega
      have hao2 : Hid (altC l i = altGo ms ts [] x.refs) := by show _ = _; rw [hao.out, if_neg hre]
      clear hao hre
      go_wp2_with fail
      clear q0 ql
      go_loopw [7, 8] (fun ov vi wr => ∃ (k : Nat) (out : List Fm) (H : PH), k ≤ x.refs.length ∧ vi = .int .i64 k ∧ Hid (altC l i = altGo ms ts out (x.refs.drop k)) ∧ out.length ≤ 64 ∧ PLe H1 H ∧ Mem w H0 [own mono_FmR 4 30 ov out] H wr) (fun _ vi _ => x.refs.length - (intOf vi).toNat)
      case atStart => exact ⟨0, [], H1, Nat.zero_le _, rfl, hao2, by simp, (fun _ _ h => h), hM⟩
      case round =>
        clear hM hao2
        obtain ⟨k, out, H, hk, rfl, hgo, hol, hH1, hN⟩ := hrel
        obtain ⟨oa, oc, rfl, -⟩ := hN.form 0 rfl
        have q0 := hN.ex.cell1 h0
        have ql := cell_lt q0
        by_cases hlt : k < x.refs.length
        · obtain ⟨rb, ro, hra, r0, ri, rbl⟩ := IntsR.at (hrf.mono mono_IntR (hN.le.trans hN.ple)) k hlt
          have hst : x.refs.drop k = x.refs[k] :: x.refs.drop (k + 1) := List.drop_eq_getElem_cons hlt
          rw [hst] at hgo
          have hmk := hav x.refs[k]
          have hci := Lib.hid (hcall.out _ (List.getElem_mem hlt) wr (hN.le.trans hN.ple))
          subst hra
          generalize x.refs[k] = r at *
          clear hst
          go_wp2_with fail
          refine hci.out.mono ?_
          rintro e w2 ⟨v9, rfl, hx2, hF⟩
          have hN2 := hN.up hx2
          have hH2 := hH1.trans (ple_up (w' := w2) hN.ple)
          have hF2 := fun fs h => (hF fs h).mono mono_FmR (up_mono (w := wr) (w' := w2) hN.le)
          clear hN hH1 hF hci q0 ql r0
          generalize up H wr w2 = H2 at *
          cases hq : at? ms r with
          | none =>
            have hno : Hid (altC l i = none) := by show _ = _; rw [hgo.out, altGo, hq]
            clear hgo hq hmk hF2
            go_wp2_with fail
            refine bodyPost_ret (v := .tuple #[(.slice none 0 0), .bool false]) (by simp [results, Try.results31, go_sem]) rfl ?_
            exact ⟨_, by rw [hno.out]; rfl, hN2.ex, fun l' h => by rw [hno.out] at h; cases h⟩
          | some lr =>
            obtain ⟨m1, m2⟩ := hmk lr hq
            obtain ⟨la, lc, rfl, -, gR⟩ := (hF2 lr hq).form
            have hgo2 : Hid (altC l i = if 64 < out.length + lr.length * ts.length then none else if (prodsF lr ts).all (fun f => decide (validF f = 0)) then altGo ms ts (out ++ prodsF lr ts) (x.refs.drop (k + 1)) else none) := by show _ = _; rw [hgo.out, altGo, hq]
            have hmul : lr.length * ts.length ≤ 64 * 96 := Nat.mul_le_mul m1 hts
            obtain ⟨pr, hpr⟩ : ∃ pr : Nat, pr = lr.length * ts.length := ⟨_, rfl⟩
            have hpi : (lr.length : Int) * (ts.length : Int) = (pr : Int) := by rw [hpr]; simp
            rw [← hpr] at hgo2 hmul
            have hpw : IntKind.i64.wrap ((lr.length : Int) * (ts.length : Int)) = (pr : Int) := by rw [hpi]; exact wrap_id (by omega) (by omega)
            have hpw2 : IntKind.i64.wrap ((out.length : Int) + (pr : Int)) = (out.length : Int) + (pr : Int) := wrap_id (by omega) (by omega)
            replace hpr := Lib.hid hpr
            clear hgo hq hmk hF2
            by_cases h64 : 64 < out.length + pr
            · have b64 : decide (64 < (out.length : Int) + (pr : Int)) = true := by simp; omega
              have hno : Hid (altC l i = none) := by show _ = _; rw [hgo2.out, if_pos h64]
              clear hgo2
              go_wp2_with fail
              refine bodyPost_ret (v := .tuple #[(.slice none 0 0), .bool false]) (by simp [results, Try.results31, go_sem]) rfl ?_
              exact ⟨_, by rw [hno.out]; rfl, hN2.ex, fun l' h => by rw [hno.out] at h; cases h⟩
            · have b64 : decide (64 < (out.length : Int) + (pr : Int)) = false := by simp; omega
              have hgo3 : Hid (altC l i = if (prodsF lr ts).all (fun f => decide (validF f = 0)) then altGo ms ts (out ++ prodsF lr ts) (x.refs.drop (k + 1)) else none) := by show _ = _; rw [hgo2.out, if_neg h64]
              clear hgo2
              go_wp2_with fail
              go_loopw [7, 11] (fun ov vi wx => ∃ (i' : Nat) (out2 : List Fm) (H3 : PH), i' ≤ lr.length ∧ vi = .int .i64 i' ∧ Hid (out2 = out ++ prodsF (lr.take i') ts ∧ (prodsF (lr.take i') ts).all (fun f => decide (validF f = 0)) = true) ∧ out2.length ≤ 64 ∧ PLe H2 H3 ∧ Mem w H0 [own mono_FmR 4 30 ov out2] H3 wx) (fun _ vi _ => lr.length - (intOf vi).toNat)
              case atStart => exact ⟨0, out, H2, Nat.zero_le _, rfl, Lib.hid ⟨by simp [prodsF], by simp [prodsF]⟩, hol, (fun _ _ h => h), hN2⟩
              case round =>
                clear hN2
                obtain ⟨i', out2, H3, hi', rfl, ho2, hol2, hH3, hN⟩ := hrel
                obtain ⟨oa2, oc2, rfl, -⟩ := hN.form 0 rfl
                by_cases hlti : i' < lr.length
                · have hva := m2 _ (List.getElem_mem hlti)
                  have hAb := valid_bulk hva
                  have hsn := Lib.hid (prodsF_snoc lr i' hlti ts)
                  have hin : Hid (∀ b ∈ ts, bothF lr[i'] b ∈ prodsF lr ts) := Lib.hid fun b hb => List.mem_flatMap.2 ⟨lr[i'], List.getElem_mem hlti, List.mem_map.2 ⟨b, hb, rfl⟩⟩
                  have hga := Lib.hid (fun (W : World) (hW : PLe H2 (ph W)) => FmsR.atH gR hW i' hlti)
                  generalize lr[i'] = fa at *
                  go_wp2_with fail
                  go_loopw [7, 12] (fun ov vj wy => ∃ (j : Nat) (out3 : List Fm) (H4 : PH), j ≤ ts.length ∧ vj = .int .i64 j ∧ Hid (out3 = out2 ++ (ts.take j).map (bothF fa) ∧ ((ts.take j).map (bothF fa)).all (fun f => decide (validF f = 0)) = true) ∧ out3.length ≤ 64 + j ∧ PLe H2 H4 ∧ Mem w H0 [own mono_FmR 4 30 ov out3] H4 wy) (fun _ vj _ => ts.length - (intOf vj).toNat)
                  case atStart => exact ⟨0, out2, H3, Nat.zero_le _, rfl, Lib.hid ⟨by simp, by simp⟩, by omega, hH3, hN⟩
                  case round =>
                    clear hN hH3
                    obtain ⟨j, out3, H4, hj, rfl, ho3, hol3, hH4, hN⟩ := hrel
                    obtain ⟨oa3, oc3, rfl, -⟩ := hN.form 0 rfl
                    by_cases hltj : j < ts.length
                    · obtain ⟨ab, ao, p3, e3, p4, e4, hla, q0, q1, q2, q3, qR, qbl⟩ := hga.out _ (hH4.trans hN.ple)
                      obtain ⟨gb, go, r3, f3, r4, f4, hta, s0, s1, s2, s3, hRB, gbl⟩ := FmsR.atH hT ((hH2.trans hH4).trans hN.ple) j hltj
                      have hvb := htv _ (List.getElem_mem hltj)
                      have hBb := valid_bulk hvb
                      have htk : Hid ((ts.take (j + 1)).map (bothF fa) = (ts.take j).map (bothF fa) ++ [bothF fa ts[j]]) := by show _ = _; rw [List.take_succ_eq_append_getElem hltj, List.map_append]; rfl
                      have hinB := hin.out _ (List.getElem_mem hltj)
                      subst hla hta
                      generalize ts[j] = fb at *
                      unfold fmC at qR hRB
                      have hRA := mono_FmR _ _ _ _ hH4 qR
                      have hRB4 := mono_FmR _ _ _ _ (hH2.trans hH4) hRB
                      have hpa := parts_len hva
                      have hpb := parts_len hvb
                      go_upto_region 17 with (fail)
                      have hI0 := ((Mem.start wr H4 hN.ple).ext (Ext.rfl' wr).drew').pick [0, 1] (by decide)
                      simp only [List.map_cons, List.map_nil, List.getElem?_nil, Option.getD_none] at hI0
                      (refine Pj.wp_region_J 15 (RBJ wr H4 (partsF fa) (partsF fb)) (by kernel_rfl) (by kernel_rfl) (⟨H4, 0, hI0, by simp, by simp, by simp, by simp, by simp, by simp⟩) ?_; simp only [List.toList_toArray, List.take_succ_cons, List.take_zero, List.drop_succ_cons, List.drop_zero])
                      clear hI0
                      (refine Pj.walkI_step rfl (by simp) rfl ?_ ?_; (focus (intro A w' dn hS hJ hd0 hdn hA K hK; (try simp only [List.map_cons, List.map_nil, Pj.knows, Pj.Is, Pj.Any, Op.operands, Call.operands, List.lookup_cons, List.lookup_nil, Nat.reduceBEq, Bool.false_eq_true, if_false, if_true, Act.eval, Array.getD_eq_getD_getElem?, List.getElem?_toArray, List.getElem?_cons_succ, List.getElem?_cons_zero, Option.getD_some, and_true, true_and, List.append_toArray, List.nil_append, List.cons_append, List.toList_toArray, Array.toList_append, Option.toArray, List.append_nil] at hA); (obtain ⟨H, b', i1, c6, c12, i14, j5, j11, j13⟩ := hJ; have d0 : dn 0 = false := hd0; have d6 := dn_no c6 d0; have d12 := dn_no c12 d6; rw [d12, d6, d0] at i1; have i2 := i1.litNop 1 rfl mono_FmR 4 30; go_simp; exact hK _ _ (hS.alloc' _) ⟨H, b', by simpa [Pj.upd, Pj.sput, d12, d6] using i2, fun h => by simp [Pj.upd], c12, i14, j5, j11, j13⟩))); (try simp only [List.nil_append, List.cons_append]))
                      (refine Pj.walkI_is (u := ?_) rfl (by simp) rfl (fun dn s w h => h) ?_ ?_; rotate_left; (focus (intro A w' dn hS hJ hdn hA K hK; (try simp only [List.map_cons, List.map_nil, Pj.knows, Pj.Is, Pj.Any, Op.operands, Call.operands, List.lookup_cons, List.lookup_nil, Nat.reduceBEq, Bool.false_eq_true, if_false, if_true, Act.eval, Array.getD_eq_getD_getElem?, List.getElem?_toArray, List.getElem?_cons_succ, List.getElem?_cons_zero, Option.getD_some, and_true, true_and, List.append_toArray, List.nil_append, List.cons_append, List.toList_toArray, Array.toList_append, Option.toArray, List.append_nil] at hA); first | fail | (obtain ⟨hSc, hSf, hSs⟩ := hS.cells; go_simp; exact hK))); (try simp only [List.nil_append, List.cons_append]))
                      (refine Pj.walkI_is (u := ?_) rfl (by simp) rfl (fun dn s w h => h) ?_ ?_; rotate_left; (focus (intro A w' dn hS hJ hdn hA K hK; (try simp only [List.map_cons, List.map_nil, Pj.knows, Pj.Is, Pj.Any, Op.operands, Call.operands, List.lookup_cons, List.lookup_nil, Nat.reduceBEq, Bool.false_eq_true, if_false, if_true, Act.eval, Array.getD_eq_getD_getElem?, List.getElem?_toArray, List.getElem?_cons_succ, List.getElem?_cons_zero, Option.getD_some, and_true, true_and, List.append_toArray, List.nil_append, List.cons_append, List.toList_toArray, Array.toList_append, Option.toArray, List.append_nil] at hA); first | fail | (obtain ⟨hSc, hSf, hSs⟩ := hS.cells; go_simp; exact hK))); (try simp only [List.nil_append, List.cons_append]))
                      (refine Pj.walkI_is (u := ?_) rfl (by simp) rfl (fun dn s w h => h) ?_ ?_; rotate_left; (focus (intro A w' dn hS hJ hdn hA K hK; (try simp only [List.map_cons, List.map_nil, Pj.knows, Pj.Is, Pj.Any, Op.operands, Call.operands, List.lookup_cons, List.lookup_nil, Nat.reduceBEq, Bool.false_eq_true, if_false, if_true, Act.eval, Array.getD_eq_getD_getElem?, List.getElem?_toArray, List.getElem?_cons_succ, List.getElem?_cons_zero, Option.getD_some, and_true, true_and, List.append_toArray, List.nil_append, List.cons_append, List.toList_toArray, Array.toList_append, Option.toArray, List.append_nil] at hA); first | fail | (obtain ⟨hSc, hSf, hSs⟩ := hS.cells; go_simp; exact hK))); (try simp only [List.nil_append, List.cons_append]))
                      (refine Pj.walkI_is (u := ?_) rfl (by simp) rfl (fun dn s w h => h) ?_ ?_; rotate_left; (focus (intro A w' dn hS hJ hdn hA K hK; (try simp only [List.map_cons, List.map_nil, Pj.knows, Pj.Is, Pj.Any, Op.operands, Call.operands, List.lookup_cons, List.lookup_nil, Nat.reduceBEq, Bool.false_eq_true, if_false, if_true, Act.eval, Array.getD_eq_getD_getElem?, List.getElem?_toArray, List.getElem?_cons_succ, List.getElem?_cons_zero, Option.getD_some, and_true, true_and, List.append_toArray, List.nil_append, List.cons_append, List.toList_toArray, Array.toList_append, Option.toArray, List.append_nil] at hA); first | fail | (obtain ⟨hSc, hSf, hSs⟩ := hS.cells; go_simp; exact hK))); (try simp only [List.nil_append, List.cons_append]))
                      (refine Pj.walkI_step rfl (by simp) rfl ?_ ?_; (focus (intro A w' dn hS hJ hd0 hdn hA K hK; (try simp only [List.map_cons, List.map_nil, Pj.knows, Pj.Is, Pj.Any, Op.operands, Call.operands, List.lookup_cons, List.lookup_nil, Nat.reduceBEq, Bool.false_eq_true, if_false, if_true, Act.eval, Array.getD_eq_getD_getElem?, List.getElem?_toArray, List.getElem?_cons_succ, List.getElem?_cons_zero, Option.getD_some, and_true, true_and, List.append_toArray, List.nil_append, List.cons_append, List.toList_toArray, Array.toList_append, Option.toArray, List.append_nil] at hA); (obtain ⟨H, b', i1, c6, c12, i14, j5, j11, j13⟩ := hJ; go_simp; refine (rparts_c fa _ _ i1.ple (mono_FmR _ _ _ _ i1.le hRA)).mono ?_; rintro e w6 ⟨v1, rfl, hx6, hr6⟩; have hu := ple_up (w' := w6) i1.ple; exact hK _ _ (hS.then hx6) ⟨up H w' w6, b', i1.up hx6, c6, c12, i14, fun _ => hr6, fun h => (j11 h).mono mono_FmR hu, j13⟩))); (try simp only [List.nil_append, List.cons_append]))
                      (refine Pj.walkI_step rfl (by simp) rfl ?_ ?_; (focus (intro A w' dn hS hJ hd0 hdn hA K hK; (try simp only [List.map_cons, List.map_nil, Pj.knows, Pj.Is, Pj.Any, Op.operands, Call.operands, List.lookup_cons, List.lookup_nil, Nat.reduceBEq, Bool.false_eq_true, if_false, if_true, Act.eval, Array.getD_eq_getD_getElem?, List.getElem?_toArray, List.getElem?_cons_succ, List.getElem?_cons_zero, Option.getD_some, and_true, true_and, List.append_toArray, List.nil_append, List.cons_append, List.toList_toArray, Array.toList_append, Option.toArray, List.append_nil] at hA); (obtain ⟨H, b', i1, c6, c12, i14, j5, j11, j13⟩ := hJ; have d6 : dn 6 = false := hd0; have d0 : dn 0 = true := hdn 0 (List.contains_iff_mem.1 (by kernel_rfl)); have d12 := dn_no c12 d6; have k5 := j5 (hdn 5 (List.contains_iff_mem.1 (by kernel_rfl))); rw [d12, d6, d0] at i1; have i2 : Mem wr H4 [if dn 14 then box b' zeroFc 30 else nop, own mono_FmR 4 30 (Pj.sl A 79) ([] : List Fm)] H w' := i1; refine oper_append_M (hm := mono_FmR) (xs := ([] : List Fm)) (ys := partsF fa) 1 _ _ 28 rfl Try.underlying28 infoFm rfl rfl rfl i2 rfl (Src.ofRep k5 i2.ple) one_FmR (by simp; omega) (by simp; omega) ?_; intro v' w6 i3 hg; exact hK _ _ i3.ex ⟨H, b', by simpa [Pj.upd, Pj.sput, d12] using i3, fun _ => by simpa [Pj.upd] using d0, fun _ => by simp [Pj.upd], i14, j5, j11, j13⟩))); (try simp only [List.nil_append, List.cons_append]))
                      (refine Pj.walkI_is (u := ?_) rfl (by simp) rfl (fun dn s w h => h) ?_ ?_; rotate_left; (focus (intro A w' dn hS hJ hdn hA K hK; (try simp only [List.map_cons, List.map_nil, Pj.knows, Pj.Is, Pj.Any, Op.operands, Call.operands, List.lookup_cons, List.lookup_nil, Nat.reduceBEq, Bool.false_eq_true, if_false, if_true, Act.eval, Array.getD_eq_getD_getElem?, List.getElem?_toArray, List.getElem?_cons_succ, List.getElem?_cons_zero, Option.getD_some, and_true, true_and, List.append_toArray, List.nil_append, List.cons_append, List.toList_toArray, Array.toList_append, Option.toArray, List.append_nil] at hA); first | fail | (obtain ⟨hSc, hSf, hSs⟩ := hS.cells; go_simp; exact hK))); (try simp only [List.nil_append, List.cons_append]))
                      (refine Pj.walkI_is (u := ?_) rfl (by simp) rfl (fun dn s w h => h) ?_ ?_; rotate_left; (focus (intro A w' dn hS hJ hdn hA K hK; (try simp only [List.map_cons, List.map_nil, Pj.knows, Pj.Is, Pj.Any, Op.operands, Call.operands, List.lookup_cons, List.lookup_nil, Nat.reduceBEq, Bool.false_eq_true, if_false, if_true, Act.eval, Array.getD_eq_getD_getElem?, List.getElem?_toArray, List.getElem?_cons_succ, List.getElem?_cons_zero, Option.getD_some, and_true, true_and, List.append_toArray, List.nil_append, List.cons_append, List.toList_toArray, Array.toList_append, Option.toArray, List.append_nil] at hA); first | fail | (obtain ⟨hSc, hSf, hSs⟩ := hS.cells; go_simp; exact hK))); (try simp only [List.nil_append, List.cons_append]))
                      (refine Pj.walkI_is (u := ?_) rfl (by simp) rfl (fun dn s w h => h) ?_ ?_; rotate_left; (focus (intro A w' dn hS hJ hdn hA K hK; (try simp only [List.map_cons, List.map_nil, Pj.knows, Pj.Is, Pj.Any, Op.operands, Call.operands, List.lookup_cons, List.lookup_nil, Nat.reduceBEq, Bool.false_eq_true, if_false, if_true, Act.eval, Array.getD_eq_getD_getElem?, List.getElem?_toArray, List.getElem?_cons_succ, List.getElem?_cons_zero, Option.getD_some, and_true, true_and, List.append_toArray, List.nil_append, List.cons_append, List.toList_toArray, Array.toList_append, Option.toArray, List.append_nil] at hA); first | fail | (obtain ⟨hSc, hSf, hSs⟩ := hS.cells; go_simp; exact hK))); (try simp only [List.nil_append, List.cons_append]))
                      (refine Pj.walkI_is (u := ?_) rfl (by simp) rfl (fun dn s w h => h) ?_ ?_; rotate_left; (focus (intro A w' dn hS hJ hdn hA K hK; (try simp only [List.map_cons, List.map_nil, Pj.knows, Pj.Is, Pj.Any, Op.operands, Call.operands, List.lookup_cons, List.lookup_nil, Nat.reduceBEq, Bool.false_eq_true, if_false, if_true, Act.eval, Array.getD_eq_getD_getElem?, List.getElem?_toArray, List.getElem?_cons_succ, List.getElem?_cons_zero, Option.getD_some, and_true, true_and, List.append_toArray, List.nil_append, List.cons_append, List.toList_toArray, Array.toList_append, Option.toArray, List.append_nil] at hA); first | fail | (obtain ⟨hSc, hSf, hSs⟩ := hS.cells; go_simp; exact hK))); (try simp only [List.nil_append, List.cons_append]))
                      (refine Pj.walkI_step rfl (by simp) rfl ?_ ?_; (focus (intro A w' dn hS hJ hd0 hdn hA K hK; (try simp only [List.map_cons, List.map_nil, Pj.knows, Pj.Is, Pj.Any, Op.operands, Call.operands, List.lookup_cons, List.lookup_nil, Nat.reduceBEq, Bool.false_eq_true, if_false, if_true, Act.eval, Array.getD_eq_getD_getElem?, List.getElem?_toArray, List.getElem?_cons_succ, List.getElem?_cons_zero, Option.getD_some, and_true, true_and, List.append_toArray, List.nil_append, List.cons_append, List.toList_toArray, Array.toList_append, Option.toArray, List.append_nil] at hA); (obtain ⟨H, b', i1, c6, c12, i14, j5, j11, j13⟩ := hJ; go_simp; refine (rparts_c fb _ _ i1.ple (mono_FmR _ _ _ _ i1.le hRB4)).mono ?_; rintro e w6 ⟨v1, rfl, hx6, hr6⟩; have hu := ple_up (w' := w6) i1.ple; exact hK _ _ (hS.then hx6) ⟨up H w' w6, b', i1.up hx6, c6, c12, i14, fun h => (j5 h).mono mono_FmR hu, fun _ => hr6, j13⟩))); (try simp only [List.nil_append, List.cons_append]))
                      (refine Pj.walkI_step rfl (by simp) rfl ?_ ?_; (focus (intro A w' dn hS hJ hd0 hdn hA K hK; (try simp only [List.map_cons, List.map_nil, Pj.knows, Pj.Is, Pj.Any, Op.operands, Call.operands, List.lookup_cons, List.lookup_nil, Nat.reduceBEq, Bool.false_eq_true, if_false, if_true, Act.eval, Array.getD_eq_getD_getElem?, List.getElem?_toArray, List.getElem?_cons_succ, List.getElem?_cons_zero, Option.getD_some, and_true, true_and, List.append_toArray, List.nil_append, List.cons_append, List.toList_toArray, Array.toList_append, Option.toArray, List.append_nil] at hA); (obtain ⟨H, b', i1, c6, c12, i14, j5, j11, j13⟩ := hJ; have d12 : dn 12 = false := hd0; have d6 : dn 6 = true := hdn 6 (List.contains_iff_mem.1 (by kernel_rfl)); have k11 := j11 (hdn 11 (List.contains_iff_mem.1 (by kernel_rfl))); rw [d12, d6] at i1; have i2 : Mem wr H4 [if dn 14 then box b' zeroFc 30 else nop, own mono_FmR 4 30 (Pj.sl A 85) (partsF fa)] H w' := i1; refine oper_append_M (hm := mono_FmR) (xs := partsF fa) (ys := partsF fb) 1 _ _ 28 rfl Try.underlying28 infoFm rfl rfl rfl i2 rfl (Src.ofRep k11 i2.ple) one_FmR (by omega) (by omega) ?_; intro v' w6 i3 hg; exact hK _ _ i3.ex ⟨H, b', by simpa [Pj.upd, Pj.sput] using i3, c6, fun _ => by simpa [Pj.upd] using d6, i14, j5, j11, fun h => absurd (j13 h).1 (by simp [d12])⟩))); (try simp only [List.nil_append, List.cons_append]))
                      (refine Pj.walkI_step rfl (by simp) rfl ?_ ?_; (focus (intro A w' dn hS hJ hd0 hdn hA K hK; (try simp only [List.map_cons, List.map_nil, Pj.knows, Pj.Is, Pj.Any, Op.operands, Call.operands, List.lookup_cons, List.lookup_nil, Nat.reduceBEq, Bool.false_eq_true, if_false, if_true, Act.eval, Array.getD_eq_getD_getElem?, List.getElem?_toArray, List.getElem?_cons_succ, List.getElem?_cons_zero, Option.getD_some, and_true, true_and, List.append_toArray, List.nil_append, List.cons_append, List.toList_toArray, Array.toList_append, Option.toArray, List.append_nil] at hA); (obtain ⟨H, b', i1, c6, c12, i14, j5, j11, j13⟩ := hJ; have d12 : dn 12 = true := hdn 12 (List.contains_iff_mem.1 (by kernel_rfl)); have i1' := i1; rw [d12] at i1; have i2 : Mem wr H4 [if dn 14 then box b' zeroFc 30 else nop, own mono_FmR 4 30 (Pj.sl A 91) (partsF fa ++ partsF fb)] H w' := i1; obtain ⟨ua, uc, e91, -⟩ := i2.form 1 rfl; have e91' := e91; unfold Pj.sl at e91'; simp only [Array.getD_eq_getD_getElem?] at e91'; generalize (partsF fa ++ partsF fb).length = nn at *; go_simp; exact hK _ _ hS ⟨H, b', i1', c6, c12, i14, j5, j11, fun _ => ⟨by simpa [Pj.upd] using d12, by simp [Pj.sput, e91]⟩⟩))); (try simp only [List.nil_append, List.cons_append]))
                      (refine Pj.walkI_step rfl (by simp) rfl ?_ ?_; (focus (intro A w' dn hS hJ hd0 hdn hA K hK; (try simp only [List.map_cons, List.map_nil, Pj.knows, Pj.Is, Pj.Any, Op.operands, Call.operands, List.lookup_cons, List.lookup_nil, Nat.reduceBEq, Bool.false_eq_true, if_false, if_true, Act.eval, Array.getD_eq_getD_getElem?, List.getElem?_toArray, List.getElem?_cons_succ, List.getElem?_cons_zero, Option.getD_some, and_true, true_and, List.append_toArray, List.nil_append, List.cons_append, List.toList_toArray, Array.toList_append, Option.toArray, List.append_nil] at hA); (obtain ⟨H, b', i1, c6, c12, i14, j5, j11, j13⟩ := hJ; have d14 : dn 14 = false := hd0; rw [d14] at i1; have i3 := i1.fillNop 0 rfl (Ext.new w' (.cells zeroFc 30)) (Own.new w' zeroFc 30) (Nat.le_refl _); go_simp; exact hK _ _ (hS.alloc' _) ⟨H, w'.heap.size, i3, c6, c12, fun _ => rfl, j5, j11, j13⟩))); (try simp only [List.nil_append, List.cons_append]))
                      (refine Pj.walkI_nil ?_; simp only [List.nil_append, List.cons_append, Pj.fins, Pj.Is, Pj.Any, forall_eq, true_implies, Act.put, List.setIfInBounds_toArray, List.set_cons_zero, List.set_cons_succ])
                      intro W2 hx2 v79 v84 v85 v90 v91 v92 v13 hJ
                      obtain ⟨H5, b', i1, -, -, i14, -, -, j13⟩ := hJ
                      have e13 : v13 = .pointer (some ⟨b', 0, none⟩) := i14 rfl
                      have e92 : v92 = .agg #[.int .i64 4, .int .i64 0, .slice none 0 0, v91] := (j13 rfl).2
                      have hI : Mem wr H4 [box b' zeroFc 30, own mono_FmR 4 30 v91 (partsF fa ++ partsF fb)] H5 W2 := i1
                      have hN3 := hN.join hI
                      simp only [List.cons_append, List.nil_append] at hN3
                      have hle5 := hI.le
                      clear i1 i14 j13 hI hN
                      subst e13 e92
                      have hbf : Hid (bothF fa fb = .mk 4 0 [] (partsF fa ++ partsF fb)) := rfl
                      generalize partsF fa ++ partsF fb = PP at *
                      obtain ⟨na, nc, rfl, -⟩ := hN3.form 2 rfl
                      obtain ⟨uc, uf⟩ := (hN3.box 1 rfl).facts
                      have u0 : _ = some (Value.int .i64 0) := uc 0
                      have u1 : _ = some (Value.int .i64 0) := uc 1
                      have u2 : _ = some (Value.slice none 0 0) := uc 2
                      have u3 : _ = some (Value.slice none 0 0) := uc 3
                      have ul := (hN3.box 1 rfl).lt
                      have hN4 := hN3.set4 1 rfl (.int .i64 4) (.int .i64 0) (.slice none 0 0) (.slice na PP.length nc)
                      simp only [List.set_cons_succ, List.set_cons_zero] at hN4
                      obtain ⟨H6, hl6, hN5, hR⟩ := hN4.freezeS 2 rfl
                      simp only [List.set_cons_succ, List.set_cons_zero] at hN5
                      have hFR : FmR H6 (fmC (.mk 4 0 [] PP) none 0 na nc) (.mk 4 0 [] PP) := FmR.of (by simp [Fm.op, I64]) (by simp [Fm.n, I64]) (SliceRep.nil _ _ _) hR
                      have hFb : (Fm.mk 4 0 [] PP).bulk ≤ 900000 := by rw [← hbf.out]; exact both_bulk hAb hBb
                      have hH6 := (hH4.trans hle5).trans hl6
                      clear uc hN3 hN4 hR hpa hpb q0 q1 q2 q3 s0 s1 s2 s3 hRA hRB hRB4 qR
                      go_upto_region 18 with (fail)
                      generalize ((((W2.setCell _ _).setCell _ _).setCell _ _).setCell _ _) = W3 at *
                      clear u0 u1 u2 u3 uf ul
                      obtain ⟨uc, uf⟩ := (hN5.box 1 rfl).facts
                      have u0 : _ = some (Value.int .i64 4) := uc 0
                      have u1 : _ = some (Value.int .i64 0) := uc 1
                      have u2 : _ = some (Value.slice none 0 0) := uc 2
                      have u3 : _ = some (Value.slice na PP.length nc) := uc 3
                      have ul := (hN5.box 1 rfl).lt
                      clear uc uf
                      go_wp2_with fail
                      refine RetV_at (rfvalid_c (.mk 4 0 [] PP) _ _ (mono_FmR _ _ _ _ hN5.ple hFR) hFb) ?_
                      intro W4 hx4
                      replace hN5 := hN5.ext hx4
                      clear u0 u1 u2 u3 ul
                      by_cases hvf : validF (.mk 4 0 [] PP) = 0
                      · rw [hvf]
                        obtain ⟨uc, uf⟩ := (hN5.box 1 rfl).facts
                        have u0 : _ = some (Value.int .i64 4) := uc 0
                        have u1 : _ = some (Value.int .i64 0) := uc 1
                        have u2 : _ = some (Value.slice none 0 0) := uc 2
                        have u3 : _ = some (Value.slice na PP.length nc) := uc 3
                        have ul := (hN5.box 1 rfl).lt
                        have hN6 := (hN5.ext (Ext.new W4 (.cells #[.int .i64 4, .int .i64 0, .slice none 0 0, .slice na PP.length nc] 30))).pick [0] (by decide)
                        simp only [List.map_cons, List.map_nil, List.getElem?_cons_zero, List.getElem?_cons_succ, Option.getD_some] at hN6
                        have hS := Src.lit1 (H := H6) (E := FmR) (sz := 4) (w := W4.alloc (.cells #[.int .i64 4, .int .i64 0, .slice none 0 0, .slice na PP.length nc] 30)) (b := W4.heap.size) hFR rfl (fun j => by rw [(Proofs.Ytdpdpjimmfajgaa.Own.new _ _ _).facts.1]; simp [fmC, Fm.op, Fm.n, Fm.inn, Fm.kids])
                        clear uc uf hN5
                        go_wp2_with (first | (at_builtin; refine wpList_append_M 0 rfl _ _ 28 rfl Try.underlying28 infoFm rfl rfl rfl (hN6) rfl (hS) one_FmR ?c3 ?c4 ?c5))
                        case c3 => simp; omega
                        case c4 => simp; omega
                        case c5 =>
                        intro v' W5 hN7
                        try simp only [List.set_cons_zero, List.set_cons_succ] at hN7
                        clear hN6 hS u0 u1 u2 u3 ul
                        go_wp2_with fail
                        go_roundw
                        case rel =>
                          refine ⟨j + 1, _, H6, by omega, by go_num, Lib.hid ⟨?_, ?_⟩, by simp; omega, hH6, hN7⟩
                          · rw [htk.out, ho3.out.1, List.append_assoc, hbf.out]
                          · rw [htk.out, List.all_append, ho3.out.2, hbf.out]; simp [hvf]
                        case measure => simp [intOf]; omega
                      · have bv : (validF (.mk 4 0 [] PP) != 0) = true := by simpa using hvf
                        have hno : Hid (altC l i = none) := by
                          show _ = _
                          rw [hgo3.out, if_neg]
                          intro h
                          have := List.all_eq_true.1 h _ hinB
                          rw [hbf.out] at this
                          exact hvf (by simpa using this)
                        go_wp2_with fail
                        refine bodyPost_ret (v := .tuple #[(.slice none 0 0), .bool false]) (by simp [results, Try.results31, go_sem]) rfl ?_
                        exact ⟨_, by rw [hno.out]; rfl, hN5.ex, fun l' h => by rw [hno.out] at h; cases h⟩
                    · obtain rfl : j = ts.length := by omega
                      have ho4 : Hid (out3 = out ++ prodsF (lr.take (i' + 1)) ts ∧ (prodsF (lr.take (i' + 1)) ts).all (fun f => decide (validF f = 0)) = true) := by
                        obtain ⟨k1, k2⟩ := ho3.out
                        obtain ⟨l1, l2⟩ := ho2.out
                        rw [List.take_length] at k1 k2
                        refine ⟨?_, ?_⟩
                        · rw [hsn.out, k1, l1, List.append_assoc]
                        · rw [hsn.out, List.all_append, l2, k2]; rfl
                      have hbo : out3.length ≤ 64 := by
                        rw [ho4.out.1, List.length_append, prodsF_len, List.length_take]
                        have : min (i' + 1) lr.length * ts.length ≤ lr.length * ts.length := Nat.mul_le_mul_right _ (Nat.min_le_right _ _)
                        have := hpr.out
                        omega
                      clear ho3
                      go_wp2_with fail
                      go_roundw
                      case rel => exact ⟨i' + 1, out3, H4, by omega, by go_num, ho4, hbo, hH4, hN⟩
                      case measure => simp [intOf]; omega
                · obtain rfl : i' = lr.length := by omega
                  have hgo4 : Hid (altC l i = altGo ms ts out2 (x.refs.drop (k + 1))) := by
                    obtain ⟨l1, l2⟩ := ho2.out
                    rw [List.take_length] at l1 l2
                    show _ = _
                    rw [hgo3.out, if_pos l2, l1]
                  clear ho2
                  go_wp2_with fail
                  go_roundw
                  case rel => exact ⟨k + 1, out2, H3, by omega, by go_num, hgo4, hol2, hH2.trans hH3, hN⟩
                  case measure => simp [intOf]; omega
        · obtain rfl : k = x.refs.length := by omega
          have hso : Hid (altC l i = some out) := by show _ = _; rw [hgo.out, List.drop_length, altGo]
          clear hgo
          go_wp2_with fail
          refine bodyPost_ret (v := .tuple #[(.slice oa out.length oc), .bool true]) (by simp [results, Try.results31, go_sem]) rfl ?_
          refine ⟨_, by rw [hso.out]; rfl, hN.ex, fun l' h => ?_⟩
          rw [hso.out] at h; cases h; exact hN.repUp 0 rfl
theorem rAlts_c (v : Value) (l : List Cl) (i : Int) (w : World) (hr : ClsR (ph w) v l) (hs : ∀ c ∈ l, c.body.bulk ≤ 900000) : Calls Try.prog 11 #[v, .int .i64 i] w (AlE w (altsE l i)) := by
  have hr' := hr
  obtain ⟨a, c, rfl, hlen, -⟩ := hr.form
  go_enter Try.func11, Try.ntmps11
  go_wp2_with fail
  refine RetV_at (rccheck_c _ l i _ hr' hs) ?_
  intro w1 hx1
  by_cases he : checkC l i = 0
  · obtain ⟨hv, h0, h1⟩ := checkC_0 he
    have hm : Hid (altsE l i = match altC l i.toNat with | some f => (f, 0) | none => ([], 4)) := by show _ = _; unfold altsE; rw [if_neg (by simpa using he)]; rfl
    obtain ⟨n, rfl⟩ : ∃ n : Nat, i = (n : Int) := ⟨i.toNat, by omega⟩
    rw [he]
    rw [Int.toNat_natCast] at hm
    clear he
    go_wp2_with fail
    refine (ralts_c (H0 := ph w) _ l hv n w1 hx1.ple hr' (by omega)).mono ?_
    rintro e w2 ⟨v2, rfl, hx2, hF⟩
    cases hq : altC l n with
    | some fs =>
      obtain ⟨fa, fc, rfl, -, hR⟩ := (hF fs hq).form
      have hE : Hid (altsE l n = (fs, 0)) := by show _ = _; rw [hm.out, hq]
      have hl2 : PLe (up (ph w) w1 w2) (ph w2) := fun k o hk => by
        unfold up at hk
        split at hk
        · exact hx2.ple k o (hx1.ple k o hk)
        · exact hk
      clear hq hm hF
      go_wp2_with fail
      refine bodyPost_ret (v := .tuple #[.slice fa fs.length fc, .int .i64 0]) (by simp [results, Try.results11, go_sem]) rfl ?_
      exact ⟨_, by rw [hE.out], hx1.then hx2, by rw [hE.out]; exact hR.mono mono_FmR hl2⟩
    | none =>
      have hE : Hid (altsE l n = ([], 4)) := by show _ = _; rw [hm.out, hq]
      clear hq hm hF
      go_wp2_with fail
      refine bodyPost_ret (v := .tuple #[.slice none 0 0, .int .i64 4]) (by simp [results, Try.results11, go_sem]) rfl ?_
      exact ⟨_, by rw [hE.out], hx1.then hx2, by rw [hE.out]; exact SliceRep.nil _ _ _⟩
  · have hm : altsE l i = ([], checkC l i) := by unfold altsE; rw [if_pos he]
    have b3 : (checkC l i != 0) = true := by simpa using he
    replace hm := Lib.hid hm
    generalize checkC l i = e at *
    go_wp2_with fail
    refine bodyPost_ret (v := .tuple #[.slice none 0 0, .int .i64 e]) (by simp [results, Try.results11, go_sem]) rfl ?_
    exact ⟨_, by rw [hm.out], hx1, by rw [hm.out]; exact SliceRep.nil _ _ _⟩
end Go.Proofs.Ytdpdpjimmfajgaa
