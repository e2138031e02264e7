/- package law: the order of rulings. -/
import Derived.Test.YtcmdekhhclgdcaaGreatDoorLCl3
import Derived.Test.YtcmdekhhclgdcaaGreatDoorCalmG
namespace Go.Proofs.YtcmdekhhclgdcaaGreatDoor
open Go.RowKit Go.Shelf
set_option linter.unusedSimpArgs false
set_option linter.unusedVariables false
/-- the first number that is not 0 -/
def orL : List Int → Int
  | [] => 0
  | x :: r => if x ≠ 0 then x else orL r
theorem orL_drop {l : List Int} {k : Nat} (h : k < l.length) : orL (l.drop k) = if l[k] ≠ 0 then l[k] else orL (l.drop (k + 1)) := by
  rw [List.drop_eq_getElem_cons h, orL]
set_option maxHeartbeats 1000000 in
theorem cmpOr_c (l : List Int) (v : Value) (w : World) (hr : IntsR (ph w) v l) : Calls Tryz.prog 41 #[v] w (RetP w (.int .i64 (orL l))) := by
  obtain ⟨a, c, rfl, hlen, hr⟩ := hr.form
  go_enter Tryz.func41, Tryz.ntmps41
  go_wp2_with fail
  go_loopw [8] (fun i wr => ∃ k : Nat, k ≤ l.length ∧ i = .int .i64 k ∧ Hid (orL l = orL (l.drop k)) ∧ wr = w) (fun i _ => l.length - (intOf i).toNat)
  case atStart => exact ⟨0, by omega, rfl, Lib.hid rfl, rfl⟩
  case round =>
    obtain ⟨k, hk, rfl, ho, rfl⟩ := hrel
    by_cases hlt : k < l.length
    · obtain ⟨gb, go, rfl, gc, gi, gl⟩ := IntsR.at hr k hlt
      have hd := orL_drop hlt
      generalize l[k] = x at *
      have hja : decide (k < l.length) = true := by simpa using hlt
      by_cases h : x = 0
      · have h2 : Hid (orL l = orL (l.drop (k + 1))) := by show _ = _; rw [ho.out, hd, if_neg (by simpa using h)]
        subst h
        clear hd ho
        go_wp2_with fail
        go_roundw
        case rel => exact ⟨k + 1, by omega, rfl, h2, trivial⟩
        case measure => simp [intOf]; omega
      · have h2 : Hid (orL l = x) := by show _ = _; rw [ho.out, hd, if_pos h]
        have hb : (x != 0) = true := by rw [bne_iff_ne]; exact h
        clear hd ho h
        go_wp2_with fail
        go_ret
        exact ⟨ret_int h2.out.symm, rfl⟩
    · have h2 : Hid (orL l = 0) := by show _ = _; rw [ho.out, List.drop_of_length_le (by omega)]; rfl
      have hja : decide (k < l.length) = false := by simpa using hlt
      clear ho
      go_wp2_with fail
      go_ret
      exact ⟨ret_int h2.out.symm, rfl⟩
theorem compareInt_I (x y : Int) : I64 (Lib.compareInt x y) := by
  unfold Lib.compareInt I64
  split <;> (try split) <;> omega
def cmpA (x y : Ac) : Int := orL [Lib.compareInt x.day y.day, Lib.compareInt y.known x.known, Lib.compareInt y.amount x.amount]
set_option maxRecDepth 100000 in
set_option maxHeartbeats 2000000 in
theorem rul2_c (x y : Ac) (w : World) : Calls Tryz.prog 40 #[.agg (actC x).toArray, .agg (actC y).toArray] w (fun e w' => e = .returned (.int .i64 (cmpA x y)) ∧ Gw w w') := by
  have hx : Gw w ((w.alloc (.cells (actC x).toArray 67)).alloc (.cells (actC y).toArray 67)) := (Gw.new _ _).then (Gw.new _ _)
  have hO1 := (Proofs.YtcmdekhhclgdcaaGreatDoor.Own.new w (actC x).toArray 67).alloc (.cells (actC y).toArray 67)
  have hO2 : Proofs.YtcmdekhhclgdcaaGreatDoor.Own ((w.alloc (.cells (actC x).toArray 67)).alloc (.cells (actC y).toArray 67)) (w.heap.size + 1) (actC y).toArray 67 := Proofs.YtcmdekhhclgdcaaGreatDoor.Own.new' _ _ _ (by simp)
  have c1 : _ = some (Value.int .i64 x.day) := hO1.facts.1 1
  have c2 : _ = some (Value.int .i64 y.day) := hO2.facts.1 1
  have c3 : _ = some (Value.int .i64 x.known) := hO1.facts.1 2
  have c4 : _ = some (Value.int .i64 y.known) := hO2.facts.1 2
  have c5 : _ = some (Value.int .i64 x.amount) := hO1.facts.1 8
  have c6 : _ = some (Value.int .i64 y.amount) := hO2.facts.1 8
  have g1 := hO1.lt
  have g2 := hO2.lt
  have hcA := fun (a b : Int) W' => AnyG.cmp_Compare_int cmpInt a b W'
  change ∀ a b W', Calls Tryz.prog 42 _ _ _ at hcA
  have hC : Hid (cmpA x y = orL [Lib.compareInt x.day y.day, Lib.compareInt y.known x.known, Lib.compareInt y.amount x.amount]) := rfl
  have h1 := hcA x.day y.day
  have h2 := hcA y.known x.known
  have h3 := hcA y.amount x.amount
  clear hcA
  have i1 := compareInt_I x.day y.day
  have i2 := compareInt_I y.known x.known
  have i3 := compareInt_I y.amount x.amount
  generalize Lib.compareInt x.day y.day = k1 at *
  generalize Lib.compareInt y.known x.known = k2 at *
  generalize Lib.compareInt y.amount x.amount = k3 at *
  generalize (actC x).toArray = X at *
  generalize (actC y).toArray = Y at *
  replace h1 := Lib.hid h1
  replace h2 := Lib.hid h2
  replace h3 := Lib.hid h3
  go_enter Tryz.func40, Tryz.ntmps40
  go_upto_region 1 with (fail)
  generalize (w.alloc _).alloc _ = W at *
  (refine Gg.wp_region_I 15 (by kernel_rfl) (by kernel_rfl) ?_; simp only [List.toList_toArray, List.take_succ_cons, List.take_zero, List.drop_succ_cons, List.drop_zero])
  (refine Gg.walkI_is (u := ?_) rfl (by simp) rfl ?_ ?_; rotate_left; (focus (intro A w' hS hA K hK; (simp only [List.map_cons, List.map_nil, Gg.knows, Gg.Is, Op.operands, Call.operands, List.lookup_cons, List.lookup_nil, Nat.reduceBEq, Bool.false_eq_true, if_false, if_true, Act.eval, Array.getD_eq_getD_getElem?, List.getElem?_toArray, List.getElem?_cons_succ, List.getElem?_cons_zero, Option.getD_some, and_true, true_and, List.append_toArray, List.nil_append, List.cons_append, List.toList_toArray, Array.toList_append, Option.toArray, List.append_nil] at hA); first | fail | (obtain ⟨hSc, hSf, hSs⟩ := hS.ext.cells; go_simp; exact hK _ (Gw.rfl' _)))); (try simp only [List.nil_append, List.cons_append]))
  (refine Gg.walkI_is (u := ?_) rfl (by simp) rfl ?_ ?_; rotate_left; (focus (intro A w' hS hA K hK; (simp only [List.map_cons, List.map_nil, Gg.knows, Gg.Is, Op.operands, Call.operands, List.lookup_cons, List.lookup_nil, Nat.reduceBEq, Bool.false_eq_true, if_false, if_true, Act.eval, Array.getD_eq_getD_getElem?, List.getElem?_toArray, List.getElem?_cons_succ, List.getElem?_cons_zero, Option.getD_some, and_true, true_and, List.append_toArray, List.nil_append, List.cons_append, List.toList_toArray, Array.toList_append, Option.toArray, List.append_nil] at hA); first | fail | (obtain ⟨hSc, hSf, hSs⟩ := hS.ext.cells; go_simp; exact hK _ (Gw.rfl' _)))); (try simp only [List.nil_append, List.cons_append]))
  (refine Gg.walkI_is (u := ?_) rfl (by simp) rfl ?_ ?_; rotate_left; (focus (intro A w' hS hA K hK; (simp only [List.map_cons, List.map_nil, Gg.knows, Gg.Is, Op.operands, Call.operands, List.lookup_cons, List.lookup_nil, Nat.reduceBEq, Bool.false_eq_true, if_false, if_true, Act.eval, Array.getD_eq_getD_getElem?, List.getElem?_toArray, List.getElem?_cons_succ, List.getElem?_cons_zero, Option.getD_some, and_true, true_and, List.append_toArray, List.nil_append, List.cons_append, List.toList_toArray, Array.toList_append, Option.toArray, List.append_nil] at hA); first | fail | (obtain ⟨hSc, hSf, hSs⟩ := hS.ext.cells; go_simp; exact hK _ (Gw.rfl' _)))); (try simp only [List.nil_append, List.cons_append]))
  (refine Gg.walkI_is (u := ?_) rfl (by simp) rfl ?_ ?_; rotate_left; (focus (intro A w' hS hA K hK; (simp only [List.map_cons, List.map_nil, Gg.knows, Gg.Is, Op.operands, Call.operands, List.lookup_cons, List.lookup_nil, Nat.reduceBEq, Bool.false_eq_true, if_false, if_true, Act.eval, Array.getD_eq_getD_getElem?, List.getElem?_toArray, List.getElem?_cons_succ, List.getElem?_cons_zero, Option.getD_some, and_true, true_and, List.append_toArray, List.nil_append, List.cons_append, List.toList_toArray, Array.toList_append, Option.toArray, List.append_nil] at hA); first | fail | (obtain ⟨hSc, hSf, hSs⟩ := hS.ext.cells; go_simp; exact hK _ (Gw.rfl' _)))); (try simp only [List.nil_append, List.cons_append]))
  (refine Gg.walkI_is (u := ?_) rfl (by simp) rfl ?_ ?_; rotate_left; (focus (intro A w' hS hA K hK; (simp only [List.map_cons, List.map_nil, Gg.knows, Gg.Is, Op.operands, Call.operands, List.lookup_cons, List.lookup_nil, Nat.reduceBEq, Bool.false_eq_true, if_false, if_true, Act.eval, Array.getD_eq_getD_getElem?, List.getElem?_toArray, List.getElem?_cons_succ, List.getElem?_cons_zero, Option.getD_some, and_true, true_and, List.append_toArray, List.nil_append, List.cons_append, List.toList_toArray, Array.toList_append, Option.toArray, List.append_nil] at hA); first | (go_simp; refine (h1.out w').mono ?_; rintro e w6 ⟨rfl, rfl⟩; exact hK _ (Gw.rfl' _)) | (obtain ⟨hSc, hSf, hSs⟩ := hS.ext.cells; go_simp; exact hK _ (Gw.rfl' _)))); (try simp only [List.nil_append, List.cons_append]))
  (refine Gg.walkI_is (u := ?_) rfl (by simp) rfl ?_ ?_; rotate_left; (focus (intro A w' hS hA K hK; (simp only [List.map_cons, List.map_nil, Gg.knows, Gg.Is, Op.operands, Call.operands, List.lookup_cons, List.lookup_nil, Nat.reduceBEq, Bool.false_eq_true, if_false, if_true, Act.eval, Array.getD_eq_getD_getElem?, List.getElem?_toArray, List.getElem?_cons_succ, List.getElem?_cons_zero, Option.getD_some, and_true, true_and, List.append_toArray, List.nil_append, List.cons_append, List.toList_toArray, Array.toList_append, Option.toArray, List.append_nil] at hA); first | fail | (obtain ⟨hSc, hSf, hSs⟩ := hS.ext.cells; go_simp; exact hK _ (Gw.rfl' _)))); (try simp only [List.nil_append, List.cons_append]))
  (refine Gg.walkI_is (u := ?_) rfl (by simp) rfl ?_ ?_; rotate_left; (focus (intro A w' hS hA K hK; (simp only [List.map_cons, List.map_nil, Gg.knows, Gg.Is, Op.operands, Call.operands, List.lookup_cons, List.lookup_nil, Nat.reduceBEq, Bool.false_eq_true, if_false, if_true, Act.eval, Array.getD_eq_getD_getElem?, List.getElem?_toArray, List.getElem?_cons_succ, List.getElem?_cons_zero, Option.getD_some, and_true, true_and, List.append_toArray, List.nil_append, List.cons_append, List.toList_toArray, Array.toList_append, Option.toArray, List.append_nil] at hA); first | fail | (obtain ⟨hSc, hSf, hSs⟩ := hS.ext.cells; go_simp; exact hK _ (Gw.rfl' _)))); (try simp only [List.nil_append, List.cons_append]))
  (refine Gg.walkI_is (u := ?_) rfl (by simp) rfl ?_ ?_; rotate_left; (focus (intro A w' hS hA K hK; (simp only [List.map_cons, List.map_nil, Gg.knows, Gg.Is, Op.operands, Call.operands, List.lookup_cons, List.lookup_nil, Nat.reduceBEq, Bool.false_eq_true, if_false, if_true, Act.eval, Array.getD_eq_getD_getElem?, List.getElem?_toArray, List.getElem?_cons_succ, List.getElem?_cons_zero, Option.getD_some, and_true, true_and, List.append_toArray, List.nil_append, List.cons_append, List.toList_toArray, Array.toList_append, Option.toArray, List.append_nil] at hA); first | fail | (obtain ⟨hSc, hSf, hSs⟩ := hS.ext.cells; go_simp; exact hK _ (Gw.rfl' _)))); (try simp only [List.nil_append, List.cons_append]))
  (refine Gg.walkI_is (u := ?_) rfl (by simp) rfl ?_ ?_; rotate_left; (focus (intro A w' hS hA K hK; (simp only [List.map_cons, List.map_nil, Gg.knows, Gg.Is, Op.operands, Call.operands, List.lookup_cons, List.lookup_nil, Nat.reduceBEq, Bool.false_eq_true, if_false, if_true, Act.eval, Array.getD_eq_getD_getElem?, List.getElem?_toArray, List.getElem?_cons_succ, List.getElem?_cons_zero, Option.getD_some, and_true, true_and, List.append_toArray, List.nil_append, List.cons_append, List.toList_toArray, Array.toList_append, Option.toArray, List.append_nil] at hA); first | fail | (obtain ⟨hSc, hSf, hSs⟩ := hS.ext.cells; go_simp; exact hK _ (Gw.rfl' _)))); (try simp only [List.nil_append, List.cons_append]))
  (refine Gg.walkI_is (u := ?_) rfl (by simp) rfl ?_ ?_; rotate_left; (focus (intro A w' hS hA K hK; (simp only [List.map_cons, List.map_nil, Gg.knows, Gg.Is, Op.operands, Call.operands, List.lookup_cons, List.lookup_nil, Nat.reduceBEq, Bool.false_eq_true, if_false, if_true, Act.eval, Array.getD_eq_getD_getElem?, List.getElem?_toArray, List.getElem?_cons_succ, List.getElem?_cons_zero, Option.getD_some, and_true, true_and, List.append_toArray, List.nil_append, List.cons_append, List.toList_toArray, Array.toList_append, Option.toArray, List.append_nil] at hA); first | (go_simp; refine (h2.out w').mono ?_; rintro e w6 ⟨rfl, rfl⟩; exact hK _ (Gw.rfl' _)) | (obtain ⟨hSc, hSf, hSs⟩ := hS.ext.cells; go_simp; exact hK _ (Gw.rfl' _)))); (try simp only [List.nil_append, List.cons_append]))
  (refine Gg.walkI_is (u := ?_) rfl (by simp) rfl ?_ ?_; rotate_left; (focus (intro A w' hS hA K hK; (simp only [List.map_cons, List.map_nil, Gg.knows, Gg.Is, Op.operands, Call.operands, List.lookup_cons, List.lookup_nil, Nat.reduceBEq, Bool.false_eq_true, if_false, if_true, Act.eval, Array.getD_eq_getD_getElem?, List.getElem?_toArray, List.getElem?_cons_succ, List.getElem?_cons_zero, Option.getD_some, and_true, true_and, List.append_toArray, List.nil_append, List.cons_append, List.toList_toArray, Array.toList_append, Option.toArray, List.append_nil] at hA); first | fail | (obtain ⟨hSc, hSf, hSs⟩ := hS.ext.cells; go_simp; exact hK _ (Gw.rfl' _)))); (try simp only [List.nil_append, List.cons_append]))
  (refine Gg.walkI_is (u := ?_) rfl (by simp) rfl ?_ ?_; rotate_left; (focus (intro A w' hS hA K hK; (simp only [List.map_cons, List.map_nil, Gg.knows, Gg.Is, Op.operands, Call.operands, List.lookup_cons, List.lookup_nil, Nat.reduceBEq, Bool.false_eq_true, if_false, if_true, Act.eval, Array.getD_eq_getD_getElem?, List.getElem?_toArray, List.getElem?_cons_succ, List.getElem?_cons_zero, Option.getD_some, and_true, true_and, List.append_toArray, List.nil_append, List.cons_append, List.toList_toArray, Array.toList_append, Option.toArray, List.append_nil] at hA); first | fail | (obtain ⟨hSc, hSf, hSs⟩ := hS.ext.cells; go_simp; exact hK _ (Gw.rfl' _)))); (try simp only [List.nil_append, List.cons_append]))
  (refine Gg.walkI_is (u := ?_) rfl (by simp) rfl ?_ ?_; rotate_left; (focus (intro A w' hS hA K hK; (simp only [List.map_cons, List.map_nil, Gg.knows, Gg.Is, Op.operands, Call.operands, List.lookup_cons, List.lookup_nil, Nat.reduceBEq, Bool.false_eq_true, if_false, if_true, Act.eval, Array.getD_eq_getD_getElem?, List.getElem?_toArray, List.getElem?_cons_succ, List.getElem?_cons_zero, Option.getD_some, and_true, true_and, List.append_toArray, List.nil_append, List.cons_append, List.toList_toArray, Array.toList_append, Option.toArray, List.append_nil] at hA); first | fail | (obtain ⟨hSc, hSf, hSs⟩ := hS.ext.cells; go_simp; exact hK _ (Gw.rfl' _)))); (try simp only [List.nil_append, List.cons_append]))
  (refine Gg.walkI_is (u := ?_) rfl (by simp) rfl ?_ ?_; rotate_left; (focus (intro A w' hS hA K hK; (simp only [List.map_cons, List.map_nil, Gg.knows, Gg.Is, Op.operands, Call.operands, List.lookup_cons, List.lookup_nil, Nat.reduceBEq, Bool.false_eq_true, if_false, if_true, Act.eval, Array.getD_eq_getD_getElem?, List.getElem?_toArray, List.getElem?_cons_succ, List.getElem?_cons_zero, Option.getD_some, and_true, true_and, List.append_toArray, List.nil_append, List.cons_append, List.toList_toArray, Array.toList_append, Option.toArray, List.append_nil] at hA); first | fail | (obtain ⟨hSc, hSf, hSs⟩ := hS.ext.cells; go_simp; exact hK _ (Gw.rfl' _)))); (try simp only [List.nil_append, List.cons_append]))
  (refine Gg.walkI_is (u := ?_) rfl (by simp) rfl ?_ ?_; rotate_left; (focus (intro A w' hS hA K hK; (simp only [List.map_cons, List.map_nil, Gg.knows, Gg.Is, Op.operands, Call.operands, List.lookup_cons, List.lookup_nil, Nat.reduceBEq, Bool.false_eq_true, if_false, if_true, Act.eval, Array.getD_eq_getD_getElem?, List.getElem?_toArray, List.getElem?_cons_succ, List.getElem?_cons_zero, Option.getD_some, and_true, true_and, List.append_toArray, List.nil_append, List.cons_append, List.toList_toArray, Array.toList_append, Option.toArray, List.append_nil] at hA); first | (go_simp; refine (h3.out w').mono ?_; rintro e w6 ⟨rfl, rfl⟩; exact hK _ (Gw.rfl' _)) | (obtain ⟨hSc, hSf, hSs⟩ := hS.ext.cells; go_simp; exact hK _ (Gw.rfl' _)))); (try simp only [List.nil_append, List.cons_append]))
  (refine Gg.walkI_nil ?_; simp only [List.nil_append, List.cons_append, Gg.fins, Gg.Is, forall_eq, Act.put, List.setIfInBounds_toArray, List.set_cons_zero, List.set_cons_succ])
  intro w9 hx9
  have hxb := Gw.new w9 (.cells #[.int .i64 k1, .int .i64 k2, .int .i64 k3] 3)
  have hir : IntsR (up noH w9 _) (.slice (some ⟨w9.heap.size, 0, none⟩) 3 3) [k1, k2, k3] := ints_own (zs := [k1, k2, k3]) hxb.ext (Nat.le_refl _) (Proofs.YtcmdekhhclgdcaaGreatDoor.Own.new w9 #[.int .i64 k1, .int .i64 k2, .int .i64 k3] 3) (by intro z hz; simp at hz; rcases hz with rfl | rfl | rfl <;> assumption) (by simp)
  have hor := cmpOr_c [k1, k2, k3] _ _ (hir.mono mono_IntR (up_ple (noH_le _) hxb.ext))
  rw [← hC.out] at hor
  go_wp2_with fail
  refine RetP_at hor ?_
  go_wp2_with fail
  go_ret
  exact ⟨rfl, (hx.then hx9).then hxb⟩
end Go.Proofs.YtcmdekhhclgdcaaGreatDoor
