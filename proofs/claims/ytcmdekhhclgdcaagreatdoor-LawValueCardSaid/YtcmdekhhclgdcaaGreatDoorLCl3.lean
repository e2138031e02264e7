/- package law: the closures of rulings. -/
import Derived.Test.YtcmdekhhclgdcaaGreatDoorLCmp
namespace Go.Proofs.YtcmdekhhclgdcaaGreatDoor
open Go.RowKit Go.Shelf
set_option linter.unusedSimpArgs false
set_option linter.unusedVariables false
set_option maxRecDepth 100000 in
set_option maxHeartbeats 1000000 in
theorem rul3_c (x y : Ac) (w : World) : Calls Tryz.prog 44 #[.agg (actC x).toArray, .agg (actC y).toArray] w (RetV w (.bool (x.day == y.day))) := by
  have hx : Ext w ((w.alloc (.cells (actC x).toArray 67)).alloc (.cells (actC y).toArray 67)) := (by repeat (first | (with_reducible assumption) | (with_reducible exact Ext.rfl' _) | (with_reducible exact Ext.new _ _) | (with_reducible refine Ext.alloc' ?_ _) | (with_reducible refine Ext.drew' ?_) | (with_reducible refine Ext.drewN' ?_ _) | (with_reducible refine Ext.set' ?_ ?_ _; rotate_left; (focus (first | omega | (simp; done) | (simp; omega)))) | (with_reducible refine Ext.then (b := ?_) ?_ ?_; rotate_left; rotate_left; (with_reducible assumption))))
  have hO1 := (Proofs.YtcmdekhhclgdcaaGreatDoor.Own.new w (actC x).toArray 67).alloc (.cells (actC y).toArray 67)
  have hO2 : Proofs.YtcmdekhhclgdcaaGreatDoor.Own ((w.alloc (.cells (actC x).toArray 67)).alloc (.cells (actC y).toArray 67)) (w.heap.size + 1) (actC y).toArray 67 := Proofs.YtcmdekhhclgdcaaGreatDoor.Own.new' _ _ _ (by simp)
  have c1 : _ = some (Value.int .i64 x.day) := hO1.facts.1 1
  have c2 : _ = some (Value.int .i64 y.day) := hO2.facts.1 1
  generalize hX : (actC x).toArray = X at *
  generalize hY : (actC y).toArray = Y at *
  go_enter Tryz.func44, Tryz.ntmps44
  go_wp2_with fail
  go_ret
  exact ⟨rfl, hx⟩
/-- a ruling about a parameter of an office -/
def rulB (o : Int) (p : Nat) (x : Ac) : Bool := x.kind == 21 && (x.office == o && (x.number == (p : Int) && (inB x.day 0 131072 && inR p x.amount)))
abbrev rulBoxes (b1 b2 b3 : Nat) (o : Int) (p : Nat) : List Chunk := [box b1 #[.int .i64 o] 3, box b2 #[.int .i64 p] 3, box b3 #[.int .i64 0, .int .i64 131072] 86]
set_option maxRecDepth 100000 in
set_option maxHeartbeats 2000000 in
theorem rul1_c (o : Int) (p : Nat) (hp : p < 19) (w0 : World) (hR : VR (ph w0)) (b1 b2 b3 : Nat) :
    HP w0 (rulBoxes b1 b2 b3 o p) (fun x => !rulB o p x) 38 #[.pointer (some ⟨b1, 0, none⟩), .pointer (some ⟨b2, 0, none⟩), .pointer (some ⟨b3, 0, none⟩)] := by
  intro w v ys x hM hI
  have hB : Hid (rulB o p x = (x.kind == 21 && (x.office == o && (x.number == (p : Int) && (inB x.day 0 131072 && inR p x.amount))))) := rfl
  have hM2 := hM.ext (Ext.new w (.cells (actC x).toArray 67))
  have hx := Ext.new w (.cells (actC x).toArray 67)
  have hO := Proofs.YtcmdekhhclgdcaaGreatDoor.Own.new w (actC x).toArray 67
  have c0 : _ = some (Value.int .i64 x.kind) := hO.facts.1 0
  have c1 : _ = some (Value.int .i64 x.day) := hO.facts.1 1
  have c4 : _ = some (Value.int .i64 x.office) := hO.facts.1 4
  have c7 : _ = some (Value.int .i64 x.number) := hO.facts.1 7
  have c8 : _ = some (Value.int .i64 x.amount) := hO.facts.1 8
  have hsz := hO.lt
  have q1 : _ = some (Value.int .i64 o) := (hM2.box 1 rfl).facts.1 0
  have q2 : _ = some (Value.int .i64 (p : Int)) := (hM2.box 2 rfl).facts.1 0
  have q3 : _ = some (Value.int .i64 0) := (hM2.box 3 rfl).facts.1 0
  have q4 : _ = some (Value.int .i64 131072) := (hM2.box 3 rfl).facts.1 1
  have g1 := hM2.lt (i := 1) (k := b1) rfl rfl
  have g2 := hM2.lt (i := 2) (k := b2) rfl rfl
  have g3 := hM2.lt (i := 3) (k := b3) rfl rfl
  have hRq := hR.mono hM2.ex.ple
  obtain ⟨r0, r1⟩ := hRq.at hp
  have rl := cell_lt r0
  have hd1 := fun w => lhas_c 0 131072 x.day w
  have hd2 := fun w => lhas_c (loR p) (hiR p) x.amount w
  rw [show inB x.amount (loR p) (hiR p) = inR p x.amount from rfl] at hd2
  generalize inR p x.amount = qa at *
  generalize inB x.day 0 131072 = qd at *
  generalize loR p = lo9 at *
  generalize hiR p = hi9 at *
  generalize (actC x).toArray = X at *
  generalize x.kind = kd at *
  generalize x.office = xo at *
  generalize x.number = xn at *
  generalize x.day = xd at *
  generalize x.amount = xa at *
  have hp19 : (p : Int) < 19 := by omega
  replace hd1 := Lib.hid hd1
  replace hd2 := Lib.hid hd2
  clear hM hM2 hO hRq hI
  have hcs : ((kd != 21) = true ∧ rulB o p x = false) ∨ ((kd != 21) = false ∧ (xo != o) = true ∧ rulB o p x = false) ∨ ((kd != 21) = false ∧ (xo != o) = false ∧ (xn != (p : Int)) = true ∧ rulB o p x = false) ∨ ((kd != 21) = false ∧ (xo != o) = false ∧ (xn != (p : Int)) = false ∧ qd = false ∧ rulB o p x = false) ∨ ((kd != 21) = false ∧ (xo != o) = false ∧ (xn != (p : Int)) = false ∧ qd = true ∧ rulB o p x = qa) := by
    rw [hB.out]
    by_cases h1 : kd = 21
    · by_cases h2 : xo = o
      · by_cases h3 : xn = (p : Int)
        · cases qd
          · exact .inr (.inr (.inr (.inl ⟨by simpa using h1, by simpa using h2, by simpa using h3, rfl, by simp [h1, h2, h3]⟩)))
          · exact .inr (.inr (.inr (.inr ⟨by simpa using h1, by simpa using h2, by simpa using h3, rfl, by simp [h1, h2, h3]⟩)))
        · exact .inr (.inr (.inl ⟨by simpa using h1, by simpa using h2, by simpa using h3, by simp [h3]⟩))
      · exact .inr (.inl ⟨by simpa using h1, by simpa using h2, by simp [h2]⟩)
    · exact .inl ⟨by simpa using h1, by simp [h1]⟩
  clear hB
  generalize hW : w.alloc (.cells X 67) = W at *
  rcases hcs with ⟨k1, kr⟩ | ⟨k1, k2, kr⟩ | ⟨k1, k2, k3, kr⟩ | ⟨k1, k2, k3, rfl, kr⟩ | ⟨k1, k2, k3, rfl, kr⟩
  all_goals
    simp only [kr]
    clear kr
    go_enter Tryz.func38, Tryz.ntmps38
    go_upto_region 1 with (fail)
    try rw [hW]
    clear hW
    (refine wp_region_I 31 (by kernel_rfl) (by kernel_rfl) ?_; simp only [List.toList_toArray, List.take_succ_cons, List.take_zero, List.drop_succ_cons, List.drop_zero])
    (repeat (first | (refine walkI_no rfl (by simp) rfl rfl rfl ?_ ?_; (focus (simp [undef]; done)); (try simp only [List.nil_append, List.cons_append])) | (refine walkI_is (u := ?_) rfl (by simp) rfl ?_ ?_; rotate_left; (focus (intro A w' hS hA K hK; (simp only [List.map_cons, List.map_nil, knows, Is, Op.operands, Call.operands, List.lookup_cons, List.lookup_nil, Nat.reduceBEq, Bool.false_eq_true, if_false, if_true, Act.eval, Array.getD_eq_getD_getElem?, List.getElem?_toArray, List.getElem?_cons_succ, List.getElem?_cons_zero, Option.getD_some, and_true, true_and, List.append_toArray, List.nil_append, List.cons_append, List.toList_toArray, Array.toList_append, Option.toArray, List.append_nil] at hA); first | fail | (obtain ⟨hSc, hSf, hSs⟩ := hS.cells; go_simp; exact hK _ (by repeat (first | (with_reducible assumption) | (with_reducible exact Ext.rfl' _) | (with_reducible exact Ext.new _ _) | (with_reducible refine Ext.alloc' ?_ _) | (with_reducible refine Ext.drew' ?_) | (with_reducible refine Ext.drewN' ?_ _) | (with_reducible refine Ext.set' ?_ ?_ _; rotate_left; (focus (first | omega | (simp; done) | (simp; omega)))) | (with_reducible refine Ext.then (b := ?_) ?_ ?_; rotate_left; rotate_left; (with_reducible assumption))))))); (try simp only [List.nil_append, List.cons_append])) | (refine walkI_yesis (u := ?_) rfl (by simp) rfl rfl rfl ?_ ?_; rotate_left; (focus (intro A w' hS hA K hK; (simp only [List.map_cons, List.map_nil, knows, Is, Op.operands, Call.operands, List.lookup_cons, List.lookup_nil, Nat.reduceBEq, Bool.false_eq_true, if_false, if_true, Act.eval, Array.getD_eq_getD_getElem?, List.getElem?_toArray, List.getElem?_cons_succ, List.getElem?_cons_zero, Option.getD_some, and_true, true_and, List.append_toArray, List.nil_append, List.cons_append, List.toList_toArray, Array.toList_append, Option.toArray, List.append_nil] at hA); first | fail | (obtain ⟨hSc, hSf, hSs⟩ := hS.cells; go_simp; exact hK _ (by repeat (first | (with_reducible assumption) | (with_reducible exact Ext.rfl' _) | (with_reducible exact Ext.new _ _) | (with_reducible refine Ext.alloc' ?_ _) | (with_reducible refine Ext.drew' ?_) | (with_reducible refine Ext.drewN' ?_ _) | (with_reducible refine Ext.set' ?_ ?_ _; rotate_left; (focus (first | omega | (simp; done) | (simp; omega)))) | (with_reducible refine Ext.then (b := ?_) ?_ ?_; rotate_left; rotate_left; (with_reducible assumption))))))); (try simp only [List.nil_append, List.cons_append]))))
    try ((refine walkI_yesis (u := ?_) rfl (by simp) rfl rfl rfl ?_ ?_; rotate_left; (focus (intro A w' hS hA K hK; (simp only [List.map_cons, List.map_nil, knows, Is, Op.operands, Call.operands, List.lookup_cons, List.lookup_nil, Nat.reduceBEq, Bool.false_eq_true, if_false, if_true, Act.eval, Array.getD_eq_getD_getElem?, List.getElem?_toArray, List.getElem?_cons_succ, List.getElem?_cons_zero, Option.getD_some, and_true, true_and, List.append_toArray, List.nil_append, List.cons_append, List.toList_toArray, Array.toList_append, Option.toArray, List.append_nil] at hA); first | (go_simp; refine RetV_at (hd1.out w') ?_; intro w6 hx6; exact hK _ hx6) | (obtain ⟨hSc, hSf, hSs⟩ := hS.cells; go_simp; exact hK _ (by repeat (first | (with_reducible assumption) | (with_reducible exact Ext.rfl' _) | (with_reducible exact Ext.new _ _) | (with_reducible refine Ext.alloc' ?_ _) | (with_reducible refine Ext.drew' ?_) | (with_reducible refine Ext.drewN' ?_ _) | (with_reducible refine Ext.set' ?_ ?_ _; rotate_left; (focus (first | omega | (simp; done) | (simp; omega)))) | (with_reducible refine Ext.then (b := ?_) ?_ ?_; rotate_left; rotate_left; (with_reducible assumption))))))); (try simp only [List.nil_append, List.cons_append])))
    (repeat (first | (refine walkI_no rfl (by simp) rfl rfl rfl ?_ ?_; (focus (simp [undef]; done)); (try simp only [List.nil_append, List.cons_append])) | (refine walkI_is (u := ?_) rfl (by simp) rfl ?_ ?_; rotate_left; (focus (intro A w' hS hA K hK; (simp only [List.map_cons, List.map_nil, knows, Is, Op.operands, Call.operands, List.lookup_cons, List.lookup_nil, Nat.reduceBEq, Bool.false_eq_true, if_false, if_true, Act.eval, Array.getD_eq_getD_getElem?, List.getElem?_toArray, List.getElem?_cons_succ, List.getElem?_cons_zero, Option.getD_some, and_true, true_and, List.append_toArray, List.nil_append, List.cons_append, List.toList_toArray, Array.toList_append, Option.toArray, List.append_nil] at hA); first | fail | (obtain ⟨hSc, hSf, hSs⟩ := hS.cells; go_simp; exact hK _ (by repeat (first | (with_reducible assumption) | (with_reducible exact Ext.rfl' _) | (with_reducible exact Ext.new _ _) | (with_reducible refine Ext.alloc' ?_ _) | (with_reducible refine Ext.drew' ?_) | (with_reducible refine Ext.drewN' ?_ _) | (with_reducible refine Ext.set' ?_ ?_ _; rotate_left; (focus (first | omega | (simp; done) | (simp; omega)))) | (with_reducible refine Ext.then (b := ?_) ?_ ?_; rotate_left; rotate_left; (with_reducible assumption))))))); (try simp only [List.nil_append, List.cons_append])) | (refine walkI_yesis (u := ?_) rfl (by simp) rfl rfl rfl ?_ ?_; rotate_left; (focus (intro A w' hS hA K hK; (simp only [List.map_cons, List.map_nil, knows, Is, Op.operands, Call.operands, List.lookup_cons, List.lookup_nil, Nat.reduceBEq, Bool.false_eq_true, if_false, if_true, Act.eval, Array.getD_eq_getD_getElem?, List.getElem?_toArray, List.getElem?_cons_succ, List.getElem?_cons_zero, Option.getD_some, and_true, true_and, List.append_toArray, List.nil_append, List.cons_append, List.toList_toArray, Array.toList_append, Option.toArray, List.append_nil] at hA); first | fail | (obtain ⟨hSc, hSf, hSs⟩ := hS.cells; go_simp; exact hK _ (by repeat (first | (with_reducible assumption) | (with_reducible exact Ext.rfl' _) | (with_reducible exact Ext.new _ _) | (with_reducible refine Ext.alloc' ?_ _) | (with_reducible refine Ext.drew' ?_) | (with_reducible refine Ext.drewN' ?_ _) | (with_reducible refine Ext.set' ?_ ?_ _; rotate_left; (focus (first | omega | (simp; done) | (simp; omega)))) | (with_reducible refine Ext.then (b := ?_) ?_ ?_; rotate_left; rotate_left; (with_reducible assumption))))))); (try simp only [List.nil_append, List.cons_append]))))
    try ((refine walkI_yesis (u := ?_) rfl (by simp) rfl rfl rfl ?_ ?_; rotate_left; (focus (intro A w' hS hA K hK; (simp only [List.map_cons, List.map_nil, knows, Is, Op.operands, Call.operands, List.lookup_cons, List.lookup_nil, Nat.reduceBEq, Bool.false_eq_true, if_false, if_true, Act.eval, Array.getD_eq_getD_getElem?, List.getElem?_toArray, List.getElem?_cons_succ, List.getElem?_cons_zero, Option.getD_some, and_true, true_and, List.append_toArray, List.nil_append, List.cons_append, List.toList_toArray, Array.toList_append, Option.toArray, List.append_nil] at hA); first | (go_simp; refine RetV_at (hd2.out w') ?_; intro w6 hx6; exact hK _ hx6) | (obtain ⟨hSc, hSf, hSs⟩ := hS.cells; go_simp; exact hK _ (by repeat (first | (with_reducible assumption) | (with_reducible exact Ext.rfl' _) | (with_reducible exact Ext.new _ _) | (with_reducible refine Ext.alloc' ?_ _) | (with_reducible refine Ext.drew' ?_) | (with_reducible refine Ext.drewN' ?_ _) | (with_reducible refine Ext.set' ?_ ?_ _; rotate_left; (focus (first | omega | (simp; done) | (simp; omega)))) | (with_reducible refine Ext.then (b := ?_) ?_ ?_; rotate_left; rotate_left; (with_reducible assumption))))))); (try simp only [List.nil_append, List.cons_append])))
    (repeat (first | (refine walkI_no rfl (by simp) rfl rfl rfl ?_ ?_; (focus (simp [undef]; done)); (try simp only [List.nil_append, List.cons_append])) | (refine walkI_is (u := ?_) rfl (by simp) rfl ?_ ?_; rotate_left; (focus (intro A w' hS hA K hK; (simp only [List.map_cons, List.map_nil, knows, Is, Op.operands, Call.operands, List.lookup_cons, List.lookup_nil, Nat.reduceBEq, Bool.false_eq_true, if_false, if_true, Act.eval, Array.getD_eq_getD_getElem?, List.getElem?_toArray, List.getElem?_cons_succ, List.getElem?_cons_zero, Option.getD_some, and_true, true_and, List.append_toArray, List.nil_append, List.cons_append, List.toList_toArray, Array.toList_append, Option.toArray, List.append_nil] at hA); first | fail | (obtain ⟨hSc, hSf, hSs⟩ := hS.cells; go_simp; exact hK _ (by repeat (first | (with_reducible assumption) | (with_reducible exact Ext.rfl' _) | (with_reducible exact Ext.new _ _) | (with_reducible refine Ext.alloc' ?_ _) | (with_reducible refine Ext.drew' ?_) | (with_reducible refine Ext.drewN' ?_ _) | (with_reducible refine Ext.set' ?_ ?_ _; rotate_left; (focus (first | omega | (simp; done) | (simp; omega)))) | (with_reducible refine Ext.then (b := ?_) ?_ ?_; rotate_left; rotate_left; (with_reducible assumption))))))); (try simp only [List.nil_append, List.cons_append])) | (refine walkI_yesis (u := ?_) rfl (by simp) rfl rfl rfl ?_ ?_; rotate_left; (focus (intro A w' hS hA K hK; (simp only [List.map_cons, List.map_nil, knows, Is, Op.operands, Call.operands, List.lookup_cons, List.lookup_nil, Nat.reduceBEq, Bool.false_eq_true, if_false, if_true, Act.eval, Array.getD_eq_getD_getElem?, List.getElem?_toArray, List.getElem?_cons_succ, List.getElem?_cons_zero, Option.getD_some, and_true, true_and, List.append_toArray, List.nil_append, List.cons_append, List.toList_toArray, Array.toList_append, Option.toArray, List.append_nil] at hA); first | fail | (obtain ⟨hSc, hSf, hSs⟩ := hS.cells; go_simp; exact hK _ (by repeat (first | (with_reducible assumption) | (with_reducible exact Ext.rfl' _) | (with_reducible exact Ext.new _ _) | (with_reducible refine Ext.alloc' ?_ _) | (with_reducible refine Ext.drew' ?_) | (with_reducible refine Ext.drewN' ?_ _) | (with_reducible refine Ext.set' ?_ ?_ _; rotate_left; (focus (first | omega | (simp; done) | (simp; omega)))) | (with_reducible refine Ext.then (b := ?_) ?_ ?_; rotate_left; rotate_left; (with_reducible assumption))))))); (try simp only [List.nil_append, List.cons_append]))))
    (refine walkI_nil ?_; simp only [List.nil_append, List.cons_append, fins, Is, forall_eq, Act.put, List.setIfInBounds_toArray, List.set_cons_zero, List.set_cons_succ])
    intro w9 hx9
    go_wp2_with fail
    go_ret
    exact ⟨rfl, hx.then hx9⟩
end Go.Proofs.YtcmdekhhclgdcaaGreatDoor
