/- The reference's Compare. -/
import Derived.Test.YtebhdjeognpljaaOrder
namespace Go.Proofs.Ytebhdjeognpljaa
open Go.RowKit
set_option linter.unusedSimpArgs false
set_option linter.unusedVariables false
def flat (l : List Val) : List Int := l.flatMap fun v => [v.attr, v.n.num, v.n.den]
theorem flat_len (l : List Val) : (flat l).length = 3 * l.length := by
  induction l with
  | nil => rfl
  | cons x l ih => simp only [flat, List.flatMap_cons, List.length_append, List.length_cons, List.length_nil] at *; omega
theorem flat_snoc (l : List Val) (k : Nat) (h : k < l.length) : flat (l.take (k + 1)) = flat (l.take k) ++ [l[k].attr, l[k].n.num, l[k].n.den] := by
  unfold flat; rw [take_snoc l k h, List.flatMap_append]; simp
theorem cmpI_self (a : Int) : cmpI a a = 0 := cmpI_eq (by omega) (by omega)
theorem cmp_flat : ∀ a b : List Val, cmpL cmpI (flat a) (flat b) = cmpL cmpV a b
  | [], [] => rfl
  | [], _ :: _ => rfl
  | _ :: _, [] => rfl
  | x :: a, y :: b => by
    have h1 := cmpI_ord x.attr
    have ih := cmp_flat a b
    have e1 : flat (x :: a) = x.attr :: x.n.num :: x.n.den :: flat a := rfl
    have e2 : flat (y :: b) = y.attr :: y.n.num :: y.n.den :: flat b := rfl
    rw [e1, e2]
    simp only [cmpL, cmpV]
    by_cases g1 : cmpI x.attr y.attr = 0
    · by_cases g2 : cmpI x.n.num y.n.num = 0
      · by_cases g3 : cmpI x.n.den y.n.den = 0
        · simp [g1, g2, g3, ih]
        · simp [g1, g2, g3]
      · simp [g1, g2]
    · simp [g1]
set_option maxRecDepth 100000 in
set_option maxHeartbeats 1000000 in
theorem ints_r (vs ws : Value) (xs ys : List Int) (w : World) (hr : IntsR (ph w) vs xs) (hs : IntsR (ph w) ws ys) :
    Calls Try.prog 53 #[vs, ws] w (RetV w (.int .i64 (cmpL cmpI xs ys))) := by
  obtain ⟨a, c, rfl, hlen, hr⟩ := hr.form
  obtain ⟨a', c', rfl, hlen', hs⟩ := hs.form
  have hcD := Lib.hid (fun k h => cmpL_done (f := cmpI) (xs := xs) (ys := ys) (k := k) h)
  go_enter Try.func53, Try.ntmps53
  go_wp2_with fail
  go_loopw [5] (fun i wr => ∃ k : Nat, k ≤ xs.length ∧ k ≤ ys.length ∧ i = .int .i64 k ∧ Hid (zeroUpto cmpI xs ys k) ∧ Ext w wr) (fun i _ => xs.length - (intOf i).toNat)
  case atStart => exact ⟨0, Nat.zero_le _, Nat.zero_le _, rfl, Lib.hid (fun j _ _ h => by omega), (by repeat (first | (with_reducible assumption) | (with_reducible exact Ext.rfl' _) | (with_reducible exact Ext.new _ _) | (with_reducible refine Ext.alloc' ?_ _) | (with_reducible refine Ext.drew' ?_) | (with_reducible refine Ext.drewN' ?_ _) | (with_reducible refine Ext.set' ?_ ?_ _; rotate_left; (focus (first | omega | (simp; done) | (simp; omega)))) | (with_reducible refine Ext.then (b := ?_) ?_ ?_; rotate_left; rotate_left; (with_reducible assumption))))⟩
  case round =>
    obtain ⟨k, hk, hk', rfl, HZ, hb⟩ := hrel
    by_cases hlt : k < xs.length ∧ k < ys.length
    · obtain ⟨hx, hy⟩ := hlt
      obtain ⟨b, o, rfl, h0, hi, hbl⟩ := IntsR.at (hr.mono mono_IntR hb.ple) k hx
      obtain ⟨b', o', rfl, h0', hi', hbl'⟩ := IntsR.at (hs.mono mono_IntR hb.ple) k hy
      have hsucc := Lib.hid (fun h => zeroUpto_succ HZ.out hx hy h)
      have hat := Lib.hid (fun h => cmpL_at hx hy HZ.out h)
      generalize xs[k] = x at *
      generalize ys[k] = y at *
      clear hr hs
      by_cases hxy : x = y
      · subst hxy
        go_wp2_with fail
        (refine wp_region_I 9 (by kernel_rfl) (by kernel_rfl) ?_; simp only [List.toList_toArray, List.take_succ_cons, List.take_zero, List.drop_succ_cons, List.drop_zero])
        (repeat (first | (refine walkI_no rfl (by simp) rfl rfl rfl ?_ ?_; (focus (simp [undef]; done)); (try simp only [List.nil_append, List.cons_append])) | (refine walkI_is (u := ?_) rfl (by simp) rfl ?_ ?_; rotate_left; (focus (intro A w' hS hA K hK; (simp only [List.map_cons, List.map_nil, knows, Is, Op.operands, Call.operands, List.lookup_cons, List.lookup_nil, Nat.reduceBEq, Bool.false_eq_true, if_false, if_true, Act.eval, Array.getD_eq_getD_getElem?, List.getElem?_toArray, List.getElem?_cons_succ, List.getElem?_cons_zero, Option.getD_some, and_true, true_and, List.append_toArray, List.nil_append, List.cons_append, List.toList_toArray, Array.toList_append] at hA); first | fail | (obtain ⟨hSc, hSf, hSs⟩ := hS.cells; go_simp; exact hK _ (by repeat (first | (with_reducible assumption) | (with_reducible exact Ext.rfl' _) | (with_reducible exact Ext.new _ _) | (with_reducible refine Ext.alloc' ?_ _) | (with_reducible refine Ext.drew' ?_) | (with_reducible refine Ext.drewN' ?_ _) | (with_reducible refine Ext.set' ?_ ?_ _; rotate_left; (focus (first | omega | (simp; done) | (simp; omega)))) | (with_reducible refine Ext.then (b := ?_) ?_ ?_; rotate_left; rotate_left; (with_reducible assumption))))))); (try simp only [List.nil_append, List.cons_append])) | (refine walkI_yesis (u := ?_) rfl (by simp) rfl rfl rfl ?_ ?_; rotate_left; (focus (intro A w' hS hA K hK; (simp only [List.map_cons, List.map_nil, knows, Is, Op.operands, Call.operands, List.lookup_cons, List.lookup_nil, Nat.reduceBEq, Bool.false_eq_true, if_false, if_true, Act.eval, Array.getD_eq_getD_getElem?, List.getElem?_toArray, List.getElem?_cons_succ, List.getElem?_cons_zero, Option.getD_some, and_true, true_and, List.append_toArray, List.nil_append, List.cons_append, List.toList_toArray, Array.toList_append] at hA); first | fail | (obtain ⟨hSc, hSf, hSs⟩ := hS.cells; go_simp; exact hK _ (by repeat (first | (with_reducible assumption) | (with_reducible exact Ext.rfl' _) | (with_reducible exact Ext.new _ _) | (with_reducible refine Ext.alloc' ?_ _) | (with_reducible refine Ext.drew' ?_) | (with_reducible refine Ext.drewN' ?_ _) | (with_reducible refine Ext.set' ?_ ?_ _; rotate_left; (focus (first | omega | (simp; done) | (simp; omega)))) | (with_reducible refine Ext.then (b := ?_) ?_ ?_; rotate_left; rotate_left; (with_reducible assumption))))))); (try simp only [List.nil_append, List.cons_append]))))
        (refine walkI_nil ?_; simp only [List.nil_append, List.cons_append, fins, Is, forall_eq, Act.put, List.setIfInBounds_toArray, List.set_cons_zero, List.set_cons_succ])
        intro w2 hb2
        go_wp2_with fail
        go_roundw
        case rel => exact ⟨k + 1, by omega, by omega, by go_num, Lib.hid (hsucc.out (cmpI_self x)), (by repeat (first | (with_reducible assumption) | (with_reducible exact Ext.rfl' _) | (with_reducible exact Ext.new _ _) | (with_reducible refine Ext.alloc' ?_ _) | (with_reducible refine Ext.drew' ?_) | (with_reducible refine Ext.drewN' ?_ _) | (with_reducible refine Ext.set' ?_ ?_ _; rotate_left; (focus (first | omega | (simp; done) | (simp; omega)))) | (with_reducible refine Ext.then (b := ?_) ?_ ?_; rotate_left; rotate_left; (with_reducible assumption))))⟩
        case measure => simp [intOf]; omega
      · have hxb : (x == y) = false := by simpa using hxy
        have hxn : (x != y) = true := by simpa using hxy
        replace hxy := Lib.hid hxy
        go_wp2_with fail
        (refine wp_region_I 9 (by kernel_rfl) (by kernel_rfl) ?_; simp only [List.toList_toArray, List.take_succ_cons, List.take_zero, List.drop_succ_cons, List.drop_zero])
        (repeat (first | (refine walkI_no rfl (by simp) rfl rfl rfl ?_ ?_; (focus (simp [undef]; done)); (try simp only [List.nil_append, List.cons_append])) | (refine walkI_is (u := ?_) rfl (by simp) rfl ?_ ?_; rotate_left; (focus (intro A w' hS hA K hK; (simp only [List.map_cons, List.map_nil, knows, Is, Op.operands, Call.operands, List.lookup_cons, List.lookup_nil, Nat.reduceBEq, Bool.false_eq_true, if_false, if_true, Act.eval, Array.getD_eq_getD_getElem?, List.getElem?_toArray, List.getElem?_cons_succ, List.getElem?_cons_zero, Option.getD_some, and_true, true_and, List.append_toArray, List.nil_append, List.cons_append, List.toList_toArray, Array.toList_append] at hA); first | fail | (obtain ⟨hSc, hSf, hSs⟩ := hS.cells; go_simp; exact hK _ (by repeat (first | (with_reducible assumption) | (with_reducible exact Ext.rfl' _) | (with_reducible exact Ext.new _ _) | (with_reducible refine Ext.alloc' ?_ _) | (with_reducible refine Ext.drew' ?_) | (with_reducible refine Ext.drewN' ?_ _) | (with_reducible refine Ext.set' ?_ ?_ _; rotate_left; (focus (first | omega | (simp; done) | (simp; omega)))) | (with_reducible refine Ext.then (b := ?_) ?_ ?_; rotate_left; rotate_left; (with_reducible assumption))))))); (try simp only [List.nil_append, List.cons_append])) | (refine walkI_yesis (u := ?_) rfl (by simp) rfl rfl rfl ?_ ?_; rotate_left; (focus (intro A w' hS hA K hK; (simp only [List.map_cons, List.map_nil, knows, Is, Op.operands, Call.operands, List.lookup_cons, List.lookup_nil, Nat.reduceBEq, Bool.false_eq_true, if_false, if_true, Act.eval, Array.getD_eq_getD_getElem?, List.getElem?_toArray, List.getElem?_cons_succ, List.getElem?_cons_zero, Option.getD_some, and_true, true_and, List.append_toArray, List.nil_append, List.cons_append, List.toList_toArray, Array.toList_append] at hA); first | fail | (obtain ⟨hSc, hSf, hSs⟩ := hS.cells; go_simp; exact hK _ (by repeat (first | (with_reducible assumption) | (with_reducible exact Ext.rfl' _) | (with_reducible exact Ext.new _ _) | (with_reducible refine Ext.alloc' ?_ _) | (with_reducible refine Ext.drew' ?_) | (with_reducible refine Ext.drewN' ?_ _) | (with_reducible refine Ext.set' ?_ ?_ _; rotate_left; (focus (first | omega | (simp; done) | (simp; omega)))) | (with_reducible refine Ext.then (b := ?_) ?_ ?_; rotate_left; rotate_left; (with_reducible assumption))))))); (try simp only [List.nil_append, List.cons_append]))))
        (refine walkI_nil ?_; simp only [List.nil_append, List.cons_append, fins, Is, forall_eq, Act.put, List.setIfInBounds_toArray, List.set_cons_zero, List.set_cons_succ])
        intro w2 hb2
        replace h0 := hb2.cell1 h0
        replace h0' := hb2.cell1 h0'
        replace hbl := cell_lt h0
        replace hbl' := cell_lt h0'
        go_wp2_with fail
        (refine wp_region_I 9 (by kernel_rfl) (by kernel_rfl) ?_; simp only [List.toList_toArray, List.take_succ_cons, List.take_zero, List.drop_succ_cons, List.drop_zero])
        (repeat (first | (refine walkI_no rfl (by simp) rfl rfl rfl ?_ ?_; (focus (simp [undef]; done)); (try simp only [List.nil_append, List.cons_append])) | (refine walkI_is (u := ?_) rfl (by simp) rfl ?_ ?_; rotate_left; (focus (intro A w' hS hA K hK; (simp only [List.map_cons, List.map_nil, knows, Is, Op.operands, Call.operands, List.lookup_cons, List.lookup_nil, Nat.reduceBEq, Bool.false_eq_true, if_false, if_true, Act.eval, Array.getD_eq_getD_getElem?, List.getElem?_toArray, List.getElem?_cons_succ, List.getElem?_cons_zero, Option.getD_some, and_true, true_and, List.append_toArray, List.nil_append, List.cons_append, List.toList_toArray, Array.toList_append] at hA); first | (obtain ⟨hSc, hSf, hSs⟩ := hS.cells; go_simp; refine RetV_at (order_c x y _) ?_; intro w'' hbx; exact hK _ hbx) | (obtain ⟨hSc, hSf, hSs⟩ := hS.cells; go_simp; exact hK _ (by repeat (first | (with_reducible assumption) | (with_reducible exact Ext.rfl' _) | (with_reducible exact Ext.new _ _) | (with_reducible refine Ext.alloc' ?_ _) | (with_reducible refine Ext.drew' ?_) | (with_reducible refine Ext.drewN' ?_ _) | (with_reducible refine Ext.set' ?_ ?_ _; rotate_left; (focus (first | omega | (simp; done) | (simp; omega)))) | (with_reducible refine Ext.then (b := ?_) ?_ ?_; rotate_left; rotate_left; (with_reducible assumption))))))); (try simp only [List.nil_append, List.cons_append])) | (refine walkI_yesis (u := ?_) rfl (by simp) rfl rfl rfl ?_ ?_; rotate_left; (focus (intro A w' hS hA K hK; (simp only [List.map_cons, List.map_nil, knows, Is, Op.operands, Call.operands, List.lookup_cons, List.lookup_nil, Nat.reduceBEq, Bool.false_eq_true, if_false, if_true, Act.eval, Array.getD_eq_getD_getElem?, List.getElem?_toArray, List.getElem?_cons_succ, List.getElem?_cons_zero, Option.getD_some, and_true, true_and, List.append_toArray, List.nil_append, List.cons_append, List.toList_toArray, Array.toList_append] at hA); first | (obtain ⟨hSc, hSf, hSs⟩ := hS.cells; go_simp; refine RetV_at (order_c x y _) ?_; intro w'' hbx; exact hK _ hbx) | (obtain ⟨hSc, hSf, hSs⟩ := hS.cells; go_simp; exact hK _ (by repeat (first | (with_reducible assumption) | (with_reducible exact Ext.rfl' _) | (with_reducible exact Ext.new _ _) | (with_reducible refine Ext.alloc' ?_ _) | (with_reducible refine Ext.drew' ?_) | (with_reducible refine Ext.drewN' ?_ _) | (with_reducible refine Ext.set' ?_ ?_ _; rotate_left; (focus (first | omega | (simp; done) | (simp; omega)))) | (with_reducible refine Ext.then (b := ?_) ?_ ?_; rotate_left; rotate_left; (with_reducible assumption))))))); (try simp only [List.nil_append, List.cons_append]))))
        (refine walkI_nil ?_; simp only [List.nil_append, List.cons_append, fins, Is, forall_eq, Act.put, List.setIfInBounds_toArray, List.set_cons_zero, List.set_cons_succ])
        intro w3 hb3
        have hne : Hid (cmpI x y = cmpL cmpI xs ys) := (hat.out fun h => hxy.out ((cmpI_ord x).eq y |>.1 h)).symm
        clear hat hsucc
        generalize cmpI x y = z at *
        go_wp2_with fail
        go_ret
        exact ⟨ret_int hne.out, (by repeat (first | (with_reducible assumption) | (with_reducible exact Ext.rfl' _) | (with_reducible exact Ext.new _ _) | (with_reducible refine Ext.alloc' ?_ _) | (with_reducible refine Ext.drew' ?_) | (with_reducible refine Ext.drewN' ?_ _) | (with_reducible refine Ext.set' ?_ ?_ _; rotate_left; (focus (first | omega | (simp; done) | (simp; omega)))) | (with_reducible refine Ext.then (b := ?_) ?_ ?_; rotate_left; rotate_left; (with_reducible assumption))))⟩
    · have hd := Lib.hid (hcD.out k HZ.out (by omega))
      clear hr hs
      by_cases hx : k < xs.length
      · have hy : ¬ k < ys.length := by omega
        clear hlt
        go_wp2_with fail
        refine RetV_at (order_c _ _ _) ?_
        intro w2 hb2
        rw [← hd.out]
        generalize cmpL cmpI xs ys = z at *
        go_wp2_with fail
        go_ret
        exact ⟨rfl, (by repeat (first | (with_reducible assumption) | (with_reducible exact Ext.rfl' _) | (with_reducible exact Ext.new _ _) | (with_reducible refine Ext.alloc' ?_ _) | (with_reducible refine Ext.drew' ?_) | (with_reducible refine Ext.drewN' ?_ _) | (with_reducible refine Ext.set' ?_ ?_ _; rotate_left; (focus (first | omega | (simp; done) | (simp; omega)))) | (with_reducible refine Ext.then (b := ?_) ?_ ?_; rotate_left; rotate_left; (with_reducible assumption))))⟩
      · clear hlt
        go_wp2_with fail
        refine RetV_at (order_c _ _ _) ?_
        intro w2 hb2
        rw [← hd.out]
        generalize cmpL cmpI xs ys = z at *
        go_wp2_with fail
        go_ret
        exact ⟨rfl, (by repeat (first | (with_reducible assumption) | (with_reducible exact Ext.rfl' _) | (with_reducible exact Ext.new _ _) | (with_reducible refine Ext.alloc' ?_ _) | (with_reducible refine Ext.drew' ?_) | (with_reducible refine Ext.drewN' ?_ _) | (with_reducible refine Ext.set' ?_ ?_ _; rotate_left; (focus (first | omega | (simp; done) | (simp; omega)))) | (with_reducible refine Ext.then (b := ?_) ?_ ?_; rotate_left; rotate_left; (with_reducible assumption))))⟩
theorem srcArr {α : Type} {E : PH → List Value → α → Prop} {H : PH} {sz : Nat} {w : World} {b n : Nat} {cur : Array Value} {T : TypeId} {xs : List α} (hO : Own w b cur T) (hc : Cells H E sz cur.toList xs) (hn : n = xs.length) : Src w H E sz (.slice (some ⟨b, 0, none⟩) n n) xs := by
  subst hn
  refine ⟨_, _, rfl, Nat.le_refl _, .inr ⟨_, _, rfl, hc, fun j u hu => ?_⟩⟩
  rw [add0, hO.facts.1]
  simpa using hu
def ArrP (arr : Array Value) (n : Nat) (T : TypeId) : Prop1 := fun v w => ∃ g, v = .slice (some ⟨g, 0, none⟩) n n ∧ Own w g arr T
theorem stab_ArrP {W : World} (arr : Array Value) (n : Nat) (T : TypeId) : Stable W (ArrP arr n T) := fun v w w' _ ⟨g, h1, h2⟩ e => ⟨g, h1, h2.keep e⟩
def FreshI (w : World) (xs : List Int) (e : Ending) (w' : World) : Prop := ∃ v, e = .returned v ∧ OwnI w.heap.size w' v xs ∧ Ext w w'
set_option maxRecDepth 100000 in
set_option maxHeartbeats 1000000 in
theorem numbers_r (vs : Value) (l : List Val) (w : World) (hr : ValsR (ph w) vs l) (hl : l.length ≤ 1000000) :
    Calls Try.prog 54 #[vs] w (FreshI w (flat l)) := by
  obtain ⟨a, c, rfl, hlen, hr⟩ := hr.form
  go_enter Try.func54, Try.ntmps54
  go_wp2_with fail
  go_loopw [3, 4] (fun v i wr => ∃ k : Nat, k ≤ l.length ∧ i = .int .i64 k ∧ Mem w noH [own mono_IntR 1 3 v (flat (l.take k))] noH wr) (fun _ i _ => l.length - (intOf i).toNat)
  case atStart => exact ⟨0, Nat.zero_le _, rfl, (Mem.start w noH (noH_le _)).nil _ _ _⟩
  case round =>
    rename_i vv _
    obtain ⟨k, hk, rfl, hS⟩ := hrel
    obtain ⟨av, cv, rfl, hfl⟩ := hS.form 0 rfl
    by_cases hlt : k < l.length
    · obtain ⟨b, o, rfl, h0, h1, h2, i0, i1, i2, hbl⟩ := ValsR.at (hr.mono mono_ValR hS.ex.ple) k hlt
      have hsn := Lib.hid (flat_snoc l k hlt)
      have hfk := Lib.hid (flat_len (l.take k))
      generalize l[k] = x at *
      clear hr
      go_wp2_with fail
      (refine wp_region_I 19 (by kernel_rfl) (by kernel_rfl) ?_; simp only [List.toList_toArray, List.take_succ_cons, List.take_zero, List.drop_succ_cons, List.drop_zero])
      (repeat (first | (refine walkI_no rfl (by simp) rfl rfl rfl ?_ ?_; (focus (simp [undef]; done)); (try simp only [List.nil_append, List.cons_append])) | (refine walkI_is (u := ?_) rfl (by simp) rfl ?_ ?_; rotate_left; (focus (intro A w' hS hA K hK; (simp only [List.map_cons, List.map_nil, knows, Is, Op.operands, Call.operands, List.lookup_cons, List.lookup_nil, Nat.reduceBEq, Bool.false_eq_true, if_false, if_true, Act.eval, Array.getD_eq_getD_getElem?, List.getElem?_toArray, List.getElem?_cons_succ, List.getElem?_cons_zero, Option.getD_some, and_true, true_and, List.append_toArray, List.nil_append, List.cons_append, List.toList_toArray, Array.toList_append] at hA); first | fail | (obtain ⟨hSc, hSf, hSs⟩ := hS.cells; go_simp; exact hK _ (by repeat (first | (with_reducible assumption) | (with_reducible exact Ext.rfl' _) | (with_reducible exact Ext.new _ _) | (with_reducible refine Ext.alloc' ?_ _) | (with_reducible refine Ext.drew' ?_) | (with_reducible refine Ext.drewN' ?_ _) | (with_reducible refine Ext.set' ?_ ?_ _; rotate_left; (focus (first | omega | (simp; done) | (simp; omega)))) | (with_reducible refine Ext.then (b := ?_) ?_ ?_; rotate_left; rotate_left; (with_reducible assumption))))))); (try simp only [List.nil_append, List.cons_append])) | (refine walkI_yesis (u := ?_) rfl (by simp) rfl rfl rfl ?_ ?_; rotate_left; (focus (intro A w' hS hA K hK; (simp only [List.map_cons, List.map_nil, knows, Is, Op.operands, Call.operands, List.lookup_cons, List.lookup_nil, Nat.reduceBEq, Bool.false_eq_true, if_false, if_true, Act.eval, Array.getD_eq_getD_getElem?, List.getElem?_toArray, List.getElem?_cons_succ, List.getElem?_cons_zero, Option.getD_some, and_true, true_and, List.append_toArray, List.nil_append, List.cons_append, List.toList_toArray, Array.toList_append] at hA); first | fail | (obtain ⟨hSc, hSf, hSs⟩ := hS.cells; go_simp; exact hK _ (by repeat (first | (with_reducible assumption) | (with_reducible exact Ext.rfl' _) | (with_reducible exact Ext.new _ _) | (with_reducible refine Ext.alloc' ?_ _) | (with_reducible refine Ext.drew' ?_) | (with_reducible refine Ext.drewN' ?_ _) | (with_reducible refine Ext.set' ?_ ?_ _; rotate_left; (focus (first | omega | (simp; done) | (simp; omega)))) | (with_reducible refine Ext.then (b := ?_) ?_ ?_; rotate_left; rotate_left; (with_reducible assumption))))))); (try simp only [List.nil_append, List.cons_append]))))
      (refine walkI_step (ArrP #[.int .i64 x.attr, .int .i64 x.n.num, .int .i64 x.n.den] 3 3) rfl (by simp) rfl (stab_ArrP _ _ _) ?_ ?_; (focus (intro A w' hS hA K hK; (simp only [List.map_cons, List.map_nil, knows, Is, Op.operands, Call.operands, List.lookup_cons, List.lookup_nil, Nat.reduceBEq, Bool.false_eq_true, if_false, if_true, Act.eval, Array.getD_eq_getD_getElem?, List.getElem?_toArray, List.getElem?_cons_succ, List.getElem?_cons_zero, Option.getD_some, and_true, true_and, List.append_toArray, List.nil_append, List.cons_append, List.toList_toArray, Array.toList_append] at hA); (go_simp; exact hK _ _ (Ext.new _ _) ⟨_, rfl, Own.new _ _ _⟩))); (try simp only [List.nil_append, List.cons_append]))
      (refine walkI_nil ?_; simp only [List.nil_append, List.cons_append, fins, Is, forall_eq, Act.put, List.setIfInBounds_toArray, List.set_cons_zero, List.set_cons_succ])
      rintro w2 hb2 v ⟨g, rfl, ho⟩
      go_wp2_with (at_builtin; refine wpList_append_M 0 rfl _ _ 22 rfl Try.underlying22 infoInt rfl rfl rfl ((hS.ext hb2)) rfl (srcArr (xs := [x.attr, x.n.num, x.n.den]) ho (cells3 i0 i1 i2) rfl) one_IntR ?c3 ?c4 ?c5)
      case c3 => have := hfk.out; rw [List.length_take] at this; simp; omega
      case c4 => have := hfk.out; rw [List.length_take] at this; simp; omega
      case c5 =>
      intro v' w3 hS3
      rw [← hsn.out] at hS3
      obtain ⟨e', n', f', rfl⟩ : ∃ e n f, v' = .slice e n f := by obtain ⟨e, f, h, -⟩ := hS3.form 0 rfl; exact ⟨e, _, f, h⟩
      clear hS hb2 h0 h1 h2 ho hbl
      go_wp2_with fail
      go_roundw
      case rel => exact ⟨k + 1, by omega, by go_num, hS3⟩
      case measure => simp [intOf]; omega
    · have hfin := Lib.hid (hS.ownS 0 rfl)
      have hex := hS.ex
      have e : Hid (l.take k = l) := List.take_of_length_le (by omega)
      clear hS hr
      go_wp2_with fail
      go_ret
      refine ⟨_, rfl, ?_, hex⟩
      have h := hfin.out
      show OwnI _ _ (.slice av (flat (List.take k l)).length cv) (flat l)
      rw [e.out] at h ⊢
      exact h
set_option maxRecDepth 100000 in
set_option maxHeartbeats 1000000 in
theorem compare_r (t : Thing) : ∀ (s : Thing) (cs ds : List Value) (w : World), ThingR (ph w) cs t → ThingR (ph w) ds s → t.bulk ≤ 1000000 → s.bulk ≤ 1000000 →
    Calls Try.prog 26 #[.agg cs.toArray, .agg ds.toArray] w (RetV w (.int .i64 (cmpT t s))) := by
  induction t using Thing.ind with
  | h t ih =>
    intro s cs ds w hr hs hB hB'
    obtain ⟨a1, c1, a2, c2, a3, c3, rfl, l1, l2, l3, hc, hv, hp⟩ := hr.form
    obtain ⟨a1', c1', a2', c2', a3', c3', rfl, l1', l2', l3', hc', hv', hp'⟩ := hs.form
    have HI := Lib.hid ih; clear ih
    have hE := Lib.hid (cmpT_eq t s)
    have hvl : t.vals.length ≤ 1000000 := by rw [Thing.bulk_eq] at hB; omega
    have hvl' : s.vals.length ≤ 1000000 := by rw [Thing.bulk_eq] at hB'; omega
    go_enter Try.func26, Try.ntmps26
    go_wp2_with fail
    refine RetV_at (ints_r _ _ t.cls s.cls _ (hc.mono mono_IntR (Ext.ple (by repeat (first | (with_reducible assumption) | (with_reducible exact Ext.rfl' _) | (with_reducible exact Ext.new _ _) | (with_reducible refine Ext.alloc' ?_ _) | (with_reducible refine Ext.drew' ?_) | (with_reducible refine Ext.drewN' ?_ _) | (with_reducible refine Ext.set' ?_ ?_ _; rotate_left; (focus (first | omega | (simp; done) | (simp; omega)))) | (with_reducible refine Ext.then (b := ?_) ?_ ?_; rotate_left; rotate_left; (with_reducible assumption)))))) (hc'.mono mono_IntR (Ext.ple (by repeat (first | (with_reducible assumption) | (with_reducible exact Ext.rfl' _) | (with_reducible exact Ext.new _ _) | (with_reducible refine Ext.alloc' ?_ _) | (with_reducible refine Ext.drew' ?_) | (with_reducible refine Ext.drewN' ?_ _) | (with_reducible refine Ext.set' ?_ ?_ _; rotate_left; (focus (first | omega | (simp; done) | (simp; omega)))) | (with_reducible refine Ext.then (b := ?_) ?_ ?_; rotate_left; rotate_left; (with_reducible assumption))))))) ?_
    intro w1 hb1
    have hO : Own w1 w.heap.size #[.slice a1 t.cls.length c1, .slice a2 t.vals.length c2, .slice a3 t.parts.length c3] 29 := Own.keep ((Own.new _ _ _).alloc _) hb1
    have hO' : Own w1 (w.heap.size + 1) #[.slice a1' s.cls.length c1', .slice a2' s.vals.length c2', .slice a3' s.parts.length c3'] 29 := Own.keep (Own.new' _ _ _ (by simp)) hb1
    have hb : Ext w w1 := (by repeat (first | (with_reducible assumption) | (with_reducible exact Ext.rfl' _) | (with_reducible exact Ext.new _ _) | (with_reducible refine Ext.alloc' ?_ _) | (with_reducible refine Ext.drew' ?_) | (with_reducible refine Ext.drewN' ?_ _) | (with_reducible refine Ext.set' ?_ ?_ _; rotate_left; (focus (first | omega | (simp; done) | (simp; omega)))) | (with_reducible refine Ext.then (b := ?_) ?_ ?_; rotate_left; rotate_left; (with_reducible assumption))))
    clear hb1
    obtain ⟨q1, q2⟩ := hO.facts
    have q3 := hO.lt
    obtain ⟨r1, r2⟩ := hO'.facts
    have r3 := hO'.lt
    by_cases h1 : cmpL cmpI t.cls s.cls = 0
    · have h1b : (cmpL cmpI t.cls s.cls == 0) = true := by simpa using h1
      replace h1 := Lib.hid h1
      generalize hz1 : cmpL cmpI t.cls s.cls = z1 at *
      replace hz1 := Lib.hid hz1
      go_wp2_with fail
      (refine wp_region_I 7 (by kernel_rfl) (by kernel_rfl) ?_; simp only [List.toList_toArray, List.take_succ_cons, List.take_zero, List.drop_succ_cons, List.drop_zero])
      (refine walkI_is (u := ?_) rfl (by simp) rfl ?_ ?_; rotate_left; (focus (intro A w' hS hA K hK; (simp only [List.map_cons, List.map_nil, knows, Is, Op.operands, Call.operands, List.lookup_cons, List.lookup_nil, Nat.reduceBEq, Bool.false_eq_true, if_false, if_true, Act.eval, Array.getD_eq_getD_getElem?, List.getElem?_toArray, List.getElem?_cons_succ, List.getElem?_cons_zero, Option.getD_some, and_true, true_and, List.append_toArray, List.nil_append, List.cons_append, List.toList_toArray, Array.toList_append] at hA); first | fail | (obtain ⟨hSc, hSf, hSs⟩ := hS.cells; go_simp; exact hK _ (by repeat (first | (with_reducible assumption) | (with_reducible exact Ext.rfl' _) | (with_reducible exact Ext.new _ _) | (with_reducible refine Ext.alloc' ?_ _) | (with_reducible refine Ext.drew' ?_) | (with_reducible refine Ext.drewN' ?_ _) | (with_reducible refine Ext.set' ?_ ?_ _; rotate_left; (focus (first | omega | (simp; done) | (simp; omega)))) | (with_reducible refine Ext.then (b := ?_) ?_ ?_; rotate_left; rotate_left; (with_reducible assumption))))))); (try simp only [List.nil_append, List.cons_append]))
      (refine walkI_is (u := ?_) rfl (by simp) rfl ?_ ?_; rotate_left; (focus (intro A w' hS hA K hK; (simp only [List.map_cons, List.map_nil, knows, Is, Op.operands, Call.operands, List.lookup_cons, List.lookup_nil, Nat.reduceBEq, Bool.false_eq_true, if_false, if_true, Act.eval, Array.getD_eq_getD_getElem?, List.getElem?_toArray, List.getElem?_cons_succ, List.getElem?_cons_zero, Option.getD_some, and_true, true_and, List.append_toArray, List.nil_append, List.cons_append, List.toList_toArray, Array.toList_append] at hA); first | fail | (obtain ⟨hSc, hSf, hSs⟩ := hS.cells; go_simp; exact hK _ (by repeat (first | (with_reducible assumption) | (with_reducible exact Ext.rfl' _) | (with_reducible exact Ext.new _ _) | (with_reducible refine Ext.alloc' ?_ _) | (with_reducible refine Ext.drew' ?_) | (with_reducible refine Ext.drewN' ?_ _) | (with_reducible refine Ext.set' ?_ ?_ _; rotate_left; (focus (first | omega | (simp; done) | (simp; omega)))) | (with_reducible refine Ext.then (b := ?_) ?_ ?_; rotate_left; rotate_left; (with_reducible assumption))))))); (try simp only [List.nil_append, List.cons_append]))
      (refine walkI_step (fun v w' => IntsR (ph w') v (flat t.vals)) rfl (by simp) rfl (fun v a b _ h e => SliceRep.mono h mono_IntR e.ple) ?_ ?_; (focus (intro A w' hS hA K hK; (simp only [List.map_cons, List.map_nil, knows, Is, Op.operands, Call.operands, List.lookup_cons, List.lookup_nil, Nat.reduceBEq, Bool.false_eq_true, if_false, if_true, Act.eval, Array.getD_eq_getD_getElem?, List.getElem?_toArray, List.getElem?_cons_succ, List.getElem?_cons_zero, Option.getD_some, and_true, true_and, List.append_toArray, List.nil_append, List.cons_append, List.toList_toArray, Array.toList_append] at hA); (go_simp; refine (numbers_r _ t.vals _ (hv.mono mono_ValR (hb.then hS).ple) hvl).mono ?_; rintro e w'' ⟨v, rfl, ho, hbx⟩; exact hK _ _ hbx (ho.rep mono_IntR (noH_le _))))); (try simp only [List.nil_append, List.cons_append]))
      (refine walkI_is (u := ?_) rfl (by simp) rfl ?_ ?_; rotate_left; (focus (intro A w' hS hA K hK; (simp only [List.map_cons, List.map_nil, knows, Is, Op.operands, Call.operands, List.lookup_cons, List.lookup_nil, Nat.reduceBEq, Bool.false_eq_true, if_false, if_true, Act.eval, Array.getD_eq_getD_getElem?, List.getElem?_toArray, List.getElem?_cons_succ, List.getElem?_cons_zero, Option.getD_some, and_true, true_and, List.append_toArray, List.nil_append, List.cons_append, List.toList_toArray, Array.toList_append] at hA); first | fail | (obtain ⟨hSc, hSf, hSs⟩ := hS.cells; go_simp; exact hK _ (by repeat (first | (with_reducible assumption) | (with_reducible exact Ext.rfl' _) | (with_reducible exact Ext.new _ _) | (with_reducible refine Ext.alloc' ?_ _) | (with_reducible refine Ext.drew' ?_) | (with_reducible refine Ext.drewN' ?_ _) | (with_reducible refine Ext.set' ?_ ?_ _; rotate_left; (focus (first | omega | (simp; done) | (simp; omega)))) | (with_reducible refine Ext.then (b := ?_) ?_ ?_; rotate_left; rotate_left; (with_reducible assumption))))))); (try simp only [List.nil_append, List.cons_append]))
      (refine walkI_is (u := ?_) rfl (by simp) rfl ?_ ?_; rotate_left; (focus (intro A w' hS hA K hK; (simp only [List.map_cons, List.map_nil, knows, Is, Op.operands, Call.operands, List.lookup_cons, List.lookup_nil, Nat.reduceBEq, Bool.false_eq_true, if_false, if_true, Act.eval, Array.getD_eq_getD_getElem?, List.getElem?_toArray, List.getElem?_cons_succ, List.getElem?_cons_zero, Option.getD_some, and_true, true_and, List.append_toArray, List.nil_append, List.cons_append, List.toList_toArray, Array.toList_append] at hA); first | fail | (obtain ⟨hSc, hSf, hSs⟩ := hS.cells; go_simp; exact hK _ (by repeat (first | (with_reducible assumption) | (with_reducible exact Ext.rfl' _) | (with_reducible exact Ext.new _ _) | (with_reducible refine Ext.alloc' ?_ _) | (with_reducible refine Ext.drew' ?_) | (with_reducible refine Ext.drewN' ?_ _) | (with_reducible refine Ext.set' ?_ ?_ _; rotate_left; (focus (first | omega | (simp; done) | (simp; omega)))) | (with_reducible refine Ext.then (b := ?_) ?_ ?_; rotate_left; rotate_left; (with_reducible assumption))))))); (try simp only [List.nil_append, List.cons_append]))
      (refine walkI_step (fun v w' => IntsR (ph w') v (flat s.vals)) rfl (by simp) rfl (fun v a b _ h e => SliceRep.mono h mono_IntR e.ple) ?_ ?_; (focus (intro A w' hS hA K hK; (simp only [List.map_cons, List.map_nil, knows, Is, Op.operands, Call.operands, List.lookup_cons, List.lookup_nil, Nat.reduceBEq, Bool.false_eq_true, if_false, if_true, Act.eval, Array.getD_eq_getD_getElem?, List.getElem?_toArray, List.getElem?_cons_succ, List.getElem?_cons_zero, Option.getD_some, and_true, true_and, List.append_toArray, List.nil_append, List.cons_append, List.toList_toArray, Array.toList_append] at hA); (go_simp; refine (numbers_r _ s.vals _ (hv'.mono mono_ValR (hb.then hS).ple) hvl').mono ?_; rintro e w'' ⟨v, rfl, ho, hbx⟩; exact hK _ _ hbx (ho.rep mono_IntR (noH_le _))))); (try simp only [List.nil_append, List.cons_append]))
      (refine walkI_is (u := ?_) rfl (by simp) rfl ?_ ?_; rotate_left; (focus (intro A w' hS hA K hK; (simp only [List.map_cons, List.map_nil, knows, Is, Op.operands, Call.operands, List.lookup_cons, List.lookup_nil, Nat.reduceBEq, Bool.false_eq_true, if_false, if_true, Act.eval, Array.getD_eq_getD_getElem?, List.getElem?_toArray, List.getElem?_cons_succ, List.getElem?_cons_zero, Option.getD_some, and_true, true_and, List.append_toArray, List.nil_append, List.cons_append, List.toList_toArray, Array.toList_append] at hA); first | (go_simp; refine RetV_at (ints_r _ _ _ _ _ hA.1 hA.2) ?_; intro w'' hbx; exact hK _ hbx) | (obtain ⟨hSc, hSf, hSs⟩ := hS.cells; go_simp; exact hK _ (by repeat (first | (with_reducible assumption) | (with_reducible exact Ext.rfl' _) | (with_reducible exact Ext.new _ _) | (with_reducible refine Ext.alloc' ?_ _) | (with_reducible refine Ext.drew' ?_) | (with_reducible refine Ext.drewN' ?_ _) | (with_reducible refine Ext.set' ?_ ?_ _; rotate_left; (focus (first | omega | (simp; done) | (simp; omega)))) | (with_reducible refine Ext.then (b := ?_) ?_ ?_; rotate_left; rotate_left; (with_reducible assumption))))))); (try simp only [List.nil_append, List.cons_append]))
      (refine walkI_nil ?_; simp only [List.nil_append, List.cons_append, fins, Is, forall_eq, Act.put, List.setIfInBounds_toArray, List.set_cons_zero, List.set_cons_succ])
      intro w2 hb2 vx hvx vy hvy
      rw [cmp_flat]
      replace hO := hO.keep hb2
      replace hO' := hO'.keep hb2
      replace hb := hb.then hb2
      clear q1 q2 q3 r1 r2 r3 hb2 hvx hvy
      obtain ⟨q1, q2⟩ := hO.facts
      have q3 := hO.lt
      obtain ⟨r1, r2⟩ := hO'.facts
      have r3 := hO'.lt
      by_cases h2 : cmpL cmpV t.vals s.vals = 0
      · have h2b : (cmpL cmpV t.vals s.vals == 0) = true := by simpa using h2
        have hfin : Hid (cmpL cmpT t.parts s.parts = cmpT t s) := by
          show _ = _
          rw [hE.out, thenI, if_pos h1.out, thenI, if_pos h2]
        replace h2 := Lib.hid h2
        generalize hz2 : cmpL cmpV t.vals s.vals = z2 at *
        replace hz2 := Lib.hid hz2
        have hcD := Lib.hid (fun k h => cmpL_done (f := cmpT) (xs := t.parts) (ys := s.parts) (k := k) h)
        go_wp2_with fail
        go_loopw [7] (fun i wr => ∃ k : Nat, k ≤ t.parts.length ∧ k ≤ s.parts.length ∧ i = .int .i64 k ∧ Hid (zeroUpto cmpT t.parts s.parts k) ∧ Own wr w.heap.size #[.slice a1 t.cls.length c1, .slice a2 t.vals.length c2, .slice a3 t.parts.length c3] 29 ∧ Own wr (w.heap.size + 1) #[.slice a1' s.cls.length c1', .slice a2' s.vals.length c2', .slice a3' s.parts.length c3'] 29 ∧ Ext w wr) (fun i _ => t.parts.length - (intOf i).toNat)
        case atStart => exact ⟨0, Nat.zero_le _, Nat.zero_le _, rfl, Lib.hid (fun j _ _ h => by omega), hO, hO', hb⟩
        case round =>
          clear hO hO' hb q1 q2 q3 r1 r2 r3
          obtain ⟨k, hk, hk', rfl, HZ, hO, hO', hb⟩ := hrel
          obtain ⟨q1, q2⟩ := hO.facts
          have q3 := hO.lt
          obtain ⟨r1, r2⟩ := hO'.facts
          have r3 := hO'.lt
          by_cases hlt : k < t.parts.length ∧ k < s.parts.length
          · obtain ⟨hx, hy⟩ := hlt
            obtain ⟨b, o, b1, d1, b2, d2, b3, d3, rfl, h0, h1, h2, hE1, hbl⟩ := ThingsR.at (hp.mono mono_ThingR hb.ple) k hx
            obtain ⟨b', o', b1', d1', b2', d2', b3', d3', rfl, h0', h1', h2', hE2, hbl'⟩ := ThingsR.at (hp'.mono mono_ThingR hb.ple) k hy
            have hsucc := Lib.hid (fun h => zeroUpto_succ HZ.out hx hy h)
            have hat := Lib.hid (fun h => cmpL_at hx hy HZ.out h)
            have hbx := Thing.part_le (List.getElem_mem hx)
            have hby := Thing.part_le (List.getElem_mem hy)
            have hmx := List.getElem_mem hx
            generalize t.parts[k] = x at *
            generalize s.parts[k] = y at *
            replace hE1 := Lib.hid hE1
            replace hE2 := Lib.hid hE2
            clear hp hp'
            go_wp2_with fail
            (refine wp_region_I 11 (by kernel_rfl) (by kernel_rfl) ?_; simp only [List.toList_toArray, List.take_succ_cons, List.take_zero, List.drop_succ_cons, List.drop_zero])
            (repeat (first | (refine walkI_no rfl (by simp) rfl rfl rfl ?_ ?_; (focus (simp [undef]; done)); (try simp only [List.nil_append, List.cons_append])) | (refine walkI_is (u := ?_) rfl (by simp) rfl ?_ ?_; rotate_left; (focus (intro A w' hS hA K hK; (simp only [List.map_cons, List.map_nil, knows, Is, Op.operands, Call.operands, List.lookup_cons, List.lookup_nil, Nat.reduceBEq, Bool.false_eq_true, if_false, if_true, Act.eval, Array.getD_eq_getD_getElem?, List.getElem?_toArray, List.getElem?_cons_succ, List.getElem?_cons_zero, Option.getD_some, and_true, true_and, List.append_toArray, List.nil_append, List.cons_append, List.toList_toArray, Array.toList_append] at hA); first | (obtain ⟨hSc, hSf, hSs⟩ := hS.cells; go_simp; refine RetV_at (HI.out x hmx y _ _ _ (mono_ThingR _ _ _ _ hS.ple hE1.out) (mono_ThingR _ _ _ _ hS.ple hE2.out) (by omega) (by omega)) ?_; intro w'' hbx; exact hK _ hbx) | (obtain ⟨hSc, hSf, hSs⟩ := hS.cells; go_simp; exact hK _ (by repeat (first | (with_reducible assumption) | (with_reducible exact Ext.rfl' _) | (with_reducible exact Ext.new _ _) | (with_reducible refine Ext.alloc' ?_ _) | (with_reducible refine Ext.drew' ?_) | (with_reducible refine Ext.drewN' ?_ _) | (with_reducible refine Ext.set' ?_ ?_ _; rotate_left; (focus (first | omega | (simp; done) | (simp; omega)))) | (with_reducible refine Ext.then (b := ?_) ?_ ?_; rotate_left; rotate_left; (with_reducible assumption))))))); (try simp only [List.nil_append, List.cons_append])) | (refine walkI_yesis (u := ?_) rfl (by simp) rfl rfl rfl ?_ ?_; rotate_left; (focus (intro A w' hS hA K hK; (simp only [List.map_cons, List.map_nil, knows, Is, Op.operands, Call.operands, List.lookup_cons, List.lookup_nil, Nat.reduceBEq, Bool.false_eq_true, if_false, if_true, Act.eval, Array.getD_eq_getD_getElem?, List.getElem?_toArray, List.getElem?_cons_succ, List.getElem?_cons_zero, Option.getD_some, and_true, true_and, List.append_toArray, List.nil_append, List.cons_append, List.toList_toArray, Array.toList_append] at hA); first | (obtain ⟨hSc, hSf, hSs⟩ := hS.cells; go_simp; refine RetV_at (HI.out x hmx y _ _ _ (mono_ThingR _ _ _ _ hS.ple hE1.out) (mono_ThingR _ _ _ _ hS.ple hE2.out) (by omega) (by omega)) ?_; intro w'' hbx; exact hK _ hbx) | (obtain ⟨hSc, hSf, hSs⟩ := hS.cells; go_simp; exact hK _ (by repeat (first | (with_reducible assumption) | (with_reducible exact Ext.rfl' _) | (with_reducible exact Ext.new _ _) | (with_reducible refine Ext.alloc' ?_ _) | (with_reducible refine Ext.drew' ?_) | (with_reducible refine Ext.drewN' ?_ _) | (with_reducible refine Ext.set' ?_ ?_ _; rotate_left; (focus (first | omega | (simp; done) | (simp; omega)))) | (with_reducible refine Ext.then (b := ?_) ?_ ?_; rotate_left; rotate_left; (with_reducible assumption))))))); (try simp only [List.nil_append, List.cons_append]))))
            (refine walkI_nil ?_; simp only [List.nil_append, List.cons_append, fins, Is, forall_eq, Act.put, List.setIfInBounds_toArray, List.set_cons_zero, List.set_cons_succ])
            intro w3 hb3
            replace hO := hO.keep hb3
            replace hO' := hO'.keep hb3
            replace hb := hb.then hb3
            clear hb3 q1 q2 q3 r1 r2 r3 h0 h1 h2 h0' h1' h2' hbl hbl'
            by_cases hz : cmpT x y = 0
            · have hzb : (cmpT x y == 0) = true := by simpa using hz
              replace hz := Lib.hid hz
              generalize cmpT x y = z at *
              go_wp2_with fail
              go_roundw
              case rel => exact ⟨k + 1, by omega, by omega, by go_num, Lib.hid (hsucc.out hz.out), hO, hO', hb⟩
              case measure => simp [intOf]; omega
            · have hzb : (cmpT x y == 0) = false := by simpa using hz
              replace hz := Lib.hid hz
              generalize cmpT x y = z at *
              go_wp2_with fail
              go_ret
              exact ⟨ret_int ((hat.out hz.out).symm.trans hfin.out), hb⟩
          · have hd := Lib.hid (hcD.out k HZ.out (by omega))
            clear hp hp'
            by_cases hx : k < t.parts.length
            · have hy : ¬ k < s.parts.length := by omega
              clear hlt
              go_wp2_with fail
              refine RetV_at (order_c _ _ _) ?_
              intro w3 hb3
              have hfin' : Hid (cmpI t.parts.length s.parts.length = cmpT t s) := hd.out.symm.trans hfin.out
              generalize cmpI t.parts.length s.parts.length = z at *
              go_wp2_with fail
              go_ret
              exact ⟨ret_int hfin'.out, (by repeat (first | (with_reducible assumption) | (with_reducible exact Ext.rfl' _) | (with_reducible exact Ext.new _ _) | (with_reducible refine Ext.alloc' ?_ _) | (with_reducible refine Ext.drew' ?_) | (with_reducible refine Ext.drewN' ?_ _) | (with_reducible refine Ext.set' ?_ ?_ _; rotate_left; (focus (first | omega | (simp; done) | (simp; omega)))) | (with_reducible refine Ext.then (b := ?_) ?_ ?_; rotate_left; rotate_left; (with_reducible assumption))))⟩
            · clear hlt
              go_wp2_with fail
              refine RetV_at (order_c _ _ _) ?_
              intro w3 hb3
              have hfin' : Hid (cmpI t.parts.length s.parts.length = cmpT t s) := hd.out.symm.trans hfin.out
              generalize cmpI t.parts.length s.parts.length = z at *
              go_wp2_with fail
              go_ret
              exact ⟨ret_int hfin'.out, (by repeat (first | (with_reducible assumption) | (with_reducible exact Ext.rfl' _) | (with_reducible exact Ext.new _ _) | (with_reducible refine Ext.alloc' ?_ _) | (with_reducible refine Ext.drew' ?_) | (with_reducible refine Ext.drewN' ?_ _) | (with_reducible refine Ext.set' ?_ ?_ _; rotate_left; (focus (first | omega | (simp; done) | (simp; omega)))) | (with_reducible refine Ext.then (b := ?_) ?_ ?_; rotate_left; rotate_left; (with_reducible assumption))))⟩
      · have h2b : (cmpL cmpV t.vals s.vals == 0) = false := by simpa using h2
        have hfin : Hid (cmpL cmpV t.vals s.vals = cmpT t s) := by
          show _ = _
          rw [hE.out, thenI, if_pos h1.out, thenI, if_neg h2]
        replace h2 := Lib.hid h2
        generalize cmpL cmpV t.vals s.vals = z2 at *
        go_wp2_with fail
        go_ret
        exact ⟨ret_int hfin.out, (by repeat (first | (with_reducible assumption) | (with_reducible exact Ext.rfl' _) | (with_reducible exact Ext.new _ _) | (with_reducible refine Ext.alloc' ?_ _) | (with_reducible refine Ext.drew' ?_) | (with_reducible refine Ext.drewN' ?_ _) | (with_reducible refine Ext.set' ?_ ?_ _; rotate_left; (focus (first | omega | (simp; done) | (simp; omega)))) | (with_reducible refine Ext.then (b := ?_) ?_ ?_; rotate_left; rotate_left; (with_reducible assumption))))⟩
    · have h1b : (cmpL cmpI t.cls s.cls == 0) = false := by simpa using h1
      have hfin : Hid (cmpL cmpI t.cls s.cls = cmpT t s) := by
        show _ = _
        rw [hE.out, thenI, if_neg h1]
      replace h1 := Lib.hid h1
      generalize cmpL cmpI t.cls s.cls = z1 at *
      go_wp2_with fail
      go_ret
      exact ⟨ret_int hfin.out, (by repeat (first | (with_reducible assumption) | (with_reducible exact Ext.rfl' _) | (with_reducible exact Ext.new _ _) | (with_reducible refine Ext.alloc' ?_ _) | (with_reducible refine Ext.drew' ?_) | (with_reducible refine Ext.drewN' ?_ _) | (with_reducible refine Ext.set' ?_ ?_ _; rotate_left; (focus (first | omega | (simp; done) | (simp; omega)))) | (with_reducible refine Ext.then (b := ?_) ?_ ?_; rotate_left; rotate_left; (with_reducible assumption))))⟩
end Go.Proofs.Ytebhdjeognpljaa
