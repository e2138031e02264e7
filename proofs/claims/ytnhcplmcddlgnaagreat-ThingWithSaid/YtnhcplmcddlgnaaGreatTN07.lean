/- The reference's Compare.; priorartlaw06.turned: everything in the opposite order.; the normal form of a thing, as plain data: the whole thing.; the normal form of a thing: lengths, and how it is built step by step (plain).; what sorted of both parts gives. -/
import Derived.Test.YtnhcplmcddlgnaaGreatTN05
import Derived.Test.YtnhcplmcddlgnaaGreatTN06
namespace Go.Proofs.YtnhcplmcddlgnaaGreat
open Go.RowKit
set_option linter.unusedSimpArgs false
set_option linter.unusedVariables false
def flat (l : List Val) : List Int := l.flatMap fun v => [v.attr, v.n.num, v.n.den]
theorem flat_len (l : List Val) : (flat l).length = 3 * l.length := by
  induction l with
  | nil => rfl
  | cons x l ih => simp only [flat, List.flatMap_cons, List.length_append, List.length_cons, List.length_nil] at *; omega
theorem flat_snoc (l : List Val) (k : Nat) (h : k < l.length) : flat (l.take (k + 1)) = flat (l.take k) ++ [l[k].attr, l[k].n.num, l[k].n.den] := by
  unfold flat; rw [take_snoc l k h, List.flatMap_append]; simp
theorem cmpI_self (a : Int) : cmpI a a = 0 := cmpI_eq (by omega) (by omega)
theorem cmp_flat : ∀ a b : List Val, cmpL cmpI (flat a) (flat b) = cmpL cmpV a b
  | [], [] => rfl
  | [], _ :: _ => rfl
  | _ :: _, [] => rfl
  | x :: a, y :: b => by
    have h1 := cmpI_ord x.attr
    have ih := cmp_flat a b
    have e1 : flat (x :: a) = x.attr :: x.n.num :: x.n.den :: flat a := rfl
    have e2 : flat (y :: b) = y.attr :: y.n.num :: y.n.den :: flat b := rfl
    rw [e1, e2]
    simp only [cmpL, cmpV]
    by_cases g1 : cmpI x.attr y.attr = 0
    · by_cases g2 : cmpI x.n.num y.n.num = 0
      · by_cases g3 : cmpI x.n.den y.n.den = 0
        · simp [g1, g2, g3, ih]
        · simp [g1, g2, g3]
      · simp [g1, g2]
    · simp [g1]
set_option maxRecDepth 100000 in
set_option maxHeartbeats 1000000 in
theorem ints_r (vs ws : Value) (xs ys : List Int) (w : World) (hr : IntsR (ph w) vs xs) (hs : IntsR (ph w) ws ys) :
    Calls Tryz.prog 47 #[vs, ws] w (RetV w (.int .i64 (cmpL cmpI xs ys))) := by
  obtain ⟨a, c, rfl, hlen, hr⟩ := hr.form
  obtain ⟨a', c', rfl, hlen', hs⟩ := hs.form
  have hcD := Lib.hid (fun k h => cmpL_done (f := cmpI) (xs := xs) (ys := ys) (k := k) h)
  go_enter Tryz.func47, Tryz.ntmps47
  go_wp2_with fail
  go_loopw [5] (fun i wr => ∃ k : Nat, k ≤ xs.length ∧ k ≤ ys.length ∧ i = .int .i64 k ∧ Hid (zeroUpto cmpI xs ys k) ∧ Ext w wr) (fun i _ => xs.length - (intOf i).toNat)
  case atStart => exact ⟨0, Nat.zero_le _, Nat.zero_le _, rfl, Lib.hid (fun j _ _ h => by omega), (by with_reducible repeat (first | assumption | exact Ext.rfl' _ | exact Ext.new _ _ | refine Ext.alloc' ?_ _ | refine Ext.drew' ?_ | refine Ext.drewN' ?_ _ | (refine Ext.set' ?_ ?_ _; rotate_left; focus (first | omega | (simp; done) | (simp; omega))) | (refine Ext.then (b := ?_) ?_ ?_; rotate_left; rotate_left; assumption)))⟩
  case round =>
    obtain ⟨k, hk, hk', rfl, HZ, hb⟩ := hrel
    by_cases hlt : k < xs.length ∧ k < ys.length
    · obtain ⟨hx, hy⟩ := hlt
      obtain ⟨b, o, rfl, h0, hi, hbl⟩ := IntsR.at (hr.mono mono_IntR hb.ple) k hx
      obtain ⟨b', o', rfl, h0', hi', hbl'⟩ := IntsR.at (hs.mono mono_IntR hb.ple) k hy
      have hsucc := Lib.hid (fun h => zeroUpto_succ HZ.out hx hy h)
      have hat := Lib.hid (fun h => cmpL_at hx hy HZ.out h)
      generalize xs[k] = x at *
      generalize ys[k] = y at *
      clear hr hs
      by_cases hxy : x = y
      · subst hxy
        go_wp2_with fail
        (refine wp_region_I 9 (by kernel_rfl) (by kernel_rfl) ?_; simp only [List.toList_toArray, List.take_succ_cons, List.take_zero, List.drop_succ_cons, List.drop_zero])
        (repeat (first | (refine walkI_no rfl (by simp) rfl rfl rfl ?_ ?_; (focus (simp [undef]; done)); (try simp only [List.nil_append, List.cons_append])) | (refine walkI_is (u := ?_) rfl (by simp) rfl ?_ ?_; rotate_left; (focus (intro A w' hS hA K hK; (simp only [List.map_cons, List.map_nil, knows, Is, Op.operands, Call.operands, List.lookup_cons, List.lookup_nil, Nat.reduceBEq, Bool.false_eq_true, if_false, if_true, Act.eval, Array.getD_eq_getD_getElem?, List.getElem?_toArray, List.getElem?_cons_succ, List.getElem?_cons_zero, Option.getD_some, and_true, true_and, List.append_toArray, List.nil_append, List.cons_append, List.toList_toArray, Array.toList_append, Option.toArray, List.append_nil] at hA); first | fail | (obtain ⟨hSc, hSf, hSs⟩ := hS.cells; go_simp; exact hK _ (by first | exact Ext.rfl' _ | exact Ext.new _ _ | assumption)))); (try simp only [List.nil_append, List.cons_append])) | (refine walkI_yesis (u := ?_) rfl (by simp) rfl rfl rfl ?_ ?_; rotate_left; (focus (intro A w' hS hA K hK; (simp only [List.map_cons, List.map_nil, knows, Is, Op.operands, Call.operands, List.lookup_cons, List.lookup_nil, Nat.reduceBEq, Bool.false_eq_true, if_false, if_true, Act.eval, Array.getD_eq_getD_getElem?, List.getElem?_toArray, List.getElem?_cons_succ, List.getElem?_cons_zero, Option.getD_some, and_true, true_and, List.append_toArray, List.nil_append, List.cons_append, List.toList_toArray, Array.toList_append, Option.toArray, List.append_nil] at hA); first | fail | (obtain ⟨hSc, hSf, hSs⟩ := hS.cells; go_simp; exact hK _ (by first | exact Ext.rfl' _ | exact Ext.new _ _ | assumption)))); (try simp only [List.nil_append, List.cons_append]))))
        (refine walkI_nil ?_; simp only [List.nil_append, List.cons_append, fins, Is, forall_eq, Act.put, List.setIfInBounds_toArray, List.set_cons_zero, List.set_cons_succ])
        intro w2 hb2
        go_wp2_with fail
        go_roundw
        case rel => exact ⟨k + 1, by omega, by omega, by go_num, Lib.hid (hsucc.out (cmpI_self x)), (by with_reducible repeat (first | assumption | exact Ext.rfl' _ | exact Ext.new _ _ | refine Ext.alloc' ?_ _ | refine Ext.drew' ?_ | refine Ext.drewN' ?_ _ | (refine Ext.set' ?_ ?_ _; rotate_left; focus (first | omega | (simp; done) | (simp; omega))) | (refine Ext.then (b := ?_) ?_ ?_; rotate_left; rotate_left; assumption)))⟩
        case measure => simp [intOf]; omega
      · have hxb : (x == y) = false := by simpa using hxy
        have hxn : (x != y) = true := by simpa using hxy
        replace hxy := Lib.hid hxy
        go_wp2_with fail
        (refine wp_region_I 9 (by kernel_rfl) (by kernel_rfl) ?_; simp only [List.toList_toArray, List.take_succ_cons, List.take_zero, List.drop_succ_cons, List.drop_zero])
        (repeat (first | (refine walkI_no rfl (by simp) rfl rfl rfl ?_ ?_; (focus (simp [undef]; done)); (try simp only [List.nil_append, List.cons_append])) | (refine walkI_is (u := ?_) rfl (by simp) rfl ?_ ?_; rotate_left; (focus (intro A w' hS hA K hK; (simp only [List.map_cons, List.map_nil, knows, Is, Op.operands, Call.operands, List.lookup_cons, List.lookup_nil, Nat.reduceBEq, Bool.false_eq_true, if_false, if_true, Act.eval, Array.getD_eq_getD_getElem?, List.getElem?_toArray, List.getElem?_cons_succ, List.getElem?_cons_zero, Option.getD_some, and_true, true_and, List.append_toArray, List.nil_append, List.cons_append, List.toList_toArray, Array.toList_append, Option.toArray, List.append_nil] at hA); first | fail | (obtain ⟨hSc, hSf, hSs⟩ := hS.cells; go_simp; exact hK _ (by first | exact Ext.rfl' _ | exact Ext.new _ _ | assumption)))); (try simp only [List.nil_append, List.cons_append])) | (refine walkI_yesis (u := ?_) rfl (by simp) rfl rfl rfl ?_ ?_; rotate_left; (focus (intro A w' hS hA K hK; (simp only [List.map_cons, List.map_nil, knows, Is, Op.operands, Call.operands, List.lookup_cons, List.lookup_nil, Nat.reduceBEq, Bool.false_eq_true, if_false, if_true, Act.eval, Array.getD_eq_getD_getElem?, List.getElem?_toArray, List.getElem?_cons_succ, List.getElem?_cons_zero, Option.getD_some, and_true, true_and, List.append_toArray, List.nil_append, List.cons_append, List.toList_toArray, Array.toList_append, Option.toArray, List.append_nil] at hA); first | fail | (obtain ⟨hSc, hSf, hSs⟩ := hS.cells; go_simp; exact hK _ (by first | exact Ext.rfl' _ | exact Ext.new _ _ | assumption)))); (try simp only [List.nil_append, List.cons_append]))))
        (refine walkI_nil ?_; simp only [List.nil_append, List.cons_append, fins, Is, forall_eq, Act.put, List.setIfInBounds_toArray, List.set_cons_zero, List.set_cons_succ])
        intro w2 hb2
        replace h0 := hb2.cell1 h0
        replace h0' := hb2.cell1 h0'
        replace hbl := cell_lt h0
        replace hbl' := cell_lt h0'
        go_wp2_with fail
        (refine wp_region_I 9 (by kernel_rfl) (by kernel_rfl) ?_; simp only [List.toList_toArray, List.take_succ_cons, List.take_zero, List.drop_succ_cons, List.drop_zero])
        (repeat (first | (refine walkI_no rfl (by simp) rfl rfl rfl ?_ ?_; (focus (simp [undef]; done)); (try simp only [List.nil_append, List.cons_append])) | (refine walkI_is (u := ?_) rfl (by simp) rfl ?_ ?_; rotate_left; (focus (intro A w' hS hA K hK; (simp only [List.map_cons, List.map_nil, knows, Is, Op.operands, Call.operands, List.lookup_cons, List.lookup_nil, Nat.reduceBEq, Bool.false_eq_true, if_false, if_true, Act.eval, Array.getD_eq_getD_getElem?, List.getElem?_toArray, List.getElem?_cons_succ, List.getElem?_cons_zero, Option.getD_some, and_true, true_and, List.append_toArray, List.nil_append, List.cons_append, List.toList_toArray, Array.toList_append, Option.toArray, List.append_nil] at hA); first | (obtain ⟨hSc, hSf, hSs⟩ := hS.cells; go_simp; refine RetV_at (order_c x y _) ?_; intro w'' hbx; exact hK _ hbx) | (obtain ⟨hSc, hSf, hSs⟩ := hS.cells; go_simp; exact hK _ (by first | exact Ext.rfl' _ | exact Ext.new _ _ | assumption)))); (try simp only [List.nil_append, List.cons_append])) | (refine walkI_yesis (u := ?_) rfl (by simp) rfl rfl rfl ?_ ?_; rotate_left; (focus (intro A w' hS hA K hK; (simp only [List.map_cons, List.map_nil, knows, Is, Op.operands, Call.operands, List.lookup_cons, List.lookup_nil, Nat.reduceBEq, Bool.false_eq_true, if_false, if_true, Act.eval, Array.getD_eq_getD_getElem?, List.getElem?_toArray, List.getElem?_cons_succ, List.getElem?_cons_zero, Option.getD_some, and_true, true_and, List.append_toArray, List.nil_append, List.cons_append, List.toList_toArray, Array.toList_append, Option.toArray, List.append_nil] at hA); first | (obtain ⟨hSc, hSf, hSs⟩ := hS.cells; go_simp; refine RetV_at (order_c x y _) ?_; intro w'' hbx; exact hK _ hbx) | (obtain ⟨hSc, hSf, hSs⟩ := hS.cells; go_simp; exact hK _ (by first | exact Ext.rfl' _ | exact Ext.new _ _ | assumption)))); (try simp only [List.nil_append, List.cons_append]))))
        (refine walkI_nil ?_; simp only [List.nil_append, List.cons_append, fins, Is, forall_eq, Act.put, List.setIfInBounds_toArray, List.set_cons_zero, List.set_cons_succ])
        intro w3 hb3
        have hne : Hid (cmpI x y = cmpL cmpI xs ys) := (hat.out fun h => hxy.out ((cmpI_ord x).eq y |>.1 h)).symm
        clear hat hsucc
        generalize cmpI x y = z at *
        go_wp2_with fail
        go_ret
        exact ⟨ret_int hne.out, (by with_reducible repeat (first | assumption | exact Ext.rfl' _ | exact Ext.new _ _ | refine Ext.alloc' ?_ _ | refine Ext.drew' ?_ | refine Ext.drewN' ?_ _ | (refine Ext.set' ?_ ?_ _; rotate_left; focus (first | omega | (simp; done) | (simp; omega))) | (refine Ext.then (b := ?_) ?_ ?_; rotate_left; rotate_left; assumption)))⟩
    · have hd := Lib.hid (hcD.out k HZ.out (by omega))
      clear hr hs
      by_cases hx : k < xs.length
      · have hy : ¬ k < ys.length := by omega
        clear hlt
        go_wp2_with fail
        refine RetV_at (order_c _ _ _) ?_
        intro w2 hb2
        rw [← hd.out]
        generalize cmpL cmpI xs ys = z at *
        go_wp2_with fail
        go_ret
        exact ⟨rfl, (by with_reducible repeat (first | assumption | exact Ext.rfl' _ | exact Ext.new _ _ | refine Ext.alloc' ?_ _ | refine Ext.drew' ?_ | refine Ext.drewN' ?_ _ | (refine Ext.set' ?_ ?_ _; rotate_left; focus (first | omega | (simp; done) | (simp; omega))) | (refine Ext.then (b := ?_) ?_ ?_; rotate_left; rotate_left; assumption)))⟩
      · clear hlt
        go_wp2_with fail
        refine RetV_at (order_c _ _ _) ?_
        intro w2 hb2
        rw [← hd.out]
        generalize cmpL cmpI xs ys = z at *
        go_wp2_with fail
        go_ret
        exact ⟨rfl, (by with_reducible repeat (first | assumption | exact Ext.rfl' _ | exact Ext.new _ _ | refine Ext.alloc' ?_ _ | refine Ext.drew' ?_ | refine Ext.drewN' ?_ _ | (refine Ext.set' ?_ ?_ _; rotate_left; focus (first | omega | (simp; done) | (simp; omega))) | (refine Ext.then (b := ?_) ?_ ?_; rotate_left; rotate_left; assumption)))⟩
theorem srcArr {α : Type} {E : PH → List Value → α → Prop} {H : PH} {sz : Nat} {w : World} {b n : Nat} {cur : Array Value} {T : TypeId} {xs : List α} (hO : Own w b cur T) (hc : Cells H E sz cur.toList xs) (hn : n = xs.length) : Src w H E sz (.slice (some ⟨b, 0, none⟩) n n) xs := by
  subst hn
  refine ⟨_, _, rfl, Nat.le_refl _, .inr ⟨_, _, rfl, hc, fun j u hu => ?_⟩⟩
  rw [add0, hO.facts.1]
  simpa using hu
def ArrP (arr : Array Value) (n : Nat) (T : TypeId) : Prop1 := fun v w => ∃ g, v = .slice (some ⟨g, 0, none⟩) n n ∧ Own w g arr T
theorem stab_ArrP {W : World} (arr : Array Value) (n : Nat) (T : TypeId) : Stable W (ArrP arr n T) := fun v w w' _ ⟨g, h1, h2⟩ e => ⟨g, h1, h2.keep e⟩
def FreshI (w : World) (xs : List Int) (e : Ending) (w' : World) : Prop := ∃ v, e = .returned v ∧ OwnI w.heap.size w' v xs ∧ Ext w w'
set_option maxRecDepth 100000 in
set_option maxHeartbeats 1000000 in
theorem numbers_r (vs : Value) (l : List Val) (w : World) (hr : ValsR (ph w) vs l) (hl : l.length ≤ 1000000) :
    Calls Tryz.prog 48 #[vs] w (FreshI w (flat l)) := by
  obtain ⟨a, c, rfl, hlen, hr⟩ := hr.form
  go_enter Tryz.func48, Tryz.ntmps48
  go_wp2_with fail
  go_loopw [3, 4] (fun v i wr => ∃ k : Nat, k ≤ l.length ∧ i = .int .i64 k ∧ Mem w noH [own mono_IntR 1 3 v (flat (l.take k))] noH wr) (fun _ i _ => l.length - (intOf i).toNat)
  case atStart => exact ⟨0, Nat.zero_le _, rfl, (Mem.start w noH (noH_le _)).nil _ _ _⟩
  case round =>
    rename_i vv _
    obtain ⟨k, hk, rfl, hS⟩ := hrel
    obtain ⟨av, cv, rfl, hfl⟩ := hS.form 0 rfl
    by_cases hlt : k < l.length
    · obtain ⟨b, o, rfl, h0, h1, h2, i0, i1, i2, hbl⟩ := ValsR.at (hr.mono mono_ValR hS.ex.ple) k hlt
      have hsn := Lib.hid (flat_snoc l k hlt)
      have hfk := Lib.hid (flat_len (l.take k))
      generalize l[k] = x at *
      clear hr
      go_wp2_with fail
      (refine wp_region_I 19 (by kernel_rfl) (by kernel_rfl) ?_; simp only [List.toList_toArray, List.take_succ_cons, List.take_zero, List.drop_succ_cons, List.drop_zero])
      (repeat (first | (refine walkI_no rfl (by simp) rfl rfl rfl ?_ ?_; (focus (simp [undef]; done)); (try simp only [List.nil_append, List.cons_append])) | (refine walkI_is (u := ?_) rfl (by simp) rfl ?_ ?_; rotate_left; (focus (intro A w' hS hA K hK; (simp only [List.map_cons, List.map_nil, knows, Is, Op.operands, Call.operands, List.lookup_cons, List.lookup_nil, Nat.reduceBEq, Bool.false_eq_true, if_false, if_true, Act.eval, Array.getD_eq_getD_getElem?, List.getElem?_toArray, List.getElem?_cons_succ, List.getElem?_cons_zero, Option.getD_some, and_true, true_and, List.append_toArray, List.nil_append, List.cons_append, List.toList_toArray, Array.toList_append, Option.toArray, List.append_nil] at hA); first | fail | (obtain ⟨hSc, hSf, hSs⟩ := hS.cells; go_simp; exact hK _ (by first | exact Ext.rfl' _ | exact Ext.new _ _ | assumption)))); (try simp only [List.nil_append, List.cons_append])) | (refine walkI_yesis (u := ?_) rfl (by simp) rfl rfl rfl ?_ ?_; rotate_left; (focus (intro A w' hS hA K hK; (simp only [List.map_cons, List.map_nil, knows, Is, Op.operands, Call.operands, List.lookup_cons, List.lookup_nil, Nat.reduceBEq, Bool.false_eq_true, if_false, if_true, Act.eval, Array.getD_eq_getD_getElem?, List.getElem?_toArray, List.getElem?_cons_succ, List.getElem?_cons_zero, Option.getD_some, and_true, true_and, List.append_toArray, List.nil_append, List.cons_append, List.toList_toArray, Array.toList_append, Option.toArray, List.append_nil] at hA); first | fail | (obtain ⟨hSc, hSf, hSs⟩ := hS.cells; go_simp; exact hK _ (by first | exact Ext.rfl' _ | exact Ext.new _ _ | assumption)))); (try simp only [List.nil_append, List.cons_append]))))
      (refine walkI_step (ArrP #[.int .i64 x.attr, .int .i64 x.n.num, .int .i64 x.n.den] 3 3) rfl (by simp) rfl (stab_ArrP _ _ _) ?_ ?_; (focus (intro A w' hS hA K hK; (simp only [List.map_cons, List.map_nil, knows, Is, Op.operands, Call.operands, List.lookup_cons, List.lookup_nil, Nat.reduceBEq, Bool.false_eq_true, if_false, if_true, Act.eval, Array.getD_eq_getD_getElem?, List.getElem?_toArray, List.getElem?_cons_succ, List.getElem?_cons_zero, Option.getD_some, and_true, true_and, List.append_toArray, List.nil_append, List.cons_append, List.toList_toArray, Array.toList_append, Option.toArray, List.append_nil] at hA); (go_simp; exact hK _ _ (Ext.new _ _) ⟨_, rfl, Own.new _ _ _⟩))); (try simp only [List.nil_append, List.cons_append]))
      (refine walkI_nil ?_; simp only [List.nil_append, List.cons_append, fins, Is, forall_eq, Act.put, List.setIfInBounds_toArray, List.set_cons_zero, List.set_cons_succ])
      rintro w2 hb2 v ⟨g, rfl, ho⟩
      go_wp2_with (at_builtin; refine wpList_append_M 0 rfl _ _ 22 rfl Tryz.underlying22 infoInt rfl rfl rfl ((hS.ext hb2)) rfl (srcArr (xs := [x.attr, x.n.num, x.n.den]) ho (cells3 i0 i1 i2) rfl) one_IntR ?c3 ?c4 ?c5)
      case c3 => have := hfk.out; rw [List.length_take] at this; simp; omega
      case c4 => have := hfk.out; rw [List.length_take] at this; simp; omega
      case c5 =>
      intro v' w3 hS3
      rw [← hsn.out] at hS3
      obtain ⟨e', n', f', rfl⟩ : ∃ e n f, v' = .slice e n f := by obtain ⟨e, f, h, -⟩ := hS3.form 0 rfl; exact ⟨e, _, f, h⟩
      clear hS hb2 h0 h1 h2 ho hbl
      go_wp2_with fail
      go_roundw
      case rel => exact ⟨k + 1, by omega, by go_num, hS3⟩
      case measure => simp [intOf]; omega
    · have hfin := Lib.hid (hS.ownS 0 rfl)
      have hex := hS.ex
      have e : Hid (l.take k = l) := List.take_of_length_le (by omega)
      clear hS hr
      go_wp2_with fail
      go_ret
      refine ⟨_, rfl, ?_, hex⟩
      have h := hfin.out
      show OwnI _ _ (.slice av (flat (List.take k l)).length cv) (flat l)
      rw [e.out] at h ⊢
      exact h
set_option maxRecDepth 100000 in
set_option maxHeartbeats 1000000 in
theorem compare_r (t : Thing) : ∀ (s : Thing) (cs ds : List Value) (w : World), ThingR (ph w) cs t → ThingR (ph w) ds s → t.bulk ≤ 1000000 → s.bulk ≤ 1000000 →
    Calls Tryz.prog 22 #[.agg cs.toArray, .agg ds.toArray] w (RetV w (.int .i64 (cmpT t s))) := by
  induction t using Thing.ind with
  | h t ih =>
    intro s cs ds w hr hs hB hB'
    obtain ⟨a1, c1, a2, c2, a3, c3, rfl, l1, l2, l3, hc, hv, hp⟩ := hr.form
    obtain ⟨a1', c1', a2', c2', a3', c3', rfl, l1', l2', l3', hc', hv', hp'⟩ := hs.form
    have HI := Lib.hid ih; clear ih
    have hE := Lib.hid (cmpT_eq t s)
    have hvl : t.vals.length ≤ 1000000 := by rw [Thing.bulk_eq] at hB; omega
    have hvl' : s.vals.length ≤ 1000000 := by rw [Thing.bulk_eq] at hB'; omega
    go_enter Tryz.func22, Tryz.ntmps22
    go_wp2_with fail
    refine RetV_at (ints_r _ _ t.cls s.cls _ (hc.mono mono_IntR (Ext.ple (by with_reducible repeat (first | assumption | exact Ext.rfl' _ | exact Ext.new _ _ | refine Ext.alloc' ?_ _ | refine Ext.drew' ?_ | refine Ext.drewN' ?_ _ | (refine Ext.set' ?_ ?_ _; rotate_left; focus (first | omega | (simp; done) | (simp; omega))) | (refine Ext.then (b := ?_) ?_ ?_; rotate_left; rotate_left; assumption))))) (hc'.mono mono_IntR (Ext.ple (by with_reducible repeat (first | assumption | exact Ext.rfl' _ | exact Ext.new _ _ | refine Ext.alloc' ?_ _ | refine Ext.drew' ?_ | refine Ext.drewN' ?_ _ | (refine Ext.set' ?_ ?_ _; rotate_left; focus (first | omega | (simp; done) | (simp; omega))) | (refine Ext.then (b := ?_) ?_ ?_; rotate_left; rotate_left; assumption)))))) ?_
    intro w1 hb1
    have hO : Own w1 w.heap.size #[.slice a1 t.cls.length c1, .slice a2 t.vals.length c2, .slice a3 t.parts.length c3] 27 := Own.keep ((Own.new _ _ _).alloc _) hb1
    have hO' : Own w1 (w.heap.size + 1) #[.slice a1' s.cls.length c1', .slice a2' s.vals.length c2', .slice a3' s.parts.length c3'] 27 := Own.keep (Own.new' _ _ _ (by simp)) hb1
    have hb : Ext w w1 := (by with_reducible repeat (first | assumption | exact Ext.rfl' _ | exact Ext.new _ _ | refine Ext.alloc' ?_ _ | refine Ext.drew' ?_ | refine Ext.drewN' ?_ _ | (refine Ext.set' ?_ ?_ _; rotate_left; focus (first | omega | (simp; done) | (simp; omega))) | (refine Ext.then (b := ?_) ?_ ?_; rotate_left; rotate_left; assumption)))
    clear hb1
    obtain ⟨q1, q2⟩ := hO.facts
    have q3 := hO.lt
    obtain ⟨r1, r2⟩ := hO'.facts
    have r3 := hO'.lt
    by_cases h1 : cmpL cmpI t.cls s.cls = 0
    · have h1b : (cmpL cmpI t.cls s.cls == 0) = true := by simpa using h1
      replace h1 := Lib.hid h1
      generalize hz1 : cmpL cmpI t.cls s.cls = z1 at *
      replace hz1 := Lib.hid hz1
      go_wp2_with fail
      (refine wp_region_I 7 (by kernel_rfl) (by kernel_rfl) ?_; simp only [List.toList_toArray, List.take_succ_cons, List.take_zero, List.drop_succ_cons, List.drop_zero])
      iterate 2 (refine walkI_is (u := ?_) rfl (by simp) rfl ?_ ?_; rotate_left; (focus (intro A w' hS hA K hK; (simp only [List.map_cons, List.map_nil, knows, Is, Op.operands, Call.operands, List.lookup_cons, List.lookup_nil, Nat.reduceBEq, Bool.false_eq_true, if_false, if_true, Act.eval, Array.getD_eq_getD_getElem?, List.getElem?_toArray, List.getElem?_cons_succ, List.getElem?_cons_zero, Option.getD_some, and_true, true_and, List.append_toArray, List.nil_append, List.cons_append, List.toList_toArray, Array.toList_append, Option.toArray, List.append_nil] at hA); first | fail | (obtain ⟨hSc, hSf, hSs⟩ := hS.cells; go_simp; exact hK _ (by first | exact Ext.rfl' _ | exact Ext.new _ _ | assumption)))); (try simp only [List.nil_append, List.cons_append]))
      (refine walkI_step (fun v w' => IntsR (ph w') v (flat t.vals)) rfl (by simp) rfl (fun v a b _ h e => SliceRep.mono h mono_IntR e.ple) ?_ ?_; (focus (intro A w' hS hA K hK; (simp only [List.map_cons, List.map_nil, knows, Is, Op.operands, Call.operands, List.lookup_cons, List.lookup_nil, Nat.reduceBEq, Bool.false_eq_true, if_false, if_true, Act.eval, Array.getD_eq_getD_getElem?, List.getElem?_toArray, List.getElem?_cons_succ, List.getElem?_cons_zero, Option.getD_some, and_true, true_and, List.append_toArray, List.nil_append, List.cons_append, List.toList_toArray, Array.toList_append, Option.toArray, List.append_nil] at hA); (go_simp; refine (numbers_r _ t.vals _ (hv.mono mono_ValR (hb.then hS).ple) hvl).mono ?_; rintro e w'' ⟨v, rfl, ho, hbx⟩; exact hK _ _ hbx (ho.rep mono_IntR (noH_le _))))); (try simp only [List.nil_append, List.cons_append]))
      iterate 2 (refine walkI_is (u := ?_) rfl (by simp) rfl ?_ ?_; rotate_left; (focus (intro A w' hS hA K hK; (simp only [List.map_cons, List.map_nil, knows, Is, Op.operands, Call.operands, List.lookup_cons, List.lookup_nil, Nat.reduceBEq, Bool.false_eq_true, if_false, if_true, Act.eval, Array.getD_eq_getD_getElem?, List.getElem?_toArray, List.getElem?_cons_succ, List.getElem?_cons_zero, Option.getD_some, and_true, true_and, List.append_toArray, List.nil_append, List.cons_append, List.toList_toArray, Array.toList_append, Option.toArray, List.append_nil] at hA); first | fail | (obtain ⟨hSc, hSf, hSs⟩ := hS.cells; go_simp; exact hK _ (by first | exact Ext.rfl' _ | exact Ext.new _ _ | assumption)))); (try simp only [List.nil_append, List.cons_append]))
      (refine walkI_step (fun v w' => IntsR (ph w') v (flat s.vals)) rfl (by simp) rfl (fun v a b _ h e => SliceRep.mono h mono_IntR e.ple) ?_ ?_; (focus (intro A w' hS hA K hK; (simp only [List.map_cons, List.map_nil, knows, Is, Op.operands, Call.operands, List.lookup_cons, List.lookup_nil, Nat.reduceBEq, Bool.false_eq_true, if_false, if_true, Act.eval, Array.getD_eq_getD_getElem?, List.getElem?_toArray, List.getElem?_cons_succ, List.getElem?_cons_zero, Option.getD_some, and_true, true_and, List.append_toArray, List.nil_append, List.cons_append, List.toList_toArray, Array.toList_append, Option.toArray, List.append_nil] at hA); (go_simp; refine (numbers_r _ s.vals _ (hv'.mono mono_ValR (hb.then hS).ple) hvl').mono ?_; rintro e w'' ⟨v, rfl, ho, hbx⟩; exact hK _ _ hbx (ho.rep mono_IntR (noH_le _))))); (try simp only [List.nil_append, List.cons_append]))
      (refine walkI_is (u := ?_) rfl (by simp) rfl ?_ ?_; rotate_left; (focus (intro A w' hS hA K hK; (simp only [List.map_cons, List.map_nil, knows, Is, Op.operands, Call.operands, List.lookup_cons, List.lookup_nil, Nat.reduceBEq, Bool.false_eq_true, if_false, if_true, Act.eval, Array.getD_eq_getD_getElem?, List.getElem?_toArray, List.getElem?_cons_succ, List.getElem?_cons_zero, Option.getD_some, and_true, true_and, List.append_toArray, List.nil_append, List.cons_append, List.toList_toArray, Array.toList_append, Option.toArray, List.append_nil] at hA); first | (go_simp; refine RetV_at (ints_r _ _ _ _ _ hA.1 hA.2) ?_; intro w'' hbx; exact hK _ hbx) | (obtain ⟨hSc, hSf, hSs⟩ := hS.cells; go_simp; exact hK _ (by first | exact Ext.rfl' _ | exact Ext.new _ _ | assumption)))); (try simp only [List.nil_append, List.cons_append]))
      (refine walkI_nil ?_; simp only [List.nil_append, List.cons_append, fins, Is, forall_eq, Act.put, List.setIfInBounds_toArray, List.set_cons_zero, List.set_cons_succ])
      intro w2 hb2 vx hvx vy hvy
      rw [cmp_flat]
      replace hO := hO.keep hb2
      replace hO' := hO'.keep hb2
      replace hb := hb.then hb2
      clear q1 q2 q3 r1 r2 r3 hb2 hvx hvy
      obtain ⟨q1, q2⟩ := hO.facts
      have q3 := hO.lt
      obtain ⟨r1, r2⟩ := hO'.facts
      have r3 := hO'.lt
      by_cases h2 : cmpL cmpV t.vals s.vals = 0
      · have h2b : (cmpL cmpV t.vals s.vals == 0) = true := by simpa using h2
        have hfin : Hid (cmpL cmpT t.parts s.parts = cmpT t s) := by
          show _ = _
          rw [hE.out, thenI, if_pos h1.out, thenI, if_pos h2]
        replace h2 := Lib.hid h2
        generalize hz2 : cmpL cmpV t.vals s.vals = z2 at *
        replace hz2 := Lib.hid hz2
        have hcD := Lib.hid (fun k h => cmpL_done (f := cmpT) (xs := t.parts) (ys := s.parts) (k := k) h)
        go_wp2_with fail
        go_loopw [7] (fun i wr => ∃ k : Nat, k ≤ t.parts.length ∧ k ≤ s.parts.length ∧ i = .int .i64 k ∧ Hid (zeroUpto cmpT t.parts s.parts k) ∧ Own wr w.heap.size #[.slice a1 t.cls.length c1, .slice a2 t.vals.length c2, .slice a3 t.parts.length c3] 27 ∧ Own wr (w.heap.size + 1) #[.slice a1' s.cls.length c1', .slice a2' s.vals.length c2', .slice a3' s.parts.length c3'] 27 ∧ Ext w wr) (fun i _ => t.parts.length - (intOf i).toNat)
        case atStart => exact ⟨0, Nat.zero_le _, Nat.zero_le _, rfl, Lib.hid (fun j _ _ h => by omega), hO, hO', hb⟩
        case round =>
          clear hO hO' hb q1 q2 q3 r1 r2 r3
          obtain ⟨k, hk, hk', rfl, HZ, hO, hO', hb⟩ := hrel
          obtain ⟨q1, q2⟩ := hO.facts
          have q3 := hO.lt
          obtain ⟨r1, r2⟩ := hO'.facts
          have r3 := hO'.lt
          by_cases hlt : k < t.parts.length ∧ k < s.parts.length
          · obtain ⟨hx, hy⟩ := hlt
            obtain ⟨b, o, b1, d1, b2, d2, b3, d3, rfl, h0, h1, h2, hE1, hbl⟩ := ThingsR.at (hp.mono mono_ThingR hb.ple) k hx
            obtain ⟨b', o', b1', d1', b2', d2', b3', d3', rfl, h0', h1', h2', hE2, hbl'⟩ := ThingsR.at (hp'.mono mono_ThingR hb.ple) k hy
            have hsucc := Lib.hid (fun h => zeroUpto_succ HZ.out hx hy h)
            have hat := Lib.hid (fun h => cmpL_at hx hy HZ.out h)
            have hbx := Thing.part_le (List.getElem_mem hx)
            have hby := Thing.part_le (List.getElem_mem hy)
            have hmx := List.getElem_mem hx
            generalize t.parts[k] = x at *
            generalize s.parts[k] = y at *
            replace hE1 := Lib.hid hE1
            replace hE2 := Lib.hid hE2
            clear hp hp'
            go_wp2_with fail
            (refine wp_region_I 11 (by kernel_rfl) (by kernel_rfl) ?_; simp only [List.toList_toArray, List.take_succ_cons, List.take_zero, List.drop_succ_cons, List.drop_zero])
            (repeat (first | (refine walkI_no rfl (by simp) rfl rfl rfl ?_ ?_; (focus (simp [undef]; done)); (try simp only [List.nil_append, List.cons_append])) | (refine walkI_is (u := ?_) rfl (by simp) rfl ?_ ?_; rotate_left; (focus (intro A w' hS hA K hK; (simp only [List.map_cons, List.map_nil, knows, Is, Op.operands, Call.operands, List.lookup_cons, List.lookup_nil, Nat.reduceBEq, Bool.false_eq_true, if_false, if_true, Act.eval, Array.getD_eq_getD_getElem?, List.getElem?_toArray, List.getElem?_cons_succ, List.getElem?_cons_zero, Option.getD_some, and_true, true_and, List.append_toArray, List.nil_append, List.cons_append, List.toList_toArray, Array.toList_append, Option.toArray, List.append_nil] at hA); first | (obtain ⟨hSc, hSf, hSs⟩ := hS.cells; go_simp; refine RetV_at (HI.out x hmx y _ _ _ (mono_ThingR _ _ _ _ hS.ple hE1.out) (mono_ThingR _ _ _ _ hS.ple hE2.out) (by omega) (by omega)) ?_; intro w'' hbx; exact hK _ hbx) | (obtain ⟨hSc, hSf, hSs⟩ := hS.cells; go_simp; exact hK _ (by first | exact Ext.rfl' _ | exact Ext.new _ _ | assumption)))); (try simp only [List.nil_append, List.cons_append])) | (refine walkI_yesis (u := ?_) rfl (by simp) rfl rfl rfl ?_ ?_; rotate_left; (focus (intro A w' hS hA K hK; (simp only [List.map_cons, List.map_nil, knows, Is, Op.operands, Call.operands, List.lookup_cons, List.lookup_nil, Nat.reduceBEq, Bool.false_eq_true, if_false, if_true, Act.eval, Array.getD_eq_getD_getElem?, List.getElem?_toArray, List.getElem?_cons_succ, List.getElem?_cons_zero, Option.getD_some, and_true, true_and, List.append_toArray, List.nil_append, List.cons_append, List.toList_toArray, Array.toList_append, Option.toArray, List.append_nil] at hA); first | (obtain ⟨hSc, hSf, hSs⟩ := hS.cells; go_simp; refine RetV_at (HI.out x hmx y _ _ _ (mono_ThingR _ _ _ _ hS.ple hE1.out) (mono_ThingR _ _ _ _ hS.ple hE2.out) (by omega) (by omega)) ?_; intro w'' hbx; exact hK _ hbx) | (obtain ⟨hSc, hSf, hSs⟩ := hS.cells; go_simp; exact hK _ (by first | exact Ext.rfl' _ | exact Ext.new _ _ | assumption)))); (try simp only [List.nil_append, List.cons_append]))))
            (refine walkI_nil ?_; simp only [List.nil_append, List.cons_append, fins, Is, forall_eq, Act.put, List.setIfInBounds_toArray, List.set_cons_zero, List.set_cons_succ])
            intro w3 hb3
            replace hO := hO.keep hb3
            replace hO' := hO'.keep hb3
            replace hb := hb.then hb3
            clear hb3 q1 q2 q3 r1 r2 r3 h0 h1 h2 h0' h1' h2' hbl hbl'
            by_cases hz : cmpT x y = 0
            · have hzb : (cmpT x y == 0) = true := by simpa using hz
              replace hz := Lib.hid hz
              generalize cmpT x y = z at *
              go_wp2_with fail
              go_roundw
              case rel => exact ⟨k + 1, by omega, by omega, by go_num, Lib.hid (hsucc.out hz.out), hO, hO', hb⟩
              case measure => simp [intOf]; omega
            · have hzb : (cmpT x y == 0) = false := by simpa using hz
              replace hz := Lib.hid hz
              generalize cmpT x y = z at *
              go_wp2_with fail
              go_ret
              exact ⟨ret_int ((hat.out hz.out).symm.trans hfin.out), hb⟩
          · have hd := Lib.hid (hcD.out k HZ.out (by omega))
            clear hp hp'
            by_cases hx : k < t.parts.length
            · have hy : ¬ k < s.parts.length := by omega
              clear hlt
              go_wp2_with fail
              refine RetV_at (order_c _ _ _) ?_
              intro w3 hb3
              have hfin' : Hid (cmpI t.parts.length s.parts.length = cmpT t s) := hd.out.symm.trans hfin.out
              generalize cmpI t.parts.length s.parts.length = z at *
              go_wp2_with fail
              go_ret
              exact ⟨ret_int hfin'.out, (by with_reducible repeat (first | assumption | exact Ext.rfl' _ | exact Ext.new _ _ | refine Ext.alloc' ?_ _ | refine Ext.drew' ?_ | refine Ext.drewN' ?_ _ | (refine Ext.set' ?_ ?_ _; rotate_left; focus (first | omega | (simp; done) | (simp; omega))) | (refine Ext.then (b := ?_) ?_ ?_; rotate_left; rotate_left; assumption)))⟩
            · clear hlt
              go_wp2_with fail
              refine RetV_at (order_c _ _ _) ?_
              intro w3 hb3
              have hfin' : Hid (cmpI t.parts.length s.parts.length = cmpT t s) := hd.out.symm.trans hfin.out
              generalize cmpI t.parts.length s.parts.length = z at *
              go_wp2_with fail
              go_ret
              exact ⟨ret_int hfin'.out, (by with_reducible repeat (first | assumption | exact Ext.rfl' _ | exact Ext.new _ _ | refine Ext.alloc' ?_ _ | refine Ext.drew' ?_ | refine Ext.drewN' ?_ _ | (refine Ext.set' ?_ ?_ _; rotate_left; focus (first | omega | (simp; done) | (simp; omega))) | (refine Ext.then (b := ?_) ?_ ?_; rotate_left; rotate_left; assumption)))⟩
      · have h2b : (cmpL cmpV t.vals s.vals == 0) = false := by simpa using h2
        have hfin : Hid (cmpL cmpV t.vals s.vals = cmpT t s) := by
          show _ = _
          rw [hE.out, thenI, if_pos h1.out, thenI, if_neg h2]
        replace h2 := Lib.hid h2
        generalize cmpL cmpV t.vals s.vals = z2 at *
        go_wp2_with fail
        go_ret
        exact ⟨ret_int hfin.out, (by with_reducible repeat (first | assumption | exact Ext.rfl' _ | exact Ext.new _ _ | refine Ext.alloc' ?_ _ | refine Ext.drew' ?_ | refine Ext.drewN' ?_ _ | (refine Ext.set' ?_ ?_ _; rotate_left; focus (first | omega | (simp; done) | (simp; omega))) | (refine Ext.then (b := ?_) ?_ ?_; rotate_left; rotate_left; assumption)))⟩
    · have h1b : (cmpL cmpI t.cls s.cls == 0) = false := by simpa using h1
      have hfin : Hid (cmpL cmpI t.cls s.cls = cmpT t s) := by
        show _ = _
        rw [hE.out, thenI, if_neg h1]
      replace h1 := Lib.hid h1
      generalize cmpL cmpI t.cls s.cls = z1 at *
      go_wp2_with fail
      go_ret
      exact ⟨ret_int hfin.out, (by with_reducible repeat (first | assumption | exact Ext.rfl' _ | exact Ext.new _ _ | refine Ext.alloc' ?_ _ | refine Ext.drew' ?_ | refine Ext.drewN' ?_ _ | (refine Ext.set' ?_ ?_ _; rotate_left; focus (first | omega | (simp; done) | (simp; omega))) | (refine Ext.then (b := ?_) ?_ ?_; rotate_left; rotate_left; assumption)))⟩
end Go.Proofs.YtnhcplmcddlgnaaGreat
namespace Go.Proofs.YtnhcplmcddlgnaaGreat
open Go.RowKit
set_option linter.unusedSimpArgs false
set_option linter.unusedVariables false
mutual
def turn : Thing → Thing
  | .mk c v p => .mk c.reverse v.reverse (turns p).reverse
def turns : List Thing → List Thing
  | [] => []
  | x :: xs => turn x :: turns xs
end
theorem turns_eq : ∀ l : List Thing, turns l = l.map turn
  | [] => rfl
  | x :: xs => by simp [turns, turns_eq xs]
theorem turn_eq (t : Thing) : turn t = .mk t.cls.reverse t.vals.reverse (t.parts.map turn).reverse := by
  cases t; simp [turn, turns_eq, Thing.cls, Thing.vals, Thing.parts]
theorem sumN_append {α : Type} (f : α → Nat) : ∀ a b : List α, sumN f (a ++ b) = sumN f a + sumN f b
  | [], b => by simp [sumN]
  | x :: a, b => by simp only [List.cons_append, sumN, sumN_append f a b]; omega
theorem sumN_reverse {α : Type} (f : α → Nat) : ∀ a : List α, sumN f a.reverse = sumN f a
  | [] => rfl
  | x :: a => by rw [List.reverse_cons, sumN_append, sumN_reverse f a]; simp [sumN]; omega
theorem sumN_map {α β : Type} (f : α → Nat) (g : β → α) : ∀ a : List β, sumN f (a.map g) = sumN (fun x => f (g x)) a
  | [] => rfl
  | x :: a => by simp only [List.map_cons, sumN, sumN_map f g a]
theorem sumN_congr {α : Type} {f g : α → Nat} : ∀ {a : List α}, (∀ x ∈ a, f x = g x) → sumN f a = sumN g a
  | [], _ => rfl
  | x :: a, h => by simp only [sumN]; rw [h x (by simp), sumN_congr fun y hy => h y (by simp [hy])]
theorem turn_bulk (t : Thing) : (turn t).bulk = t.bulk := by
  induction t using Thing.ind with
  | h t ih =>
    rw [turn_eq, Thing.bulk_eq, Thing.bulk_eq t]
    simp only [Thing.cls, Thing.vals, Thing.parts, List.length_reverse, sumN_reverse, sumN_map]
    have := sumN_congr (f := fun x => (turn x).bulk) (g := Thing.bulk) ih
    cases t; simp only [Thing.parts] at *; omega
theorem drop_rev {α : Type} (l : List α) (k : Nat) (h : k < l.length) : (l.drop k).reverse = (l.drop (k + 1)).reverse ++ [l[k]] := by
  rw [List.drop_eq_getElem_cons h, List.reverse_cons]
def TurnP (H : PH) (w : World) (t : Thing) (e : Ending) (w' : World) : Prop := ∃ cs : List Value, e = .returned (.agg cs.toArray) ∧ ThingR (up H w w') cs (turn t) ∧ Ext w w'
set_option maxRecDepth 100000 in
set_option maxHeartbeats 2000000 in
theorem turned_c (t : Thing) : ∀ (H : PH) (cs : List Value) (w : World), PLe H (ph w) → ThingR H cs t → t.bulk ≤ 1000000 →
    Calls Tryz.prog 8 #[.agg cs.toArray] w (TurnP H w t) := by
  induction t using Thing.ind with
  | h t ih =>
    intro H cs w hP hr hbk
    obtain ⟨a1, c1, a2, c2, a3, c3, rfl, l1, l2, l3, hc, hv, hp⟩ := hr.form
    have HI := Lib.hid ih; clear ih
    have hbk' := Lib.hid (Thing.bulk_eq t)
    have hb1 : t.cls.length ≤ 1000000 := by have := hbk'.out; omega
    have hb2 : t.vals.length ≤ 1000000 := by have := hbk'.out; omega
    have hb3 : t.parts.length ≤ 1000000 := by have := t.parts_le; omega
    have hS : Mem w H [boxT w.heap.size (.slice a1 t.cls.length c1) (.slice a2 t.vals.length c2) (.slice a3 t.parts.length c3), boxT (w.heap.size + 1) (.slice none 0 0) (.slice none 0 0) (.slice none 0 0), boxT (w.heap.size + 1 + 1) (.slice none 0 0) (.slice none 0 0) (.slice none 0 0), ownI (.slice none 0 0) [], ownV (.slice none 0 0) [], ownT (.slice none 0 0) []] H _ :=
      ((((((Mem.start w H hP).new #[.slice a1 t.cls.length c1, .slice a2 t.vals.length c2, .slice a3 t.parts.length c3] 27).new' zeroT 27 (n := w.heap.size + 1) (by simp)).new' zeroT 27 (n := w.heap.size + 1 + 1) (by simp)).nil mono_IntR 1 3).nil mono_ValR 3 46).nil mono_ThingR 3 27
    go_enter Tryz.func8, Tryz.ntmps8
    go_wp2_with fail
    go_loopw [4] (fun i wr => ∃ (k n1 f1 : Nat) (e1 : Option Addr), k ≤ t.cls.length ∧ i = .int .i64 ((k : Int) - 1) ∧
      Mem w H [boxT w.heap.size (.slice a1 t.cls.length c1) (.slice a2 t.vals.length c2) (.slice a3 t.parts.length c3), boxT (w.heap.size + 1) (.slice none 0 0) (.slice none 0 0) (.slice none 0 0), boxT (w.heap.size + 1 + 1) (.slice e1 n1 f1) (.slice none 0 0) (.slice none 0 0), ownI (.slice e1 n1 f1) (t.cls.drop k).reverse, ownV (.slice none 0 0) [], ownT (.slice none 0 0) []] H wr) (fun i _ => (intOf i + 1).toNat)
    case atStart => exact ⟨t.cls.length, 0, 0, none, Nat.le_refl _, by simp, by simpa using hS⟩
    case round =>
      clear hS
      obtain ⟨k, n1, f1, e1, hk, rfl, hS⟩ := hrel
      obtain ⟨q1, q2⟩ := (hS.box 2 rfl).facts
      have q3 := (hS.box 2 rfl).lt
      obtain ⟨r1, r2⟩ := (hS.box 0 rfl).facts
      have r3 := (hS.box 0 rfl).lt
      by_cases hlt : 0 < k
      · obtain ⟨j, rfl⟩ : ∃ j, k = j + 1 := ⟨k - 1, by omega⟩
        have hj1 : ((j + 1 : Nat) : Int) - 1 = j := by omega
        rw [hj1]
        clear hj1
        obtain ⟨b, o, rfl, h0, hi64, hbl⟩ := IntsR.at (hc.mono mono_IntR hS.ple) j (by omega)
        have hjl : j < t.cls.length := by omega
        have hdr := Lib.hid (drop_rev t.cls j (by omega))
        have hdl : (List.drop (j + 1) t.cls).length ≤ t.cls.length := by rw [List.length_drop]; omega
        generalize t.cls[j] = x at *
        go_wp2_with fail
        (refine wp_region_I 8 (by kernel_rfl) (by kernel_rfl) ?_; simp only [List.toList_toArray, List.take_succ_cons, List.take_zero, List.drop_succ_cons, List.drop_zero])
        (repeat (first | (refine walkI_no rfl (by simp) rfl rfl rfl ?_ ?_; (focus (simp [undef]; done)); (try simp only [List.nil_append, List.cons_append])) | (refine walkI_is (u := ?_) rfl (by simp) rfl ?_ ?_; rotate_left; (focus (intro A w' hS hA K hK; (simp only [List.map_cons, List.map_nil, knows, Is, Op.operands, Call.operands, List.lookup_cons, List.lookup_nil, Nat.reduceBEq, Bool.false_eq_true, if_false, if_true, Act.eval, Array.getD_eq_getD_getElem?, List.getElem?_toArray, List.getElem?_cons_succ, List.getElem?_cons_zero, Option.getD_some, and_true, true_and, List.append_toArray, List.nil_append, List.cons_append, List.toList_toArray, Array.toList_append, Option.toArray, List.append_nil] at hA); first | fail | (obtain ⟨hSc, hSf, hSs⟩ := hS.cells; go_simp; exact hK _ (by first | exact Ext.rfl' _ | exact Ext.new _ _ | assumption)))); (try simp only [List.nil_append, List.cons_append])) | (refine walkI_yesis (u := ?_) rfl (by simp) rfl rfl rfl ?_ ?_; rotate_left; (focus (intro A w' hS hA K hK; (simp only [List.map_cons, List.map_nil, knows, Is, Op.operands, Call.operands, List.lookup_cons, List.lookup_nil, Nat.reduceBEq, Bool.false_eq_true, if_false, if_true, Act.eval, Array.getD_eq_getD_getElem?, List.getElem?_toArray, List.getElem?_cons_succ, List.getElem?_cons_zero, Option.getD_some, and_true, true_and, List.append_toArray, List.nil_append, List.cons_append, List.toList_toArray, Array.toList_append, Option.toArray, List.append_nil] at hA); first | fail | (obtain ⟨hSc, hSf, hSs⟩ := hS.cells; go_simp; exact hK _ (by first | exact Ext.rfl' _ | exact Ext.new _ _ | assumption)))); (try simp only [List.nil_append, List.cons_append]))))
        (refine walkI_step (ArrP #[.int .i64 x] 1 3) rfl (by simp) rfl (stab_ArrP _ _ _) ?_ ?_; (focus (intro A w' hS hA K hK; (simp only [List.map_cons, List.map_nil, knows, Is, Op.operands, Call.operands, List.lookup_cons, List.lookup_nil, Nat.reduceBEq, Bool.false_eq_true, if_false, if_true, Act.eval, Array.getD_eq_getD_getElem?, List.getElem?_toArray, List.getElem?_cons_succ, List.getElem?_cons_zero, Option.getD_some, and_true, true_and, List.append_toArray, List.nil_append, List.cons_append, List.toList_toArray, Array.toList_append, Option.toArray, List.append_nil] at hA); (go_simp; exact hK _ _ (Ext.new _ _) ⟨_, rfl, Own.new _ _ _⟩))); (try simp only [List.nil_append, List.cons_append]))
        (refine walkI_nil ?_; simp only [List.nil_append, List.cons_append, fins, Is, forall_eq, Act.put, List.setIfInBounds_toArray, List.set_cons_zero, List.set_cons_succ])
        rintro w2 hx2 v ⟨g, rfl, ho⟩
        have hS2 := hS.ext hx2
        clear q1 q2 q3 r1 r2 r3 hx2
        obtain ⟨q1, q2⟩ := (hS2.box 2 rfl).facts
        go_wp2_with (at_builtin; refine wpList_append_M 3 rfl _ _ 22 rfl Tryz.underlying22 infoInt rfl rfl rfl (hS2) rfl (srcArr (xs := [x]) ho ⟨[_], [], rfl, rfl, ⟨rfl, hi64⟩, rfl⟩ rfl) one_IntR ?c3 ?c4 ?c5)
        case c3 => simp; omega
        case c4 => simp; omega
        case c5 =>
        intro v' w7 hS7
        obtain ⟨e', n', f', rfl⟩ : ∃ e n f, v' = .slice e n f := by obtain ⟨e, f, h, -⟩ := hS7.form 3 rfl; exact ⟨e, _, f, h⟩
        rw [← hdr.out] at hS7
        clear hS hS2 q1 q2 ho h0
        obtain ⟨q1, q2⟩ := (hS7.box 2 rfl).facts
        have q3 := (hS7.box 2 rfl).lt
        go_wp2_with fail
        go_roundw
        case rel => exact ⟨j, n', f', e', by omega, rfl, hS7.set 2 rfl 0 (.slice e' n' f')⟩
        case measure => simp [intOf] <;> omega
      · obtain rfl : k = 0 := by omega
        rw [show ((0 : Nat) : Int) - 1 = -1 from rfl]
        rw [List.drop_zero] at hS
        clear hc hlt
        go_wp2_with fail
        go_loopw [5] (fun i wr => ∃ (k n2 f2 : Nat) (e2 : Option Addr), k ≤ t.vals.length ∧ i = .int .i64 ((k : Int) - 1) ∧
          Mem w H [boxT w.heap.size (.slice a1 t.cls.length c1) (.slice a2 t.vals.length c2) (.slice a3 t.parts.length c3), boxT (w.heap.size + 1) (.slice none 0 0) (.slice none 0 0) (.slice none 0 0), boxT (w.heap.size + 1 + 1) (.slice e1 n1 f1) (.slice e2 n2 f2) (.slice none 0 0), ownI (.slice e1 n1 f1) t.cls.reverse, ownV (.slice e2 n2 f2) (t.vals.drop k).reverse, ownT (.slice none 0 0) []] H wr) (fun i _ => (intOf i + 1).toNat)
        case atStart => exact ⟨t.vals.length, 0, 0, none, Nat.le_refl _, by simp, by simpa using hS⟩
        case round =>
          clear hS q1 q2 q3 r1 r2 r3
          obtain ⟨k, n2, f2, e2, hk, rfl, hS⟩ := hrel
          obtain ⟨q1, q2⟩ := (hS.box 2 rfl).facts
          have q3 := (hS.box 2 rfl).lt
          obtain ⟨r1, r2⟩ := (hS.box 0 rfl).facts
          have r3 := (hS.box 0 rfl).lt
          by_cases hlt : 0 < k
          · obtain ⟨j, rfl⟩ : ∃ j, k = j + 1 := ⟨k - 1, by omega⟩
            have hj1 : ((j + 1 : Nat) : Int) - 1 = j := by omega
            rw [hj1]
            clear hj1
            obtain ⟨b, o, rfl, h0, h1, h2, i0, i1, i2, hbl⟩ := ValsR.at (hv.mono mono_ValR hS.ple) j (by omega)
            have hjl : j < t.vals.length := by omega
            have hdr := Lib.hid (drop_rev t.vals j (by omega))
            have hdl : (List.drop (j + 1) t.vals).length ≤ t.vals.length := by rw [List.length_drop]; omega
            generalize t.vals[j] = x at *
            go_wp2_with fail
            (refine wp_region_I 8 (by kernel_rfl) (by kernel_rfl) ?_; simp only [List.toList_toArray, List.take_succ_cons, List.take_zero, List.drop_succ_cons, List.drop_zero])
            (repeat (first | (refine walkI_no rfl (by simp) rfl rfl rfl ?_ ?_; (focus (simp [undef]; done)); (try simp only [List.nil_append, List.cons_append])) | (refine walkI_is (u := ?_) rfl (by simp) rfl ?_ ?_; rotate_left; (focus (intro A w' hS hA K hK; (simp only [List.map_cons, List.map_nil, knows, Is, Op.operands, Call.operands, List.lookup_cons, List.lookup_nil, Nat.reduceBEq, Bool.false_eq_true, if_false, if_true, Act.eval, Array.getD_eq_getD_getElem?, List.getElem?_toArray, List.getElem?_cons_succ, List.getElem?_cons_zero, Option.getD_some, and_true, true_and, List.append_toArray, List.nil_append, List.cons_append, List.toList_toArray, Array.toList_append, Option.toArray, List.append_nil] at hA); first | fail | (obtain ⟨hSc, hSf, hSs⟩ := hS.cells; go_simp; exact hK _ (by first | exact Ext.rfl' _ | exact Ext.new _ _ | assumption)))); (try simp only [List.nil_append, List.cons_append])) | (refine walkI_yesis (u := ?_) rfl (by simp) rfl rfl rfl ?_ ?_; rotate_left; (focus (intro A w' hS hA K hK; (simp only [List.map_cons, List.map_nil, knows, Is, Op.operands, Call.operands, List.lookup_cons, List.lookup_nil, Nat.reduceBEq, Bool.false_eq_true, if_false, if_true, Act.eval, Array.getD_eq_getD_getElem?, List.getElem?_toArray, List.getElem?_cons_succ, List.getElem?_cons_zero, Option.getD_some, and_true, true_and, List.append_toArray, List.nil_append, List.cons_append, List.toList_toArray, Array.toList_append, Option.toArray, List.append_nil] at hA); first | fail | (obtain ⟨hSc, hSf, hSs⟩ := hS.cells; go_simp; exact hK _ (by first | exact Ext.rfl' _ | exact Ext.new _ _ | assumption)))); (try simp only [List.nil_append, List.cons_append]))))
            (refine walkI_step (ArrP #[.int .i64 x.attr, .int .i64 x.n.num, .int .i64 x.n.den] 1 46) rfl (by simp) rfl (stab_ArrP _ _ _) ?_ ?_; (focus (intro A w' hS hA K hK; (simp only [List.map_cons, List.map_nil, knows, Is, Op.operands, Call.operands, List.lookup_cons, List.lookup_nil, Nat.reduceBEq, Bool.false_eq_true, if_false, if_true, Act.eval, Array.getD_eq_getD_getElem?, List.getElem?_toArray, List.getElem?_cons_succ, List.getElem?_cons_zero, Option.getD_some, and_true, true_and, List.append_toArray, List.nil_append, List.cons_append, List.toList_toArray, Array.toList_append, Option.toArray, List.append_nil] at hA); (go_simp; exact hK _ _ (Ext.new _ _) ⟨_, rfl, Own.new _ _ _⟩))); (try simp only [List.nil_append, List.cons_append]))
            (refine walkI_nil ?_; simp only [List.nil_append, List.cons_append, fins, Is, forall_eq, Act.put, List.setIfInBounds_toArray, List.set_cons_zero, List.set_cons_succ])
            rintro w2 hx2 v ⟨g, rfl, ho⟩
            have hS2 := hS.ext hx2
            clear q1 q2 q3 r1 r2 r3 hx2
            obtain ⟨q1, q2⟩ := (hS2.box 2 rfl).facts
            go_wp2_with (at_builtin; refine wpList_append_M 4 rfl _ _ 25 rfl Tryz.underlying25 infoVal rfl rfl rfl (hS2) rfl (srcArr (xs := [x]) ho ⟨[_, _, _], [], rfl, rfl, ⟨rfl, i0, i1, i2⟩, rfl⟩ rfl) one_ValR ?c3 ?c4 ?c5)
            case c3 => simp; omega
            case c4 => simp; omega
            case c5 =>
            intro v' w7 hS7
            obtain ⟨e', n', f', rfl⟩ : ∃ e n f, v' = .slice e n f := by obtain ⟨e, f, h, -⟩ := hS7.form 4 rfl; exact ⟨e, _, f, h⟩
            rw [← hdr.out] at hS7
            clear hS hS2 q1 q2 ho h0 h1 h2
            obtain ⟨q1, q2⟩ := (hS7.box 2 rfl).facts
            have q3 := (hS7.box 2 rfl).lt
            go_wp2_with fail
            go_roundw
            case rel => exact ⟨j, n', f', e', by omega, rfl, hS7.set 2 rfl 1 (.slice e' n' f')⟩
            case measure => simp [intOf] <;> omega
          · obtain rfl : k = 0 := by omega
            rw [show ((0 : Nat) : Int) - 1 = -1 from rfl]
            rw [List.drop_zero] at hS
            clear hv hlt
            go_wp2_with fail
            go_loopw [6] (fun i wr => ∃ (k n3 f3 : Nat) (e3 : Option Addr) (H' : PH), k ≤ t.parts.length ∧ i = .int .i64 ((k : Int) - 1) ∧ PLe H H' ∧
              Mem w H [boxT w.heap.size (.slice a1 t.cls.length c1) (.slice a2 t.vals.length c2) (.slice a3 t.parts.length c3), boxT (w.heap.size + 1) (.slice none 0 0) (.slice none 0 0) (.slice none 0 0), boxT (w.heap.size + 1 + 1) (.slice e1 n1 f1) (.slice e2 n2 f2) (.slice e3 n3 f3), ownI (.slice e1 n1 f1) t.cls.reverse, ownV (.slice e2 n2 f2) t.vals.reverse, ownT (.slice e3 n3 f3) ((t.parts.map turn).drop k).reverse] H' wr) (fun i _ => (intOf i + 1).toNat)
            case atStart => exact ⟨t.parts.length, 0, 0, none, H, Nat.le_refl _, by simp, PLe.refl _, by rw [List.drop_of_length_le (by simp)]; exact hS⟩
            case round =>
              clear hS q1 q2 q3 r1 r2 r3
              obtain ⟨k, n3, f3, e3, H', hk, rfl, hHH, hS⟩ := hrel
              obtain ⟨q1, q2⟩ := (hS.box 2 rfl).facts
              have q3 := (hS.box 2 rfl).lt
              obtain ⟨r1, r2⟩ := (hS.box 0 rfl).facts
              have r3 := (hS.box 0 rfl).lt
              by_cases hlt : 0 < k
              · obtain ⟨j, rfl⟩ : ∃ j, k = j + 1 := ⟨k - 1, by omega⟩
                have hj1 : ((j + 1 : Nat) : Int) - 1 = j := by omega
                rw [hj1]
                clear hj1
                have hp' := hp.mono mono_ThingR hHH
                obtain ⟨b, o, cs, hx, hcl, hce, hE⟩ := hp'.get j (by omega)
                subst hx
                obtain ⟨b1, d1, b2, d2, b3, d3, rfl, -⟩ := hE.form
                have h0 : wr.cell? ⟨b, o + j * 3, none⟩ = some (.slice b1 t.parts[j].cls.length d1) := by rw [cell_ph]; exact cellAt_mono hS.ple (by simpa using hce 0 (by omega))
                have h1 : wr.cell? ⟨b, o + j * 3 + 1, none⟩ = some (.slice b2 t.parts[j].vals.length d2) := by rw [cell_ph]; exact cellAt_mono hS.ple (by simpa using hce 1 (by omega))
                have h2 : wr.cell? ⟨b, o + j * 3 + 2, none⟩ = some (.slice b3 t.parts[j].parts.length d3) := by rw [cell_ph]; exact cellAt_mono hS.ple (by simpa using hce 2 (by omega))
                have hbl := cell_lt h0
                have hjl : j < t.parts.length := by omega
                have hdr := Lib.hid (drop_rev (t.parts.map turn) j (by simp; omega))
                rw [List.getElem_map] at hdr
                have hdl : (List.drop (j + 1) (t.parts.map turn)).length ≤ t.parts.length := by rw [List.length_drop, List.length_map]; omega
                have hpm := List.getElem_mem (l := t.parts) (n := j) (by omega)
                have hpb := Thing.part_le hpm
                generalize t.parts[j] = p at *
                clear hce hp'
                replace hE := Lib.hid hE
                have hM := hS
                go_wp2_with fail
                (refine wp_region_I 9 (by kernel_rfl) (by kernel_rfl) ?_; simp only [List.toList_toArray, List.take_succ_cons, List.take_zero, List.drop_succ_cons, List.drop_zero])
                (repeat (first | (refine walkI_no rfl (by simp) rfl rfl rfl ?_ ?_; (focus (simp [undef]; done)); (try simp only [List.nil_append, List.cons_append])) | (refine walkI_is (u := ?_) rfl (by simp) rfl ?_ ?_; rotate_left; (focus (intro A w' hS hA K hK; (simp only [List.map_cons, List.map_nil, knows, Is, Op.operands, Call.operands, List.lookup_cons, List.lookup_nil, Nat.reduceBEq, Bool.false_eq_true, if_false, if_true, Act.eval, Array.getD_eq_getD_getElem?, List.getElem?_toArray, List.getElem?_cons_succ, List.getElem?_cons_zero, Option.getD_some, and_true, true_and, List.append_toArray, List.nil_append, List.cons_append, List.toList_toArray, Array.toList_append, Option.toArray, List.append_nil] at hA); first | fail | (obtain ⟨hSc, hSf, hSs⟩ := hS.cells; go_simp; exact hK _ (by first | exact Ext.rfl' _ | exact Ext.new _ _ | assumption)))); (try simp only [List.nil_append, List.cons_append])) | (refine walkI_yesis (u := ?_) rfl (by simp) rfl rfl rfl ?_ ?_; rotate_left; (focus (intro A w' hS hA K hK; (simp only [List.map_cons, List.map_nil, knows, Is, Op.operands, Call.operands, List.lookup_cons, List.lookup_nil, Nat.reduceBEq, Bool.false_eq_true, if_false, if_true, Act.eval, Array.getD_eq_getD_getElem?, List.getElem?_toArray, List.getElem?_cons_succ, List.getElem?_cons_zero, Option.getD_some, and_true, true_and, List.append_toArray, List.nil_append, List.cons_append, List.toList_toArray, Array.toList_append, Option.toArray, List.append_nil] at hA); first | fail | (obtain ⟨hSc, hSf, hSs⟩ := hS.cells; go_simp; exact hK _ (by first | exact Ext.rfl' _ | exact Ext.new _ _ | assumption)))); (try simp only [List.nil_append, List.cons_append]))))
                (refine walkI_step (fun v w' => ∃ cs : List Value, v = .agg cs.toArray ∧ ThingR (up H' wr w') cs (turn p)) rfl (by simp) rfl (fun v w1 w2 hx ⟨cs, h1, h2⟩ hy => ⟨cs, h1, mono_ThingR _ _ _ _ (up_then hx hy) h2⟩) ?_ ?_; (focus (intro A w' hS hA K hK; (simp only [List.map_cons, List.map_nil, knows, Is, Op.operands, Call.operands, List.lookup_cons, List.lookup_nil, Nat.reduceBEq, Bool.false_eq_true, if_false, if_true, Act.eval, Array.getD_eq_getD_getElem?, List.getElem?_toArray, List.getElem?_cons_succ, List.getElem?_cons_zero, Option.getD_some, and_true, true_and, List.append_toArray, List.nil_append, List.cons_append, List.toList_toArray, Array.toList_append, Option.toArray, List.append_nil] at hA); (go_simp; refine (HI.out p hpm H' _ _ (hM.ple.trans hS.ple) hE.out (by omega)).mono ?_; rintro e w6 ⟨cs, rfl, h4, h6⟩; exact hK _ _ h6 ⟨cs, rfl, mono_ThingR _ _ _ _ (up_sub hM.ple hS) h4⟩))); (try simp only [List.nil_append, List.cons_append]))
                (refine walkI_step (fun v w' => ∃ (g : Nat) (cs : List Value), v = .slice (some ⟨g, 0, none⟩) 1 1 ∧ Own w' g cs.toArray 27 ∧ ThingR (up H' wr w') cs (turn p)) rfl (by simp) rfl (fun v w1 w2 hx ⟨g, cs, h1, h2, h3⟩ hy => ⟨g, cs, h1, h2.keep hy, mono_ThingR _ _ _ _ (up_then hx hy) h3⟩) ?_ ?_; (focus (intro A w' hS hA K hK; (simp only [List.map_cons, List.map_nil, knows, Is, Op.operands, Call.operands, List.lookup_cons, List.lookup_nil, Nat.reduceBEq, Bool.false_eq_true, if_false, if_true, Act.eval, Array.getD_eq_getD_getElem?, List.getElem?_toArray, List.getElem?_cons_succ, List.getElem?_cons_zero, Option.getD_some, and_true, true_and, List.append_toArray, List.nil_append, List.cons_append, List.toList_toArray, Array.toList_append, Option.toArray, List.append_nil] at hA); (obtain ⟨cs, hA1, hA2⟩ := hA; obtain ⟨y1, u1, y2, u2, y3, u3, rfl, -⟩ := hA2.form; go_simp; exact hK _ _ (Ext.new _ _) ⟨_, [_, _, _], rfl, Own.new _ _ _, mono_ThingR _ _ _ _ (up_then hS (Ext.new _ _)) hA2⟩))); (try simp only [List.nil_append, List.cons_append]))
                (refine walkI_nil ?_; simp only [List.nil_append, List.cons_append, fins, Is, forall_eq, Act.put, List.setIfInBounds_toArray, List.set_cons_zero, List.set_cons_succ])
                rintro w2 hx2 v - v' ⟨g, cs, rfl, ho, hT⟩
                have hS2 := hS.up hx2
                have hHH2 := hHH.trans (ple_up hM.ple (w' := w2))
                have hcl : cs.length = 3 := by obtain ⟨y1, u1, y2, u2, y3, u3, rfl, -⟩ := hT.form; rfl
                generalize up H' wr w2 = H2 at *
                clear q1 q2 q3 r1 r2 r3 hx2 hS hM h0 h1 h2 hbl
                obtain ⟨q1, q2⟩ := (hS2.box 2 rfl).facts
                go_wp2_with (at_builtin; refine wpList_append_M 5 rfl _ _ 23 rfl Tryz.underlying23 infoThing rfl rfl rfl (hS2) rfl (srcArr (xs := [turn p]) ho ⟨cs, [], by simp, hcl, hT, rfl⟩ rfl) one_ThingR ?c3 ?c4 ?c5)
                case c3 => simp; omega
                case c4 => simp; omega
                case c5 =>
                intro v' w7 hS7
                obtain ⟨e', n', f', rfl⟩ : ∃ e n f, v' = .slice e n f := by obtain ⟨e, f, h, -⟩ := hS7.form 5 rfl; exact ⟨e, _, f, h⟩
                rw [← hdr.out] at hS7
                clear hS2 q1 q2 ho hT
                obtain ⟨q1, q2⟩ := (hS7.box 2 rfl).facts
                have q3 := (hS7.box 2 rfl).lt
                go_wp2_with fail
                go_roundw
                case rel => exact ⟨j, n', f', e', H2, by omega, rfl, hHH2, hS7.set 2 rfl 2 (.slice e' n' f')⟩
                case measure => simp [intOf] <;> omega
              · obtain rfl : k = 0 := by omega
                rw [show ((0 : Nat) : Int) - 1 = -1 from rfl]
                rw [List.drop_zero] at hS
                clear hp hlt r1 r2 r3
                obtain ⟨r1, r2⟩ := (hS.box 1 rfl).facts
                have r3 := (hS.box 1 rfl).lt
                have hF := ((hS.set 1 rfl 0 (.slice e1 n1 f1)).set 1 rfl 1 (.slice e2 n2 f2)).set 1 rfl 2 (.slice e3 n3 f3)
                have hfin := Lib.hid (hF.thing 3 4 5 rfl rfl rfl)
                have hex := Lib.hid hF.ex
                have hte := Lib.hid (turn_eq t)
                clear hS hF
                go_wp2_with fail
                exact bodyPost_ret (v := .agg #[.slice e1 n1 f1, .slice e2 n2 f2, .slice e3 n3 f3]) (by simp [results, Tryz.results8, go_sem, r1, r2, r3]) rfl ⟨[_, _, _], rfl, by rw [hte.out]; exact hfin.out, hex.out⟩
end Go.Proofs.YtnhcplmcddlgnaaGreat
namespace Go.Proofs.YtnhcplmcddlgnaaGreat
set_option linter.unusedSimpArgs false
set_option linter.unusedVariables false
mutual
def normT : Thing → Option Thing
  | .mk c v p => match valsN v with
    | none => none
    | some vs => match normTs p with
      | none => none
      | some q => some (.mk (clsN c) vs (stS cmpT q))
def normTs : List Thing → Option (List Thing)
  | [] => some []
  | x :: l => match normT x with
    | none => none
    | some y => match normTs l with
      | none => none
      | some m => some (y :: m)
end
theorem ordT : Ordr cmpT := Ordr.of cmpT_ord
/-- q are the normal forms of l, one by one -/
def NormAll : List Thing → List Thing → Prop
  | [], [] => True
  | x :: l, y :: m => normT x = some y ∧ NormAll l m
  | _, _ => False
theorem normTs_some : ∀ {l q : List Thing}, normTs l = some q ↔ NormAll l q
  | [], [] => by simp [normTs, NormAll]
  | [], y :: m => by simp [normTs, NormAll]
  | x :: l, [] => by
    simp only [normTs, NormAll, iff_false]
    cases normT x with
    | none => simp
    | some y => cases normTs l <;> simp
  | x :: l, y :: m => by
    have ih := @normTs_some l m
    simp only [normTs, NormAll]
    cases hx : normT x with
    | none => simp
    | some z =>
      cases hl : normTs l with
      | none => rw [hl] at ih; simp only [reduceCtorEq, false_iff, Option.some.injEq, not_and] at ih ⊢; exact fun _ => ih
      | some k =>
        rw [hl] at ih
        simp only [Option.some.injEq, List.cons.injEq] at ih ⊢
        rw [ih]
theorem normTs_none : ∀ {l : List Thing}, normTs l = none ↔ ∃ x ∈ l, normT x = none
  | [] => by simp [normTs]
  | x :: l => by
    have ih := @normTs_none l
    simp only [normTs, List.mem_cons, exists_eq_or_imp]
    cases hx : normT x with
    | none => simp
    | some z =>
      cases hl : normTs l with
      | none => simpa using ih.1 hl
      | some k => simpa using fun y hy h => by rw [ih.2 ⟨y, hy, h⟩] at hl; cases hl
theorem NormAll.append : ∀ {a b q r : List Thing}, NormAll a q → NormAll b r → NormAll (a ++ b) (q ++ r)
  | [], b, [], r, _, h => h
  | x :: a, b, y :: q, r, h, h2 => ⟨h.1, NormAll.append h.2 h2⟩
  | [], b, y :: q, r, h, _ => h.elim
  | x :: a, b, [], r, h, _ => h.elim
theorem NormAll.rev : ∀ {a q : List Thing}, NormAll a q → NormAll a.reverse q.reverse
  | [], [], _ => trivial
  | x :: a, y :: q, h => by
    rw [List.reverse_cons, List.reverse_cons]
    exact (NormAll.rev h.2).append ⟨h.1, trivial⟩
  | [], y :: q, h => h.elim
  | x :: a, [], h => h.elim
theorem NormAll.len : ∀ {a q : List Thing}, NormAll a q → a.length = q.length
  | [], [], _ => rfl
  | x :: a, y :: q, h => by rw [List.length_cons, List.length_cons, NormAll.len h.2]
  | [], y :: q, h => h.elim
  | x :: a, [], h => h.elim
theorem NormAll.turn : ∀ {p q : List Thing}, (∀ x ∈ p, normT (turn x) = normT x) → NormAll p q → NormAll (p.map turn) q
  | [], [], _, h => h
  | [], y :: q, _, h => h.elim
  | x :: p, [], _, h => h.elim
  | x :: p, y :: q, ih, h => ⟨by rw [ih x (by simp)]; exact h.1, NormAll.turn (fun z hz => ih z (List.mem_cons_of_mem _ hz)) h.2⟩
theorem NormAll.twice : ∀ {p q : List Thing}, (∀ x ∈ p, ∀ {u : Thing}, normT x = some u → normT u = some u) → NormAll p q → ∀ y ∈ q, normT y = some y
  | [], [], _, _, y, hy => by cases hy
  | [], y :: q, _, h, _, _ => h.elim
  | x :: p, [], _, h, _, _ => h.elim
  | x :: p, y :: q, ih, h, z, hz => by
    rcases List.mem_cons.1 hz with rfl | hz
    · exact ih x (by simp) h.1
    · exact NormAll.twice (fun x hx => ih x (List.mem_cons_of_mem _ hx)) h.2 z hz
theorem NormAll.self : ∀ {l : List Thing}, (∀ y ∈ l, normT y = some y) → NormAll l l
  | [], _ => trivial
  | x :: l, h => ⟨h x (by simp), NormAll.self fun y hy => h y (List.mem_cons_of_mem _ hy)⟩
theorem NormAll.sum : ∀ {p q : List Thing}, (∀ x ∈ p, ∀ {u : Thing}, normT x = some u → u.size = x.size) → NormAll p q → sumN Thing.size q = sumN Thing.size p
  | [], [], _, _ => rfl
  | [], y :: q, _, h => h.elim
  | x :: p, [], _, h => h.elim
  | x :: p, y :: q, ih, h => by
    simp only [sumN]
    rw [ih x (by simp) h.1, NormAll.sum (fun x hx => ih x (List.mem_cons_of_mem _ hx)) h.2]
/-- sorted lists of the same things are the same -/
theorem cmpT_uniq : ∀ {l m : List Thing}, l.Pairwise (fun x y => cmpT x y ≤ 0) → m.Pairwise (fun x y => cmpT x y ≤ 0) → l.Perm m → l = m
  | [], m, _, _, hp => (List.nil_perm.1 hp).symm
  | x :: l, [], _, _, hp => by have := hp.length_eq; simp at this
  | x :: l, y :: m, h, h2, hp => by
    have hxy : x = y := by
      rcases List.mem_cons.1 (hp.mem_iff.1 (List.mem_cons_self)) with e | h3
      · exact e
      · rcases List.mem_cons.1 (hp.mem_iff.2 (List.mem_cons_self)) with e | h4
        · exact e.symm
        · have a1 := (List.pairwise_cons.1 h).1 y h4
          have a2 := (List.pairwise_cons.1 h2).1 x h3
          have a3 := (cmpT_ord x).opp y
          exact ((cmpT_ord x).eq y).1 (by omega)
    subst hxy
    rw [cmpT_uniq (List.pairwise_cons.1 h).2 (List.pairwise_cons.1 h2).2 (List.perm_cons x |>.1 hp)]
theorem stT_perm (l : List Thing) : (stS cmpT l).Perm l := by
  have h := stT_in ordT (tag l) [] List.Pairwise.nil (.inl (tag_up l))
  have := h.2.map Prod.fst
  rw [stT_fst, tag_fst, List.nil_append, tag_fst] at this
  exact this
theorem stT_sorted (l : List Thing) : (stS cmpT l).Pairwise (fun x y => cmpT x y ≤ 0) := by
  have h := (stT_in ordT (tag l) [] List.Pairwise.nil (.inl (tag_up l))).1
  have e : stS cmpT l = (stT cmpT (tag l) []).map Prod.fst := by rw [stT_fst, tag_fst]; rfl
  rw [e, List.pairwise_map]
  refine List.Pairwise.imp ?_ h
  rintro p q (h1 | ⟨h1, -⟩)
  · omega
  · have := (cmpT_ord p.1).opp q.1; omega
theorem stT_same {l m : List Thing} (h : l.Perm m) : stS cmpT l = stS cmpT m := cmpT_uniq (stT_sorted l) (stT_sorted m) (((stT_perm l).trans h).trans (stT_perm m).symm)
theorem stT_id {l : List Thing} (h : l.Pairwise (fun x y => cmpT x y ≤ 0)) : stS cmpT l = l := cmpT_uniq (stT_sorted l) h (stT_perm l)
theorem clsN_rev (l : List Int) : clsN l.reverse = clsN l := clsN_of (clsN_asc _) fun z => by rw [clsN_mem]; simp
theorem OneV.rev {l : List Val} : OneV l.reverse ↔ OneV l := by unfold OneV; simp
theorem valsN_rev (l : List Val) : valsN l.reverse = valsN l := by
  cases h : valsN l with
  | none => exact valsN_no (fun h2 => valsN_none h (OneV.rev.1 h2))
  | some m =>
    obtain ⟨h1, h2, h3⟩ := valsN_some h
    exact valsN_of h1 fun z => by rw [h2]; simp
/-- the opposite order gives the same -/
theorem normT_turn (t : Thing) : normT (turn t) = normT t := by
  induction t using Thing.ind with
  | h t ih =>
    obtain ⟨c, v, p⟩ := t
    have ih : ∀ x ∈ p, normT (turn x) = normT x := ih
    rw [turn_eq]
    simp only [Thing.cls, Thing.vals, Thing.parts]
    have hp : ∀ {q : List Thing}, NormAll p q → NormAll (p.map turn) q := fun h => NormAll.turn ih h
    simp only [normT, clsN_rev, valsN_rev]
    cases valsN v with
    | none => rfl
    | some vs =>
      show (match normTs (p.map turn).reverse with | none => none | some q => some (Thing.mk (clsN c) vs (stS cmpT q))) = match normTs p with | none => none | some q => some (Thing.mk (clsN c) vs (stS cmpT q))
      cases h : normTs p with
      | none =>
        obtain ⟨x, hx, hn⟩ := normTs_none.1 h
        have : normTs (p.map turn).reverse = none := normTs_none.2 ⟨turn x, by simpa using ⟨x, hx, rfl⟩, by rw [ih x hx]; exact hn⟩
        rw [this]
      | some q =>
        have : normTs (p.map turn).reverse = some q.reverse := normTs_some.2 (hp (normTs_some.1 h)).rev
        rw [this]
        show some _ = some _
        rw [stT_same (List.reverse_perm q)]
/-- a normal form is its own one -/
theorem normT_twice {t : Thing} : ∀ {u : Thing}, normT t = some u → normT u = some u := by
  induction t using Thing.ind with
  | h t ih =>
    intro u hu
    obtain ⟨c, v, p⟩ := t
    have ih : ∀ x ∈ p, ∀ {u : Thing}, normT x = some u → normT u = some u := ih
    simp only [normT] at hu
    cases hv : valsN v with
    | none => rw [hv] at hu; cases hu
    | some vs =>
      rw [hv] at hu
      cases hp : normTs p with
      | none => rw [hp] at hu; cases hu
      | some q =>
        rw [hp] at hu
        cases hu
        have hq : ∀ y ∈ q, normT y = some y := NormAll.twice ih (normTs_some.1 hp)
        obtain ⟨w1, w2, w3⟩ := valsN_some hv
        have e1 : valsN vs = some vs := valsN_of w1 fun z => Iff.rfl
        have e2 : normTs (stS cmpT q) = some (stS cmpT q) := normTs_some.2 (NormAll.self fun y hy => hq y ((stT_perm q).mem_iff.1 hy))
        have e3 : clsN (clsN c) = clsN c := (clsN_of (clsN_asc c) fun z => Iff.rfl).symm
        simp only [normT, e1, e2, e3, stT_id (stT_sorted q)]
theorem sumN_permT {f : Thing → Nat} {l m : List Thing} (h : l.Perm m) : sumN f l = sumN f m := by
  induction h with
  | nil => rfl
  | cons x _ ih => simp only [sumN, ih]
  | swap x y l => simp only [sumN]; omega
  | trans _ _ h1 h2 => rw [h1, h2]
/-- the number of nodes stays -/
theorem normT_size {t : Thing} : ∀ {u : Thing}, normT t = some u → u.size = t.size := by
  induction t using Thing.ind with
  | h t ih =>
    intro u hu
    obtain ⟨c, v, p⟩ := t
    have ih : ∀ x ∈ p, ∀ {u : Thing}, normT x = some u → u.size = x.size := ih
    simp only [normT] at hu
    cases hv : valsN v with
    | none => rw [hv] at hu; cases hu
    | some vs =>
      rw [hv] at hu
      cases hp : normTs p with
      | none => rw [hp] at hu; cases hu
      | some q =>
        rw [hp] at hu
        cases hu
        rw [Thing.size_eq, Thing.size_eq]
        simp only [Thing.parts]
        rw [sumN_permT (stT_perm q)]
        rw [NormAll.sum ih (normTs_some.1 hp)]
end Go.Proofs.YtnhcplmcddlgnaaGreat
namespace Go.Proofs.YtnhcplmcddlgnaaGreat
set_option linter.unusedSimpArgs false
set_option linter.unusedVariables false
theorem putI_len (n : Int) : ∀ l : List Int, (putI n l).length ≤ l.length + 1
  | [] => by simp [putI]
  | x :: l => by
    have := putI_len n l
    unfold putI
    split
    · simp; omega
    · split <;> simp
theorem clsF_len : ∀ (l acc : List Int), (l.foldl (fun acc n => putI n acc) acc).length ≤ acc.length + l.length
  | [], acc => by simp
  | x :: l, acc => by
    have h1 := clsF_len l (putI x acc)
    have h2 := putI_len x acc
    rw [List.foldl_cons, List.length_cons]; omega
theorem clsN_len (l : List Int) : (clsN l).length ≤ l.length := by have := clsF_len l []; rwa [List.length_nil, Nat.zero_add] at this
theorem clsN_snoc (l : List Int) (x : Int) : clsN (l ++ [x]) = putI x (clsN l) := by unfold clsN; rw [List.foldl_append]; rfl
theorem putV_len (v : Val) : ∀ {l m : List Val}, putV v l = some m → m.length ≤ l.length + 1
  | [], m, h => by cases h; simp
  | x :: l, m, h => by
    unfold putV at h
    split at h
    · cases hp : putV v l with
      | none => rw [hp] at h; cases h
      | some k =>
        rw [hp] at h; cases h
        have := putV_len v hp
        simp; omega
    · split at h
      · split at h
        · cases h; simp
        · cases h
      · cases h; simp
theorem valsF_snoc (v : Val) : ∀ (l acc : List Val), valsF (l ++ [v]) acc = match valsF l acc with | none => none | some a => putV v a
  | [], acc => by
    show valsF [v] acc = putV v acc
    unfold valsF
    cases h : putV v acc <;> rfl
  | x :: l, acc => by
    rw [List.cons_append]
    unfold valsF
    cases h : putV x acc with
    | none => rfl
    | some a => exact valsF_snoc v l a
theorem valsF_len : ∀ {l acc m : List Val}, valsF l acc = some m → m.length ≤ acc.length + l.length
  | [], acc, m, h => by cases h; simp
  | x :: l, acc, m, h => by
    unfold valsF at h
    cases hp : putV x acc with
    | none => rw [hp] at h; cases h
    | some a =>
      rw [hp] at h
      have h1 := valsF_len (l := l) (acc := a) (m := m) h
      have h2 := putV_len x hp
      rw [List.length_cons]; omega
theorem valsN_len {l m : List Val} (h : valsN l = some m) : m.length ≤ l.length := by have := valsF_len h; rwa [List.length_nil, Nat.zero_add] at this
/-- a prefix without a normal list: the whole has none -/
theorem valsF_no : ∀ {l : List Val} {acc : List Val} (m : List Val), valsF l acc = none → valsF (l ++ m) acc = none
  | l, acc, [], h => by rwa [List.append_nil]
  | l, acc, x :: m, h => by
    have : valsF (l ++ [x]) acc = none := by rw [valsF_snoc, h]
    have h2 := valsF_no m this
    rwa [List.append_assoc] at h2
theorem valsN_step {l : List Val} {k : Nat} (hk : k < l.length) {a : List Val} (h : valsN (l.take k) = some a) : valsN (l.take (k + 1)) = putV l[k] a := by
  rw [List.take_succ_eq_append_getElem hk, valsN, valsF_snoc]
  unfold valsN at h
  rw [h]
theorem valsN_stop {l : List Val} {k : Nat} (h : valsN (l.take k) = none) : valsN l = none := by
  have := valsF_no (l.drop k) h
  rwa [List.take_append_drop] at this
theorem clsN_step {l : List Int} {k : Nat} (hk : k < l.length) : clsN (l.take (k + 1)) = putI l[k] (clsN (l.take k)) := by
  rw [List.take_succ_eq_append_getElem hk, clsN_snoc]
theorem stS_snoc {α : Type} (c : α → α → Int) (l : List α) (x : α) : stS c (l ++ [x]) = insR c x (stS c l) := by unfold stS; rw [List.foldl_append]; rfl
theorem stS_lenT (l : List Thing) : (stS cmpT l).length = l.length := (stT_perm l).length_eq
theorem normTs_snoc (x : Thing) : ∀ l : List Thing, normTs (l ++ [x]) = match normTs l with | none => none | some q => match normT x with | none => none | some y => some (q ++ [y])
  | [] => by
    rw [List.nil_append]
    simp only [normTs]
    cases normT x <;> rfl
  | z :: l => by
    rw [List.cons_append]
    simp only [normTs]
    cases hz : normT z with
    | none => rfl
    | some y =>
      rw [normTs_snoc x l]
      cases hl : normTs l with
      | none => rfl
      | some q => cases normT x <;> rfl
theorem normTs_step {l : List Thing} {k : Nat} (hk : k < l.length) {q : List Thing} {y : Thing} (h : normTs (l.take k) = some q) (hy : normT l[k] = some y) : normTs (l.take (k + 1)) = some (q ++ [y]) := by
  rw [List.take_succ_eq_append_getElem hk, normTs_snoc, h, hy]
theorem normTs_stop {l : List Thing} {k : Nat} (hk : k < l.length) (hy : normT l[k] = none) : normTs l = none := normTs_none.2 ⟨_, List.getElem_mem hk, hy⟩
theorem normTs_len {l q : List Thing} (h : normTs l = some q) : q.length = l.length := ((normTs_some.1 h).len).symm
theorem NormAll.bulk : ∀ {p q : List Thing}, (∀ x ∈ p, ∀ {u : Thing}, normT x = some u → u.bulk ≤ x.bulk) → NormAll p q → sumN Thing.bulk q ≤ sumN Thing.bulk p
  | [], [], _, _ => Nat.le_refl _
  | [], y :: q, _, h => h.elim
  | x :: p, [], _, h => h.elim
  | x :: p, y :: q, ih, h => by
    simp only [sumN]
    have h1 := ih x (by simp) h.1
    have h2 := NormAll.bulk (fun x hx => ih x (List.mem_cons_of_mem _ hx)) h.2
    omega
theorem normT_eq (t : Thing) : normT t = match valsN t.vals with
    | none => none
    | some vs => match normTs t.parts with
      | none => none
      | some q => some (.mk (clsN t.cls) vs (stS cmpT q)) := by
  cases t; rfl
theorem normT_no1 {t : Thing} (h : valsN t.vals = none) : normT t = none := by rw [normT_eq, h]
theorem normT_no2 {t : Thing} (h : normTs t.parts = none) : normT t = none := by rw [normT_eq, h]; cases valsN t.vals <;> rfl
theorem normT_yes {t : Thing} {vs : List Val} {q : List Thing} (h : valsN t.vals = some vs) (h2 : normTs t.parts = some q) : normT t = some (.mk (clsN t.cls) vs (stS cmpT q)) := by rw [normT_eq, h, h2]
theorem normT_bulk {t : Thing} : ∀ {u : Thing}, normT t = some u → u.bulk ≤ t.bulk := by
  induction t using Thing.ind with
  | h t ih =>
    intro u hu
    rw [normT_eq] at hu
    cases hv : valsN t.vals with
    | none => rw [hv] at hu; cases hu
    | some vs =>
      rw [hv] at hu
      cases hp : normTs t.parts with
      | none => rw [hp] at hu; cases hu
      | some q =>
        rw [hp] at hu
        cases hu
        have e1 := Thing.bulk_eq (.mk (clsN t.cls) vs (stS cmpT q))
        have e2 := Thing.bulk_eq t
        have h1 := sumN_permT (f := Thing.bulk) (stT_perm q)
        have h2 := NormAll.bulk ih (normTs_some.1 hp)
        have h3 := clsN_len t.cls
        have h4 := valsN_len hv
        have e3 : (Thing.mk (clsN t.cls) vs (stS cmpT q)).cls = clsN t.cls := rfl
        have e4 : (Thing.mk (clsN t.cls) vs (stS cmpT q)).vals = vs := rfl
        have e5 : (Thing.mk (clsN t.cls) vs (stS cmpT q)).parts = stS cmpT q := rfl
        rw [e3, e4, e5] at e1
        omega
end Go.Proofs.YtnhcplmcddlgnaaGreat
namespace Go.Proofs.YtnhcplmcddlgnaaGreat
open Go.RowKit Go.Shelf
set_option linter.unusedSimpArgs false
set_option linter.unusedVariables false
/-- the normal form comes back, or that there is none -/
def SortP (H : PH) (w : World) : Option Thing → Ending → World → Prop
  | none, e, w' => e = .returned (.tuple #[.agg #[.slice none 0 0, .slice none 0 0, .slice none 0 0], .bool false]) ∧ Ext w w'
  | some u, e, w' => ∃ cs : List Value, e = .returned (.tuple #[.agg cs.toArray, .bool true]) ∧ ThingR (up H w w') cs u ∧ Ext w w'
theorem sumN_takeT (l : List Thing) (k : Nat) : sumN Thing.bulk (l.take k) ≤ sumN Thing.bulk l := by
  have h := sumN_append Thing.bulk (l.take k) (l.drop k)
  rw [List.take_append_drop] at h; omega
theorem normTs_bulk {l q : List Thing} (h : normTs l = some q) : sumN Thing.bulk q ≤ sumN Thing.bulk l := NormAll.bulk (fun x _ u hu => normT_bulk hu) (normTs_some.1 h)
theorem normTs_mem {l q : List Thing} {k : Nat} (h : normTs (l.take k) = some q) : ∀ y ∈ stS cmpT q, y.bulk ≤ sumN Thing.bulk l := by
  intro y hy
  have h1 := sumN_mem Thing.bulk ((stT_perm q).mem_iff.1 hy)
  have h2 := normTs_bulk h
  have h3 := sumN_takeT l k
  omega
theorem stT_step {q : List Thing} (y : Thing) : stS cmpT (q ++ [y]) = insR cmpT y (stS cmpT q) := stS_snoc cmpT q y
theorem thingR_of {H : PH} {v1 v2 v3 : Value} {c : List Int} {v : List Val} {p : List Thing} (h1 : IntsR H v1 c) (h2 : ValsR H v2 v) (h3 : ThingsR H v3 p) : ThingR H [v1, v2, v3] (.mk c v p) := thingR_iff.2 ⟨v1, v2, v3, rfl, h1, h2, h3⟩
end Go.Proofs.YtnhcplmcddlgnaaGreat
