/- priorartlaw06.turned: everything in the opposite order. -/
import Derived.Test.YtebhdjeognpljaaSpoilt
import Derived.Test.YtebhdjeognpljaaRefOrder
namespace Go.Proofs.Ytebhdjeognpljaa
open Go.RowKit
set_option linter.unusedSimpArgs false
set_option linter.unusedVariables false
mutual
def turn : Thing → Thing
  | .mk c v p => .mk c.reverse v.reverse (turns p).reverse
def turns : List Thing → List Thing
  | [] => []
  | x :: xs => turn x :: turns xs
end
theorem turns_eq : ∀ l : List Thing, turns l = l.map turn
  | [] => rfl
  | x :: xs => by simp [turns, turns_eq xs]
theorem turn_eq (t : Thing) : turn t = .mk t.cls.reverse t.vals.reverse (t.parts.map turn).reverse := by
  cases t; simp [turn, turns_eq, Thing.cls, Thing.vals, Thing.parts]
theorem sumN_append {α : Type} (f : α → Nat) : ∀ a b : List α, sumN f (a ++ b) = sumN f a + sumN f b
  | [], b => by simp [sumN]
  | x :: a, b => by simp only [List.cons_append, sumN, sumN_append f a b]; omega
theorem sumN_reverse {α : Type} (f : α → Nat) : ∀ a : List α, sumN f a.reverse = sumN f a
  | [] => rfl
  | x :: a => by rw [List.reverse_cons, sumN_append, sumN_reverse f a]; simp [sumN]; omega
theorem sumN_map {α β : Type} (f : α → Nat) (g : β → α) : ∀ a : List β, sumN f (a.map g) = sumN (fun x => f (g x)) a
  | [] => rfl
  | x :: a => by simp only [List.map_cons, sumN, sumN_map f g a]
theorem sumN_congr {α : Type} {f g : α → Nat} : ∀ {a : List α}, (∀ x ∈ a, f x = g x) → sumN f a = sumN g a
  | [], _ => rfl
  | x :: a, h => by simp only [sumN]; rw [h x (by simp), sumN_congr fun y hy => h y (by simp [hy])]
theorem turn_bulk (t : Thing) : (turn t).bulk = t.bulk := by
  induction t using Thing.ind with
  | h t ih =>
    rw [turn_eq, Thing.bulk_eq, Thing.bulk_eq t]
    simp only [Thing.cls, Thing.vals, Thing.parts, List.length_reverse, sumN_reverse, sumN_map]
    have := sumN_congr (f := fun x => (turn x).bulk) (g := Thing.bulk) ih
    cases t; simp only [Thing.parts] at *; omega
theorem drop_rev {α : Type} (l : List α) (k : Nat) (h : k < l.length) : (l.drop k).reverse = (l.drop (k + 1)).reverse ++ [l[k]] := by
  rw [List.drop_eq_getElem_cons h, List.reverse_cons]
def TurnP (H : PH) (w : World) (t : Thing) (e : Ending) (w' : World) : Prop := ∃ cs : List Value, e = .returned (.agg cs.toArray) ∧ ThingR (up H w w') cs (turn t) ∧ Ext w w'
set_option maxRecDepth 100000 in
set_option maxHeartbeats 2000000 in
theorem turned_c (t : Thing) : ∀ (H : PH) (cs : List Value) (w : World), PLe H (ph w) → ThingR H cs t → t.bulk ≤ 1000000 →
    Calls Try.prog 24 #[.agg cs.toArray] w (TurnP H w t) := by
  induction t using Thing.ind with
  | h t ih =>
    intro H cs w hP hr hbk
    obtain ⟨a1, c1, a2, c2, a3, c3, rfl, l1, l2, l3, hc, hv, hp⟩ := hr.form
    have HI := Lib.hid ih; clear ih
    have hbk' := Lib.hid (Thing.bulk_eq t)
    have hb1 : t.cls.length ≤ 1000000 := by have := hbk'.out; omega
    have hb2 : t.vals.length ≤ 1000000 := by have := hbk'.out; omega
    have hb3 : t.parts.length ≤ 1000000 := by have := t.parts_le; omega
    have hS : Mem w H [boxT w.heap.size (.slice a1 t.cls.length c1) (.slice a2 t.vals.length c2) (.slice a3 t.parts.length c3), boxT (w.heap.size + 1) (.slice none 0 0) (.slice none 0 0) (.slice none 0 0), boxT (w.heap.size + 1 + 1) (.slice none 0 0) (.slice none 0 0) (.slice none 0 0), ownI (.slice none 0 0) [], ownV (.slice none 0 0) [], ownT (.slice none 0 0) []] H _ :=
      ((((((Mem.start w H hP).new #[.slice a1 t.cls.length c1, .slice a2 t.vals.length c2, .slice a3 t.parts.length c3] 29).new' zeroT 29 (n := w.heap.size + 1) (by simp)).new' zeroT 29 (n := w.heap.size + 1 + 1) (by simp)).nil mono_IntR 1 3).nil mono_ValR 3 41).nil mono_ThingR 3 29
    go_enter Try.func24, Try.ntmps24
    go_wp2_with fail
    go_loopw [4] (fun i wr => ∃ (k n1 f1 : Nat) (e1 : Option Addr), k ≤ t.cls.length ∧ i = .int .i64 ((k : Int) - 1) ∧
      Mem w H [boxT w.heap.size (.slice a1 t.cls.length c1) (.slice a2 t.vals.length c2) (.slice a3 t.parts.length c3), boxT (w.heap.size + 1) (.slice none 0 0) (.slice none 0 0) (.slice none 0 0), boxT (w.heap.size + 1 + 1) (.slice e1 n1 f1) (.slice none 0 0) (.slice none 0 0), ownI (.slice e1 n1 f1) (t.cls.drop k).reverse, ownV (.slice none 0 0) [], ownT (.slice none 0 0) []] H wr) (fun i _ => (intOf i + 1).toNat)
    case atStart => exact ⟨t.cls.length, 0, 0, none, Nat.le_refl _, by simp, by simpa using hS⟩
    case round =>
      clear hS
      obtain ⟨k, n1, f1, e1, hk, rfl, hS⟩ := hrel
      obtain ⟨q1, q2⟩ := (hS.box 2 rfl).facts
      have q3 := (hS.box 2 rfl).lt
      obtain ⟨r1, r2⟩ := (hS.box 0 rfl).facts
      have r3 := (hS.box 0 rfl).lt
      by_cases hlt : 0 < k
      · obtain ⟨j, rfl⟩ : ∃ j, k = j + 1 := ⟨k - 1, by omega⟩
        have hj1 : ((j + 1 : Nat) : Int) - 1 = j := by omega
        rw [hj1]
        clear hj1
        obtain ⟨b, o, rfl, h0, hi64, hbl⟩ := IntsR.at (hc.mono mono_IntR hS.ple) j (by omega)
        have hjl : j < t.cls.length := by omega
        have hdr := Lib.hid (drop_rev t.cls j (by omega))
        have hdl : (List.drop (j + 1) t.cls).length ≤ t.cls.length := by rw [List.length_drop]; omega
        generalize t.cls[j] = x at *
        go_wp2_with fail
        (refine wp_region_I 8 (by kernel_rfl) (by kernel_rfl) ?_; simp only [List.toList_toArray, List.take_succ_cons, List.take_zero, List.drop_succ_cons, List.drop_zero])
        (repeat (first | (refine walkI_no rfl (by simp) rfl rfl rfl ?_ ?_; (focus (simp [undef]; done)); (try simp only [List.nil_append, List.cons_append])) | (refine walkI_is (u := ?_) rfl (by simp) rfl ?_ ?_; rotate_left; (focus (intro A w' hS hA K hK; (simp only [List.map_cons, List.map_nil, knows, Is, Op.operands, Call.operands, List.lookup_cons, List.lookup_nil, Nat.reduceBEq, Bool.false_eq_true, if_false, if_true, Act.eval, Array.getD_eq_getD_getElem?, List.getElem?_toArray, List.getElem?_cons_succ, List.getElem?_cons_zero, Option.getD_some, and_true, true_and, List.append_toArray, List.nil_append, List.cons_append, List.toList_toArray, Array.toList_append] at hA); first | fail | (obtain ⟨hSc, hSf, hSs⟩ := hS.cells; go_simp; exact hK _ (by repeat (first | (with_reducible assumption) | (with_reducible exact Ext.rfl' _) | (with_reducible exact Ext.new _ _) | (with_reducible refine Ext.alloc' ?_ _) | (with_reducible refine Ext.drew' ?_) | (with_reducible refine Ext.drewN' ?_ _) | (with_reducible refine Ext.set' ?_ ?_ _; rotate_left; (focus (first | omega | (simp; done) | (simp; omega)))) | (with_reducible refine Ext.then (b := ?_) ?_ ?_; rotate_left; rotate_left; (with_reducible assumption))))))); (try simp only [List.nil_append, List.cons_append])) | (refine walkI_yesis (u := ?_) rfl (by simp) rfl rfl rfl ?_ ?_; rotate_left; (focus (intro A w' hS hA K hK; (simp only [List.map_cons, List.map_nil, knows, Is, Op.operands, Call.operands, List.lookup_cons, List.lookup_nil, Nat.reduceBEq, Bool.false_eq_true, if_false, if_true, Act.eval, Array.getD_eq_getD_getElem?, List.getElem?_toArray, List.getElem?_cons_succ, List.getElem?_cons_zero, Option.getD_some, and_true, true_and, List.append_toArray, List.nil_append, List.cons_append, List.toList_toArray, Array.toList_append] at hA); first | fail | (obtain ⟨hSc, hSf, hSs⟩ := hS.cells; go_simp; exact hK _ (by repeat (first | (with_reducible assumption) | (with_reducible exact Ext.rfl' _) | (with_reducible exact Ext.new _ _) | (with_reducible refine Ext.alloc' ?_ _) | (with_reducible refine Ext.drew' ?_) | (with_reducible refine Ext.drewN' ?_ _) | (with_reducible refine Ext.set' ?_ ?_ _; rotate_left; (focus (first | omega | (simp; done) | (simp; omega)))) | (with_reducible refine Ext.then (b := ?_) ?_ ?_; rotate_left; rotate_left; (with_reducible assumption))))))); (try simp only [List.nil_append, List.cons_append]))))
        (refine walkI_step (ArrP #[.int .i64 x] 1 3) rfl (by simp) rfl (stab_ArrP _ _ _) ?_ ?_; (focus (intro A w' hS hA K hK; (simp only [List.map_cons, List.map_nil, knows, Is, Op.operands, Call.operands, List.lookup_cons, List.lookup_nil, Nat.reduceBEq, Bool.false_eq_true, if_false, if_true, Act.eval, Array.getD_eq_getD_getElem?, List.getElem?_toArray, List.getElem?_cons_succ, List.getElem?_cons_zero, Option.getD_some, and_true, true_and, List.append_toArray, List.nil_append, List.cons_append, List.toList_toArray, Array.toList_append] at hA); (go_simp; exact hK _ _ (Ext.new _ _) ⟨_, rfl, Own.new _ _ _⟩))); (try simp only [List.nil_append, List.cons_append]))
        (refine walkI_nil ?_; simp only [List.nil_append, List.cons_append, fins, Is, forall_eq, Act.put, List.setIfInBounds_toArray, List.set_cons_zero, List.set_cons_succ])
        rintro w2 hx2 v ⟨g, rfl, ho⟩
        have hS2 := hS.ext hx2
        clear q1 q2 q3 r1 r2 r3 hx2
        obtain ⟨q1, q2⟩ := (hS2.box 2 rfl).facts
        go_wp2_with (at_builtin; refine wpList_append_M 3 rfl _ _ 22 rfl Try.underlying22 infoInt rfl rfl rfl (hS2) rfl (srcArr (xs := [x]) ho ⟨[_], [], rfl, rfl, ⟨rfl, hi64⟩, rfl⟩ rfl) one_IntR ?c3 ?c4 ?c5)
        case c3 => simp; omega
        case c4 => simp; omega
        case c5 =>
        intro v' w7 hS7
        obtain ⟨e', n', f', rfl⟩ : ∃ e n f, v' = .slice e n f := by obtain ⟨e, f, h, -⟩ := hS7.form 3 rfl; exact ⟨e, _, f, h⟩
        rw [← hdr.out] at hS7
        clear hS hS2 q1 q2 ho h0
        obtain ⟨q1, q2⟩ := (hS7.box 2 rfl).facts
        have q3 := (hS7.box 2 rfl).lt
        go_wp2_with fail
        go_roundw
        case rel => exact ⟨j, n', f', e', by omega, rfl, hS7.set 2 rfl 0 (.slice e' n' f')⟩
        case measure => simp [intOf] <;> omega
      · obtain rfl : k = 0 := by omega
        rw [show ((0 : Nat) : Int) - 1 = -1 from rfl]
        rw [List.drop_zero] at hS
        clear hc hlt
        go_wp2_with fail
        go_loopw [5] (fun i wr => ∃ (k n2 f2 : Nat) (e2 : Option Addr), k ≤ t.vals.length ∧ i = .int .i64 ((k : Int) - 1) ∧
          Mem w H [boxT w.heap.size (.slice a1 t.cls.length c1) (.slice a2 t.vals.length c2) (.slice a3 t.parts.length c3), boxT (w.heap.size + 1) (.slice none 0 0) (.slice none 0 0) (.slice none 0 0), boxT (w.heap.size + 1 + 1) (.slice e1 n1 f1) (.slice e2 n2 f2) (.slice none 0 0), ownI (.slice e1 n1 f1) t.cls.reverse, ownV (.slice e2 n2 f2) (t.vals.drop k).reverse, ownT (.slice none 0 0) []] H wr) (fun i _ => (intOf i + 1).toNat)
        case atStart => exact ⟨t.vals.length, 0, 0, none, Nat.le_refl _, by simp, by simpa using hS⟩
        case round =>
          clear hS q1 q2 q3 r1 r2 r3
          obtain ⟨k, n2, f2, e2, hk, rfl, hS⟩ := hrel
          obtain ⟨q1, q2⟩ := (hS.box 2 rfl).facts
          have q3 := (hS.box 2 rfl).lt
          obtain ⟨r1, r2⟩ := (hS.box 0 rfl).facts
          have r3 := (hS.box 0 rfl).lt
          by_cases hlt : 0 < k
          · obtain ⟨j, rfl⟩ : ∃ j, k = j + 1 := ⟨k - 1, by omega⟩
            have hj1 : ((j + 1 : Nat) : Int) - 1 = j := by omega
            rw [hj1]
            clear hj1
            obtain ⟨b, o, rfl, h0, h1, h2, i0, i1, i2, hbl⟩ := ValsR.at (hv.mono mono_ValR hS.ple) j (by omega)
            have hjl : j < t.vals.length := by omega
            have hdr := Lib.hid (drop_rev t.vals j (by omega))
            have hdl : (List.drop (j + 1) t.vals).length ≤ t.vals.length := by rw [List.length_drop]; omega
            generalize t.vals[j] = x at *
            go_wp2_with fail
            (refine wp_region_I 8 (by kernel_rfl) (by kernel_rfl) ?_; simp only [List.toList_toArray, List.take_succ_cons, List.take_zero, List.drop_succ_cons, List.drop_zero])
            (repeat (first | (refine walkI_no rfl (by simp) rfl rfl rfl ?_ ?_; (focus (simp [undef]; done)); (try simp only [List.nil_append, List.cons_append])) | (refine walkI_is (u := ?_) rfl (by simp) rfl ?_ ?_; rotate_left; (focus (intro A w' hS hA K hK; (simp only [List.map_cons, List.map_nil, knows, Is, Op.operands, Call.operands, List.lookup_cons, List.lookup_nil, Nat.reduceBEq, Bool.false_eq_true, if_false, if_true, Act.eval, Array.getD_eq_getD_getElem?, List.getElem?_toArray, List.getElem?_cons_succ, List.getElem?_cons_zero, Option.getD_some, and_true, true_and, List.append_toArray, List.nil_append, List.cons_append, List.toList_toArray, Array.toList_append] at hA); first | fail | (obtain ⟨hSc, hSf, hSs⟩ := hS.cells; go_simp; exact hK _ (by repeat (first | (with_reducible assumption) | (with_reducible exact Ext.rfl' _) | (with_reducible exact Ext.new _ _) | (with_reducible refine Ext.alloc' ?_ _) | (with_reducible refine Ext.drew' ?_) | (with_reducible refine Ext.drewN' ?_ _) | (with_reducible refine Ext.set' ?_ ?_ _; rotate_left; (focus (first | omega | (simp; done) | (simp; omega)))) | (with_reducible refine Ext.then (b := ?_) ?_ ?_; rotate_left; rotate_left; (with_reducible assumption))))))); (try simp only [List.nil_append, List.cons_append])) | (refine walkI_yesis (u := ?_) rfl (by simp) rfl rfl rfl ?_ ?_; rotate_left; (focus (intro A w' hS hA K hK; (simp only [List.map_cons, List.map_nil, knows, Is, Op.operands, Call.operands, List.lookup_cons, List.lookup_nil, Nat.reduceBEq, Bool.false_eq_true, if_false, if_true, Act.eval, Array.getD_eq_getD_getElem?, List.getElem?_toArray, List.getElem?_cons_succ, List.getElem?_cons_zero, Option.getD_some, and_true, true_and, List.append_toArray, List.nil_append, List.cons_append, List.toList_toArray, Array.toList_append] at hA); first | fail | (obtain ⟨hSc, hSf, hSs⟩ := hS.cells; go_simp; exact hK _ (by repeat (first | (with_reducible assumption) | (with_reducible exact Ext.rfl' _) | (with_reducible exact Ext.new _ _) | (with_reducible refine Ext.alloc' ?_ _) | (with_reducible refine Ext.drew' ?_) | (with_reducible refine Ext.drewN' ?_ _) | (with_reducible refine Ext.set' ?_ ?_ _; rotate_left; (focus (first | omega | (simp; done) | (simp; omega)))) | (with_reducible refine Ext.then (b := ?_) ?_ ?_; rotate_left; rotate_left; (with_reducible assumption))))))); (try simp only [List.nil_append, List.cons_append]))))
            (refine walkI_step (ArrP #[.int .i64 x.attr, .int .i64 x.n.num, .int .i64 x.n.den] 1 41) rfl (by simp) rfl (stab_ArrP _ _ _) ?_ ?_; (focus (intro A w' hS hA K hK; (simp only [List.map_cons, List.map_nil, knows, Is, Op.operands, Call.operands, List.lookup_cons, List.lookup_nil, Nat.reduceBEq, Bool.false_eq_true, if_false, if_true, Act.eval, Array.getD_eq_getD_getElem?, List.getElem?_toArray, List.getElem?_cons_succ, List.getElem?_cons_zero, Option.getD_some, and_true, true_and, List.append_toArray, List.nil_append, List.cons_append, List.toList_toArray, Array.toList_append] at hA); (go_simp; exact hK _ _ (Ext.new _ _) ⟨_, rfl, Own.new _ _ _⟩))); (try simp only [List.nil_append, List.cons_append]))
            (refine walkI_nil ?_; simp only [List.nil_append, List.cons_append, fins, Is, forall_eq, Act.put, List.setIfInBounds_toArray, List.set_cons_zero, List.set_cons_succ])
            rintro w2 hx2 v ⟨g, rfl, ho⟩
            have hS2 := hS.ext hx2
            clear q1 q2 q3 r1 r2 r3 hx2
            obtain ⟨q1, q2⟩ := (hS2.box 2 rfl).facts
            go_wp2_with (at_builtin; refine wpList_append_M 4 rfl _ _ 27 rfl Try.underlying27 infoVal rfl rfl rfl (hS2) rfl (srcArr (xs := [x]) ho ⟨[_, _, _], [], rfl, rfl, ⟨rfl, i0, i1, i2⟩, rfl⟩ rfl) one_ValR ?c3 ?c4 ?c5)
            case c3 => simp; omega
            case c4 => simp; omega
            case c5 =>
            intro v' w7 hS7
            obtain ⟨e', n', f', rfl⟩ : ∃ e n f, v' = .slice e n f := by obtain ⟨e, f, h, -⟩ := hS7.form 4 rfl; exact ⟨e, _, f, h⟩
            rw [← hdr.out] at hS7
            clear hS hS2 q1 q2 ho h0 h1 h2
            obtain ⟨q1, q2⟩ := (hS7.box 2 rfl).facts
            have q3 := (hS7.box 2 rfl).lt
            go_wp2_with fail
            go_roundw
            case rel => exact ⟨j, n', f', e', by omega, rfl, hS7.set 2 rfl 1 (.slice e' n' f')⟩
            case measure => simp [intOf] <;> omega
          · obtain rfl : k = 0 := by omega
            rw [show ((0 : Nat) : Int) - 1 = -1 from rfl]
            rw [List.drop_zero] at hS
            clear hv hlt
            go_wp2_with fail
            go_loopw [6] (fun i wr => ∃ (k n3 f3 : Nat) (e3 : Option Addr) (H' : PH), k ≤ t.parts.length ∧ i = .int .i64 ((k : Int) - 1) ∧ PLe H H' ∧
              Mem w H [boxT w.heap.size (.slice a1 t.cls.length c1) (.slice a2 t.vals.length c2) (.slice a3 t.parts.length c3), boxT (w.heap.size + 1) (.slice none 0 0) (.slice none 0 0) (.slice none 0 0), boxT (w.heap.size + 1 + 1) (.slice e1 n1 f1) (.slice e2 n2 f2) (.slice e3 n3 f3), ownI (.slice e1 n1 f1) t.cls.reverse, ownV (.slice e2 n2 f2) t.vals.reverse, ownT (.slice e3 n3 f3) ((t.parts.map turn).drop k).reverse] H' wr) (fun i _ => (intOf i + 1).toNat)
            case atStart => exact ⟨t.parts.length, 0, 0, none, H, Nat.le_refl _, by simp, PLe.refl _, by rw [List.drop_of_length_le (by simp)]; exact hS⟩
            case round =>
              clear hS q1 q2 q3 r1 r2 r3
              obtain ⟨k, n3, f3, e3, H', hk, rfl, hHH, hS⟩ := hrel
              obtain ⟨q1, q2⟩ := (hS.box 2 rfl).facts
              have q3 := (hS.box 2 rfl).lt
              obtain ⟨r1, r2⟩ := (hS.box 0 rfl).facts
              have r3 := (hS.box 0 rfl).lt
              by_cases hlt : 0 < k
              · obtain ⟨j, rfl⟩ : ∃ j, k = j + 1 := ⟨k - 1, by omega⟩
                have hj1 : ((j + 1 : Nat) : Int) - 1 = j := by omega
                rw [hj1]
                clear hj1
                have hp' := hp.mono mono_ThingR hHH
                obtain ⟨b, o, cs, hx, hcl, hce, hE⟩ := hp'.get j (by omega)
                subst hx
                obtain ⟨b1, d1, b2, d2, b3, d3, rfl, -⟩ := hE.form
                have h0 : wr.cell? ⟨b, o + j * 3, none⟩ = some (.slice b1 t.parts[j].cls.length d1) := by rw [cell_ph]; exact cellAt_mono hS.ple (by simpa using hce 0 (by omega))
                have h1 : wr.cell? ⟨b, o + j * 3 + 1, none⟩ = some (.slice b2 t.parts[j].vals.length d2) := by rw [cell_ph]; exact cellAt_mono hS.ple (by simpa using hce 1 (by omega))
                have h2 : wr.cell? ⟨b, o + j * 3 + 2, none⟩ = some (.slice b3 t.parts[j].parts.length d3) := by rw [cell_ph]; exact cellAt_mono hS.ple (by simpa using hce 2 (by omega))
                have hbl := cell_lt h0
                have hjl : j < t.parts.length := by omega
                have hdr := Lib.hid (drop_rev (t.parts.map turn) j (by simp; omega))
                rw [List.getElem_map] at hdr
                have hdl : (List.drop (j + 1) (t.parts.map turn)).length ≤ t.parts.length := by rw [List.length_drop, List.length_map]; omega
                have hpm := List.getElem_mem (l := t.parts) (n := j) (by omega)
                have hpb := Thing.part_le hpm
                generalize t.parts[j] = p at *
                clear hce hp'
                replace hE := Lib.hid hE
                have hM := hS
                go_wp2_with fail
                (refine wp_region_I 9 (by kernel_rfl) (by kernel_rfl) ?_; simp only [List.toList_toArray, List.take_succ_cons, List.take_zero, List.drop_succ_cons, List.drop_zero])
                (repeat (first | (refine walkI_no rfl (by simp) rfl rfl rfl ?_ ?_; (focus (simp [undef]; done)); (try simp only [List.nil_append, List.cons_append])) | (refine walkI_is (u := ?_) rfl (by simp) rfl ?_ ?_; rotate_left; (focus (intro A w' hS hA K hK; (simp only [List.map_cons, List.map_nil, knows, Is, Op.operands, Call.operands, List.lookup_cons, List.lookup_nil, Nat.reduceBEq, Bool.false_eq_true, if_false, if_true, Act.eval, Array.getD_eq_getD_getElem?, List.getElem?_toArray, List.getElem?_cons_succ, List.getElem?_cons_zero, Option.getD_some, and_true, true_and, List.append_toArray, List.nil_append, List.cons_append, List.toList_toArray, Array.toList_append] at hA); first | fail | (obtain ⟨hSc, hSf, hSs⟩ := hS.cells; go_simp; exact hK _ (by repeat (first | (with_reducible assumption) | (with_reducible exact Ext.rfl' _) | (with_reducible exact Ext.new _ _) | (with_reducible refine Ext.alloc' ?_ _) | (with_reducible refine Ext.drew' ?_) | (with_reducible refine Ext.drewN' ?_ _) | (with_reducible refine Ext.set' ?_ ?_ _; rotate_left; (focus (first | omega | (simp; done) | (simp; omega)))) | (with_reducible refine Ext.then (b := ?_) ?_ ?_; rotate_left; rotate_left; (with_reducible assumption))))))); (try simp only [List.nil_append, List.cons_append])) | (refine walkI_yesis (u := ?_) rfl (by simp) rfl rfl rfl ?_ ?_; rotate_left; (focus (intro A w' hS hA K hK; (simp only [List.map_cons, List.map_nil, knows, Is, Op.operands, Call.operands, List.lookup_cons, List.lookup_nil, Nat.reduceBEq, Bool.false_eq_true, if_false, if_true, Act.eval, Array.getD_eq_getD_getElem?, List.getElem?_toArray, List.getElem?_cons_succ, List.getElem?_cons_zero, Option.getD_some, and_true, true_and, List.append_toArray, List.nil_append, List.cons_append, List.toList_toArray, Array.toList_append] at hA); first | fail | (obtain ⟨hSc, hSf, hSs⟩ := hS.cells; go_simp; exact hK _ (by repeat (first | (with_reducible assumption) | (with_reducible exact Ext.rfl' _) | (with_reducible exact Ext.new _ _) | (with_reducible refine Ext.alloc' ?_ _) | (with_reducible refine Ext.drew' ?_) | (with_reducible refine Ext.drewN' ?_ _) | (with_reducible refine Ext.set' ?_ ?_ _; rotate_left; (focus (first | omega | (simp; done) | (simp; omega)))) | (with_reducible refine Ext.then (b := ?_) ?_ ?_; rotate_left; rotate_left; (with_reducible assumption))))))); (try simp only [List.nil_append, List.cons_append]))))
                (refine walkI_step (fun v w' => ∃ cs : List Value, v = .agg cs.toArray ∧ ThingR (up H' wr w') cs (turn p)) rfl (by simp) rfl (fun v w1 w2 hx ⟨cs, h1, h2⟩ hy => ⟨cs, h1, mono_ThingR _ _ _ _ (up_then hx hy) h2⟩) ?_ ?_; (focus (intro A w' hS hA K hK; (simp only [List.map_cons, List.map_nil, knows, Is, Op.operands, Call.operands, List.lookup_cons, List.lookup_nil, Nat.reduceBEq, Bool.false_eq_true, if_false, if_true, Act.eval, Array.getD_eq_getD_getElem?, List.getElem?_toArray, List.getElem?_cons_succ, List.getElem?_cons_zero, Option.getD_some, and_true, true_and, List.append_toArray, List.nil_append, List.cons_append, List.toList_toArray, Array.toList_append] at hA); (go_simp; refine (HI.out p hpm H' _ _ (hM.ple.trans hS.ple) hE.out (by omega)).mono ?_; rintro e w6 ⟨cs, rfl, h4, h6⟩; exact hK _ _ h6 ⟨cs, rfl, mono_ThingR _ _ _ _ (up_sub hM.ple hS) h4⟩))); (try simp only [List.nil_append, List.cons_append]))
                (refine walkI_step (fun v w' => ∃ (g : Nat) (cs : List Value), v = .slice (some ⟨g, 0, none⟩) 1 1 ∧ Own w' g cs.toArray 29 ∧ ThingR (up H' wr w') cs (turn p)) rfl (by simp) rfl (fun v w1 w2 hx ⟨g, cs, h1, h2, h3⟩ hy => ⟨g, cs, h1, h2.keep hy, mono_ThingR _ _ _ _ (up_then hx hy) h3⟩) ?_ ?_; (focus (intro A w' hS hA K hK; (simp only [List.map_cons, List.map_nil, knows, Is, Op.operands, Call.operands, List.lookup_cons, List.lookup_nil, Nat.reduceBEq, Bool.false_eq_true, if_false, if_true, Act.eval, Array.getD_eq_getD_getElem?, List.getElem?_toArray, List.getElem?_cons_succ, List.getElem?_cons_zero, Option.getD_some, and_true, true_and, List.append_toArray, List.nil_append, List.cons_append, List.toList_toArray, Array.toList_append] at hA); (obtain ⟨cs, hA1, hA2⟩ := hA; obtain ⟨y1, u1, y2, u2, y3, u3, rfl, -⟩ := hA2.form; go_simp; exact hK _ _ (Ext.new _ _) ⟨_, [_, _, _], rfl, Own.new _ _ _, mono_ThingR _ _ _ _ (up_then hS (Ext.new _ _)) hA2⟩))); (try simp only [List.nil_append, List.cons_append]))
                (refine walkI_nil ?_; simp only [List.nil_append, List.cons_append, fins, Is, forall_eq, Act.put, List.setIfInBounds_toArray, List.set_cons_zero, List.set_cons_succ])
                rintro w2 hx2 v - v' ⟨g, cs, rfl, ho, hT⟩
                have hS2 := hS.up hx2
                have hHH2 := hHH.trans (ple_up hM.ple (w' := w2))
                have hcl : cs.length = 3 := by obtain ⟨y1, u1, y2, u2, y3, u3, rfl, -⟩ := hT.form; rfl
                generalize up H' wr w2 = H2 at *
                clear q1 q2 q3 r1 r2 r3 hx2 hS hM h0 h1 h2 hbl
                obtain ⟨q1, q2⟩ := (hS2.box 2 rfl).facts
                go_wp2_with (at_builtin; refine wpList_append_M 5 rfl _ _ 23 rfl Try.underlying23 infoThing rfl rfl rfl (hS2) rfl (srcArr (xs := [turn p]) ho ⟨cs, [], by simp, hcl, hT, rfl⟩ rfl) one_ThingR ?c3 ?c4 ?c5)
                case c3 => simp; omega
                case c4 => simp; omega
                case c5 =>
                intro v' w7 hS7
                obtain ⟨e', n', f', rfl⟩ : ∃ e n f, v' = .slice e n f := by obtain ⟨e, f, h, -⟩ := hS7.form 5 rfl; exact ⟨e, _, f, h⟩
                rw [← hdr.out] at hS7
                clear hS2 q1 q2 ho hT
                obtain ⟨q1, q2⟩ := (hS7.box 2 rfl).facts
                have q3 := (hS7.box 2 rfl).lt
                go_wp2_with fail
                go_roundw
                case rel => exact ⟨j, n', f', e', H2, by omega, rfl, hHH2, hS7.set 2 rfl 2 (.slice e' n' f')⟩
                case measure => simp [intOf] <;> omega
              · obtain rfl : k = 0 := by omega
                rw [show ((0 : Nat) : Int) - 1 = -1 from rfl]
                rw [List.drop_zero] at hS
                clear hp hlt r1 r2 r3
                obtain ⟨r1, r2⟩ := (hS.box 1 rfl).facts
                have r3 := (hS.box 1 rfl).lt
                have hF := ((hS.set 1 rfl 0 (.slice e1 n1 f1)).set 1 rfl 1 (.slice e2 n2 f2)).set 1 rfl 2 (.slice e3 n3 f3)
                have hfin := Lib.hid (hF.thing 3 4 5 rfl rfl rfl)
                have hex := Lib.hid hF.ex
                have hte := Lib.hid (turn_eq t)
                clear hS hF
                go_wp2_with fail
                exact bodyPost_ret (v := .agg #[.slice e1 n1 f1, .slice e2 n2 f2, .slice e3 n3 f3]) (by simp [results, Try.results24, go_sem, r1, r2, r3]) rfl ⟨[_, _, _], rfl, by rw [hte.out]; exact hfin.out, hex.out⟩
end Go.Proofs.Ytebhdjeognpljaa
