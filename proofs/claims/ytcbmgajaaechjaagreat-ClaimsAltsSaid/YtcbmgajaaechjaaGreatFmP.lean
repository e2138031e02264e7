/- Compare and Same of the reference of package formula; SameList. -/
import Derived.Test.YtcbmgajaaechjaaGreatFmO
namespace Go.Proofs.YtcbmgajaaechjaaGreat
open Go.RowKit Go.Shelf
set_option linter.unusedSimpArgs false
set_option linter.unusedVariables false
theorem cmpZ_drop {x y : List Int} {k : Nat} (h1 : k < x.length) (h2 : k < y.length) : cmpZ (x.drop k) (y.drop k) = if x[k] < y[k] then -1 else if y[k] < x[k] then 1 else cmpZ (x.drop (k + 1)) (y.drop (k + 1)) := by
  rw [List.drop_eq_getElem_cons h1, List.drop_eq_getElem_cons h2, cmpZ]
theorem cmpZ_end {x y : List Int} {k : Nat} (h : x.length ≤ k ∨ y.length ≤ k) : cmpZ (x.drop k) (y.drop k) = 0 := by
  rcases h with h | h
  · rw [List.drop_eq_nil_of_le h]; rfl
  · rw [List.drop_eq_nil_of_le h]; cases x.drop k <;> rfl
theorem cmpFs_drop {x y : List Fm} {k : Nat} (h1 : k < x.length) (h2 : k < y.length) : cmpFs (x.drop k) (y.drop k) = if cmpF x[k] y[k] ≠ 0 then cmpF x[k] y[k] else cmpFs (x.drop (k + 1)) (y.drop (k + 1)) := by
  rw [List.drop_eq_getElem_cons h1, List.drop_eq_getElem_cons h2, cmpFs]
theorem cmpF_bd (a : Fm) : ∀ b, -1 ≤ cmpF a b ∧ cmpF a b ≤ 1 := by
  have hz : ∀ x y : List Int, -1 ≤ cmpZ x y ∧ cmpZ x y ≤ 1 := by
    intro x
    induction x with
    | nil => intro y; simp [cmpZ]
    | cons x xs ih =>
      intro y
      cases y with
      | nil => simp [cmpZ]
      | cons y ys => rw [cmpZ]; have := ih ys; split <;> (try split) <;> omega
  induction a using Fm.ind with
  | h a ih =>
    intro b
    rw [cmpF_eq]
    have hs : ∀ (x : List Fm), (∀ g ∈ x, ∀ b, -1 ≤ cmpF g b ∧ cmpF g b ≤ 1) → ∀ y, -1 ≤ cmpFs x y ∧ cmpFs x y ≤ 1 := by
      intro x
      induction x with
      | nil => intro _ y; simp [cmpFs]
      | cons x xs ih2 =>
        intro hx y
        cases y with
        | nil => simp [cmpFs]
        | cons y ys =>
          rw [cmpFs]
          have h1 := hx x (by simp) y
          have h2 := ih2 (fun g hg => hx g (by simp [hg])) ys
          split <;> omega
    have h1 := hz (ordF a) (ordF b)
    have h2 := hs a.kids ih b.kids
    split <;> omega
abbrev fmArr (f : Fm) (a3 : Option Addr) (c3 : Nat) (a4 : Option Addr) (c4 : Nat) : Array Value := #[.int .i64 f.op, .int .i64 f.n, .slice a3 f.inn.length c3, .slice a4 f.kids.length c4]
set_option maxRecDepth 100000 in
set_option maxHeartbeats 4000000 in
theorem rcmp_c (f : Fm) : ∀ (g : Fm) (cs ds : List Value) (w : World), FmR (ph w) cs f → FmR (ph w) ds g → f.bulk ≤ 100000 → g.bulk ≤ 100000 →
    Calls Tryz.prog 79 #[.agg cs.toArray, .agg ds.toArray] w (RetV w (.int .i64 (cmpF f g))) := by
  induction f using Fm.ind with
  | h f ih =>
    intro g cs ds w hr hq hb1 hb2
    have hr' := hr
    have hq' := hq
    obtain ⟨a3, c3, a4, c4, rfl, -, -, hil, hkl, hi, hk⟩ := hr.form
    obtain ⟨b3, d3, b4, d4, rfl, -, -, gil, gkl, gi, gk⟩ := hq.form
    unfold fmC at *
    clear hr hq hi gi
    have hbf := f.bulk_eq
    have hbg := g.bulk_eq
    have hkf := f.kids_le
    have hkg := g.kids_le
    have hE := Lib.hid (cmpF_eq f g)
    have HI := Lib.hid ih; clear ih
    go_enter Tryz.func79, Tryz.ntmps79
    go_wp2_with fail
    have hM0 := ((Mem.start w noH (noH_le _)).new #[.int .i64 f.op, .int .i64 f.n, .slice a3 f.inn.length c3, .slice a4 f.kids.length c4] 39).new' #[.int .i64 g.op, .int .i64 g.n, .slice b3 g.inn.length d3, .slice b4 g.kids.length d4] 39 (n := w.heap.size + 1) (by simp)
    simp only [List.nil_append, List.cons_append] at hM0
    refine (order_c f _ _ (mono_FmR _ _ _ _ (Ext.ple (by repeat (first | (with_reducible assumption) | (with_reducible exact Ext.rfl' _) | (with_reducible exact Ext.new _ _) | (with_reducible refine Ext.alloc' ?_ _) | (with_reducible refine Ext.drew' ?_) | (with_reducible refine Ext.drewN' ?_ _) | (with_reducible refine Ext.set' ?_ ?_ _; rotate_left; (focus (first | omega | (simp; done) | (simp; omega)))) | (with_reducible refine Ext.then (b := ?_) ?_ ?_; rotate_left; rotate_left; (with_reducible assumption))))) hr') (by omega)).mono ?_
    rintro e w1 ⟨v1, rfl, hx1, ho1⟩
    obtain ⟨H1, -, -, hM1⟩ := hM0.take hx1 ho1 mono_IntR (noH_le _)
    simp only [List.nil_append, List.cons_append] at hM1
    obtain ⟨kc, kf⟩ := (hM1.box 0 rfl).facts
    obtain ⟨lc, lf⟩ := (hM1.box 1 rfl).facts
    have hl1 := (hM1.box 1 rfl).lt
    clear hM0 hx1 ho1
    go_wp2_with fail
    refine (order_c g _ _ (mono_FmR _ _ _ _ hM1.ex.ple hq') (by omega)).mono ?_
    rintro e w2 ⟨v2, rfl, hx2, ho2⟩
    obtain ⟨H2, -, -, hM2⟩ := hM1.take hx2 ho2 mono_IntR (noH_le _)
    simp only [List.nil_append, List.cons_append] at hM2
    clear hM1 hx2 ho2 kc kf lc lf hl1
    have hR1 := hM2.rep 2 rfl
    have hR2 := hM2.rep 3 rfl
    obtain ⟨xa, xc, rfl, xlen, hR1⟩ := hR1.form
    obtain ⟨ya, yc, rfl, ylen, hR2⟩ := hR2.form
    have hkids : cmpZ (ordF f) (ordF g) = 0 → f.kids.length = g.kids.length ∧ (ordF f).length = (ordF g).length := fun h => ⟨(ordF_0 (a := f) (b := g) h).2.2.2, by rw [ordF_len, ordF_len, (ordF_0 (a := f) (b := g) h).2.2.1]⟩
    have hB1 := hM2.box 0 rfl
    have hB2 := hM2.box 1 rfl
    have hX := hM2.ex
    clear hM2
    generalize hx : ordF f = X at *
    generalize hy : ordF g = Y at *
    replace hx := Lib.hid hx
    replace hy := Lib.hid hy
    replace hkids := Lib.hid hkids
    go_wp2_with fail
    go_loopw [7] (fun i wr => ∃ k : Nat, k ≤ X.length ∧ k ≤ Y.length ∧ i = .int .i64 k ∧ Hid (cmpZ X Y = cmpZ (X.drop k) (Y.drop k)) ∧ Ext w2 wr) (fun i _ => X.length - (intOf i).toNat)
    case atStart => exact ⟨0, Nat.zero_le _, Nat.zero_le _, rfl, Lib.hid rfl, (by repeat (first | (with_reducible assumption) | (with_reducible exact Ext.rfl' _) | (with_reducible exact Ext.new _ _) | (with_reducible refine Ext.alloc' ?_ _) | (with_reducible refine Ext.drew' ?_) | (with_reducible refine Ext.drewN' ?_ _) | (with_reducible refine Ext.set' ?_ ?_ _; rotate_left; (focus (first | omega | (simp; done) | (simp; omega)))) | (with_reducible refine Ext.then (b := ?_) ?_ ?_; rotate_left; rotate_left; (with_reducible assumption))))⟩
    case round =>
      obtain ⟨k, hk1, hk2, rfl, hZ, hxr⟩ := hrel
      by_cases hlt1 : k < X.length
      · by_cases hlt2 : k < Y.length
        · obtain ⟨b, o, rfl, h0, i0, hbl⟩ := IntsR.at (hR1.mono mono_IntR hxr.ple) k hlt1
          obtain ⟨b', o', rfl, h0', i0', hbl'⟩ := IntsR.at (hR2.mono mono_IntR hxr.ple) k hlt2
          have hd := Lib.hid (cmpZ_drop hlt1 hlt2)
          generalize X[k] = x at *
          generalize Y[k] = y at *
          clear hR1 hR2 hk gk hB1 hB2
          by_cases h1 : x < y
          · have b1 : decide (x < y) = true := by simpa using h1
            have hn : Hid (cmpF f g = -1) := by show _ = _; rw [hE.out, hZ.out, hd.out, if_pos h1]; rfl
            clear hd
            go_wp2_with fail
            (refine wp_region_calm (S := fun w' => Ext _ w') (by kernel_rfl) (by kernel_rfl) (Ext.rfl' _).drew' ?_; (try simp only [List.toList_toArray]); (repeat (first | (refine walkF_skip ?_ ?_; (focus rfl); (try simp only [Act.put, List.setIfInBounds_toArray, List.set_cons_zero, List.set_cons_succ])) | (refine walkF_step (v := ?_) rfl ?_ ?_ ?_; rotate_left; (focus rfl); (focus (intro w' hS A hA K hK; (simp only [agrees, Op.operands, Call.operands, Act.eval, Array.getD_eq_getD_getElem?, List.getElem?_toArray, List.getElem?_cons_succ, List.getElem?_cons_zero, Option.getD_some, and_true, true_and, List.append_toArray, List.nil_append, List.cons_append, List.toList_toArray, Array.toList_append] at hA); first | fail | (obtain ⟨hSc, hSf, hSs⟩ := hS.cells; go_simp; exact hK _ hS))); (try simp only [Act.put, List.setIfInBounds_toArray, List.set_cons_zero, List.set_cons_succ])))); refine walkF_nil ?_)
            intro w3 hw3
            go_wp2_with fail
            go_ret
            exact ⟨ret_int hn.out.symm, (by repeat (first | (with_reducible assumption) | (with_reducible exact Ext.rfl' _) | (with_reducible exact Ext.new _ _) | (with_reducible refine Ext.alloc' ?_ _) | (with_reducible refine Ext.drew' ?_) | (with_reducible refine Ext.drewN' ?_ _) | (with_reducible refine Ext.set' ?_ ?_ _; rotate_left; (focus (first | omega | (simp; done) | (simp; omega)))) | (with_reducible refine Ext.then (b := ?_) ?_ ?_; rotate_left; rotate_left; (with_reducible assumption))))⟩
          have b1 : decide (x < y) = false := by simpa using h1
          by_cases h2 : y < x
          · have b2 : decide (y < x) = true := by simpa using h2
            have hn : Hid (cmpF f g = 1) := by show _ = _; rw [hE.out, hZ.out, hd.out, if_neg h1, if_pos h2]; rfl
            clear hd
            go_wp2_with fail
            (refine wp_region_calm (S := fun w' => Ext _ w') (by kernel_rfl) (by kernel_rfl) (Ext.rfl' _).drew' ?_; (try simp only [List.toList_toArray]); (repeat (first | (refine walkF_skip ?_ ?_; (focus rfl); (try simp only [Act.put, List.setIfInBounds_toArray, List.set_cons_zero, List.set_cons_succ])) | (refine walkF_step (v := ?_) rfl ?_ ?_ ?_; rotate_left; (focus rfl); (focus (intro w' hS A hA K hK; (simp only [agrees, Op.operands, Call.operands, Act.eval, Array.getD_eq_getD_getElem?, List.getElem?_toArray, List.getElem?_cons_succ, List.getElem?_cons_zero, Option.getD_some, and_true, true_and, List.append_toArray, List.nil_append, List.cons_append, List.toList_toArray, Array.toList_append] at hA); first | fail | (obtain ⟨hSc, hSf, hSs⟩ := hS.cells; go_simp; exact hK _ hS))); (try simp only [Act.put, List.setIfInBounds_toArray, List.set_cons_zero, List.set_cons_succ])))); refine walkF_nil ?_)
            intro w3 hw3
            replace h0 := hw3.cell1 h0
            replace h0' := hw3.cell1 h0'
            replace hbl := cell_lt h0
            replace hbl' := cell_lt h0'
            go_wp2_with fail
            (refine wp_region_calm (S := fun w' => Ext _ w') (by kernel_rfl) (by kernel_rfl) (Ext.rfl' _).drew' ?_; (try simp only [List.toList_toArray]); (repeat (first | (refine walkF_skip ?_ ?_; (focus rfl); (try simp only [Act.put, List.setIfInBounds_toArray, List.set_cons_zero, List.set_cons_succ])) | (refine walkF_step (v := ?_) rfl ?_ ?_ ?_; rotate_left; (focus rfl); (focus (intro w' hS A hA K hK; (simp only [agrees, Op.operands, Call.operands, Act.eval, Array.getD_eq_getD_getElem?, List.getElem?_toArray, List.getElem?_cons_succ, List.getElem?_cons_zero, Option.getD_some, and_true, true_and, List.append_toArray, List.nil_append, List.cons_append, List.toList_toArray, Array.toList_append] at hA); first | fail | (obtain ⟨hSc, hSf, hSs⟩ := hS.cells; go_simp; exact hK _ hS))); (try simp only [Act.put, List.setIfInBounds_toArray, List.set_cons_zero, List.set_cons_succ])))); refine walkF_nil ?_)
            intro w4 hw4
            go_wp2_with fail
            go_ret
            exact ⟨ret_int hn.out.symm, (by repeat (first | (with_reducible assumption) | (with_reducible exact Ext.rfl' _) | (with_reducible exact Ext.new _ _) | (with_reducible refine Ext.alloc' ?_ _) | (with_reducible refine Ext.drew' ?_) | (with_reducible refine Ext.drewN' ?_ _) | (with_reducible refine Ext.set' ?_ ?_ _; rotate_left; (focus (first | omega | (simp; done) | (simp; omega)))) | (with_reducible refine Ext.then (b := ?_) ?_ ?_; rotate_left; rotate_left; (with_reducible assumption))))⟩
          · have b2 : decide (y < x) = false := by simpa using h2
            have hn : Hid (cmpZ X Y = cmpZ (X.drop (k + 1)) (Y.drop (k + 1))) := by show _ = _; rw [hZ.out, hd.out, if_neg h1, if_neg h2]
            clear hd
            go_wp2_with fail
            (refine wp_region_calm (S := fun w' => Ext _ w') (by kernel_rfl) (by kernel_rfl) (Ext.rfl' _).drew' ?_; (try simp only [List.toList_toArray]); (repeat (first | (refine walkF_skip ?_ ?_; (focus rfl); (try simp only [Act.put, List.setIfInBounds_toArray, List.set_cons_zero, List.set_cons_succ])) | (refine walkF_step (v := ?_) rfl ?_ ?_ ?_; rotate_left; (focus rfl); (focus (intro w' hS A hA K hK; (simp only [agrees, Op.operands, Call.operands, Act.eval, Array.getD_eq_getD_getElem?, List.getElem?_toArray, List.getElem?_cons_succ, List.getElem?_cons_zero, Option.getD_some, and_true, true_and, List.append_toArray, List.nil_append, List.cons_append, List.toList_toArray, Array.toList_append] at hA); first | fail | (obtain ⟨hSc, hSf, hSs⟩ := hS.cells; go_simp; exact hK _ hS))); (try simp only [Act.put, List.setIfInBounds_toArray, List.set_cons_zero, List.set_cons_succ])))); refine walkF_nil ?_)
            intro w3 hw3
            replace h0 := hw3.cell1 h0
            replace h0' := hw3.cell1 h0'
            replace hbl := cell_lt h0
            replace hbl' := cell_lt h0'
            go_wp2_with fail
            (refine wp_region_calm (S := fun w' => Ext _ w') (by kernel_rfl) (by kernel_rfl) (Ext.rfl' _).drew' ?_; (try simp only [List.toList_toArray]); (repeat (first | (refine walkF_skip ?_ ?_; (focus rfl); (try simp only [Act.put, List.setIfInBounds_toArray, List.set_cons_zero, List.set_cons_succ])) | (refine walkF_step (v := ?_) rfl ?_ ?_ ?_; rotate_left; (focus rfl); (focus (intro w' hS A hA K hK; (simp only [agrees, Op.operands, Call.operands, Act.eval, Array.getD_eq_getD_getElem?, List.getElem?_toArray, List.getElem?_cons_succ, List.getElem?_cons_zero, Option.getD_some, and_true, true_and, List.append_toArray, List.nil_append, List.cons_append, List.toList_toArray, Array.toList_append] at hA); first | fail | (obtain ⟨hSc, hSf, hSs⟩ := hS.cells; go_simp; exact hK _ hS))); (try simp only [Act.put, List.setIfInBounds_toArray, List.set_cons_zero, List.set_cons_succ])))); refine walkF_nil ?_)
            intro w4 hw4
            go_wp2_with fail
            go_roundw
            case rel => exact ⟨k + 1, by omega, by omega, by go_num, hn, (by repeat (first | (with_reducible assumption) | (with_reducible exact Ext.rfl' _) | (with_reducible exact Ext.new _ _) | (with_reducible refine Ext.alloc' ?_ _) | (with_reducible refine Ext.drew' ?_) | (with_reducible refine Ext.drewN' ?_ _) | (with_reducible refine Ext.set' ?_ ?_ _; rotate_left; (focus (first | omega | (simp; done) | (simp; omega)))) | (with_reducible refine Ext.then (b := ?_) ?_ ?_; rotate_left; rotate_left; (with_reducible assumption))))⟩
            case measure => simp [intOf]; omega
        · have hZ0 : cmpZ X Y = 0 := by rw [hZ.out]; exact cmpZ_end (.inr (by omega))
          have := (hkids.out hZ0).2
          omega
      · have hZ0 : cmpZ X Y = 0 := by rw [hZ.out]; exact cmpZ_end (.inl (by omega))
        have hkk := (hkids.out hZ0).1
        have hE2 : Hid (cmpF f g = cmpFs f.kids g.kids) := by show _ = _; rw [hE.out, hZ0]; rfl
        replace hB1 := hB1.keep hxr
        replace hB2 := hB2.keep hxr
        replace hX := hX.then hxr
        clear hR1 hR2 hZ hE hZ0
        obtain ⟨kc, -⟩ := hB1.facts
        obtain ⟨lc, -⟩ := hB2.facts
        have hl2 := hB2.lt
        go_wp2_with fail
        go_loopw [8] (fun i wx => ∃ m : Nat, m ≤ f.kids.length ∧ i = .int .i64 m ∧ Hid (cmpF f g = cmpFs (f.kids.drop m) (g.kids.drop m)) ∧ Ext wr wx) (fun i _ => f.kids.length - (intOf i).toNat)
        case atStart => exact ⟨0, Nat.zero_le _, rfl, hE2, (by repeat (first | (with_reducible assumption) | (with_reducible exact Ext.rfl' _) | (with_reducible exact Ext.new _ _) | (with_reducible refine Ext.alloc' ?_ _) | (with_reducible refine Ext.drew' ?_) | (with_reducible refine Ext.drewN' ?_ _) | (with_reducible refine Ext.set' ?_ ?_ _; rotate_left; (focus (first | omega | (simp; done) | (simp; omega)))) | (with_reducible refine Ext.then (b := ?_) ?_ ?_; rotate_left; rotate_left; (with_reducible assumption))))⟩
        case round =>
          obtain ⟨m, hm, rfl, hF, hxx⟩ := hrel
          replace hB1 := hB1.keep hxx
          replace hB2 := hB2.keep hxx
          replace hX := hX.then hxx
          clear kc lc hl2
          obtain ⟨kc, -⟩ := hB1.facts
          obtain ⟨lc, -⟩ := hB2.facts
          have hl2 := hB2.lt
          have hl1 := hB1.lt
          by_cases hlt : m < f.kids.length
          · have hlt2 : m < g.kids.length := by omega
            obtain ⟨b, o, p3, e3, p4, e4, rfl, h0, h1, h2, h3, hEa, hbl⟩ := FmsR.at (hk.mono mono_FmR hX.ple) m hlt
            obtain ⟨b', o', q3, f3, q4, f4, rfl, h0', h1', h2', h3', hEb, hbl'⟩ := FmsR.at (gk.mono mono_FmR hX.ple) m hlt2
            have k3 : _ = some (Value.slice (some ⟨b, o, none⟩) f.kids.length c4) := kc 3
            have l3 : _ = some (Value.slice (some ⟨b', o', none⟩) g.kids.length d4) := lc 3
            unfold fmC at hEa hEb
            have ha1 := Fm.kid_le (List.getElem_mem hlt)
            have ha2 := Fm.kid_le (List.getElem_mem hlt2)
            have hd := Lib.hid (cmpFs_drop hlt hlt2)
            have hc := Lib.hid (fun W (hW : Ext wr W) => HI.out _ (List.getElem_mem hlt) g.kids[m] _ _ W (mono_FmR _ _ _ _ (Ext.ple hW) hEa) (mono_FmR _ _ _ _ (Ext.ple hW) hEb) (by omega) (by omega))
            generalize cmpF f.kids[m] g.kids[m] = z at *
            generalize f.kids[m] = x at *
            generalize g.kids[m] = y at *
            clear hk gk hEa hEb kc lc HI
            have hlm : m < f.kids.length := hlt
            go_wp2_with fail
            (refine wp_region_I 12 (by kernel_rfl) (by kernel_rfl) ?_; simp only [List.toList_toArray, List.take_succ_cons, List.take_zero, List.drop_succ_cons, List.drop_zero])
            (refine walkI_is (u := ?_) rfl (by simp) rfl ?_ ?_; rotate_left; (focus (intro A w' hS hA K hK; (simp only [List.map_cons, List.map_nil, knows, Is, Op.operands, Call.operands, List.lookup_cons, List.lookup_nil, Nat.reduceBEq, Bool.false_eq_true, if_false, if_true, Act.eval, Array.getD_eq_getD_getElem?, List.getElem?_toArray, List.getElem?_cons_succ, List.getElem?_cons_zero, Option.getD_some, and_true, true_and, List.append_toArray, List.nil_append, List.cons_append, List.toList_toArray, Array.toList_append, Option.toArray, List.append_nil] at hA); first | fail | (obtain ⟨hSc, hSf, hSs⟩ := hS.cells; go_simp; exact hK _ (by first | exact Ext.rfl' _ | exact Ext.new _ _ | assumption)))); (try simp only [List.nil_append, List.cons_append]))
            (refine walkI_is (u := ?_) rfl (by simp) rfl ?_ ?_; rotate_left; (focus (intro A w' hS hA K hK; (simp only [List.map_cons, List.map_nil, knows, Is, Op.operands, Call.operands, List.lookup_cons, List.lookup_nil, Nat.reduceBEq, Bool.false_eq_true, if_false, if_true, Act.eval, Array.getD_eq_getD_getElem?, List.getElem?_toArray, List.getElem?_cons_succ, List.getElem?_cons_zero, Option.getD_some, and_true, true_and, List.append_toArray, List.nil_append, List.cons_append, List.toList_toArray, Array.toList_append, Option.toArray, List.append_nil] at hA); first | fail | (obtain ⟨hSc, hSf, hSs⟩ := hS.cells; go_simp; exact hK _ (by first | exact Ext.rfl' _ | exact Ext.new _ _ | assumption)))); (try simp only [List.nil_append, List.cons_append]))
            (refine walkI_is (u := ?_) rfl (by simp) rfl ?_ ?_; rotate_left; (focus (intro A w' hS hA K hK; (simp only [List.map_cons, List.map_nil, knows, Is, Op.operands, Call.operands, List.lookup_cons, List.lookup_nil, Nat.reduceBEq, Bool.false_eq_true, if_false, if_true, Act.eval, Array.getD_eq_getD_getElem?, List.getElem?_toArray, List.getElem?_cons_succ, List.getElem?_cons_zero, Option.getD_some, and_true, true_and, List.append_toArray, List.nil_append, List.cons_append, List.toList_toArray, Array.toList_append, Option.toArray, List.append_nil] at hA); first | fail | (obtain ⟨hSc, hSf, hSs⟩ := hS.cells; go_simp; exact hK _ (by first | exact Ext.rfl' _ | exact Ext.new _ _ | assumption)))); (try simp only [List.nil_append, List.cons_append]))
            (refine walkI_is (u := ?_) rfl (by simp) rfl ?_ ?_; rotate_left; (focus (intro A w' hS hA K hK; (simp only [List.map_cons, List.map_nil, knows, Is, Op.operands, Call.operands, List.lookup_cons, List.lookup_nil, Nat.reduceBEq, Bool.false_eq_true, if_false, if_true, Act.eval, Array.getD_eq_getD_getElem?, List.getElem?_toArray, List.getElem?_cons_succ, List.getElem?_cons_zero, Option.getD_some, and_true, true_and, List.append_toArray, List.nil_append, List.cons_append, List.toList_toArray, Array.toList_append, Option.toArray, List.append_nil] at hA); first | fail | (obtain ⟨hSc, hSf, hSs⟩ := hS.cells; go_simp; exact hK _ (by first | exact Ext.rfl' _ | exact Ext.new _ _ | assumption)))); (try simp only [List.nil_append, List.cons_append]))
            (refine walkI_is (u := ?_) rfl (by simp) rfl ?_ ?_; rotate_left; (focus (intro A w' hS hA K hK; (simp only [List.map_cons, List.map_nil, knows, Is, Op.operands, Call.operands, List.lookup_cons, List.lookup_nil, Nat.reduceBEq, Bool.false_eq_true, if_false, if_true, Act.eval, Array.getD_eq_getD_getElem?, List.getElem?_toArray, List.getElem?_cons_succ, List.getElem?_cons_zero, Option.getD_some, and_true, true_and, List.append_toArray, List.nil_append, List.cons_append, List.toList_toArray, Array.toList_append, Option.toArray, List.append_nil] at hA); first | fail | (obtain ⟨hSc, hSf, hSs⟩ := hS.cells; go_simp; exact hK _ (by first | exact Ext.rfl' _ | exact Ext.new _ _ | assumption)))); (try simp only [List.nil_append, List.cons_append]))
            (refine walkI_is (u := ?_) rfl (by simp) rfl ?_ ?_; rotate_left; (focus (intro A w' hS hA K hK; (simp only [List.map_cons, List.map_nil, knows, Is, Op.operands, Call.operands, List.lookup_cons, List.lookup_nil, Nat.reduceBEq, Bool.false_eq_true, if_false, if_true, Act.eval, Array.getD_eq_getD_getElem?, List.getElem?_toArray, List.getElem?_cons_succ, List.getElem?_cons_zero, Option.getD_some, and_true, true_and, List.append_toArray, List.nil_append, List.cons_append, List.toList_toArray, Array.toList_append, Option.toArray, List.append_nil] at hA); first | fail | (obtain ⟨hSc, hSf, hSs⟩ := hS.cells; go_simp; exact hK _ (by first | exact Ext.rfl' _ | exact Ext.new _ _ | assumption)))); (try simp only [List.nil_append, List.cons_append]))
            (refine walkI_is (u := ?_) rfl (by simp) rfl ?_ ?_; rotate_left; (focus (intro A w' hS hA K hK; (simp only [List.map_cons, List.map_nil, knows, Is, Op.operands, Call.operands, List.lookup_cons, List.lookup_nil, Nat.reduceBEq, Bool.false_eq_true, if_false, if_true, Act.eval, Array.getD_eq_getD_getElem?, List.getElem?_toArray, List.getElem?_cons_succ, List.getElem?_cons_zero, Option.getD_some, and_true, true_and, List.append_toArray, List.nil_append, List.cons_append, List.toList_toArray, Array.toList_append, Option.toArray, List.append_nil] at hA); first | fail | (obtain ⟨hSc, hSf, hSs⟩ := hS.cells; go_simp; exact hK _ (by first | exact Ext.rfl' _ | exact Ext.new _ _ | assumption)))); (try simp only [List.nil_append, List.cons_append]))
            (refine walkI_is (u := ?_) rfl (by simp) rfl ?_ ?_; rotate_left; (focus (intro A w' hS hA K hK; (simp only [List.map_cons, List.map_nil, knows, Is, Op.operands, Call.operands, List.lookup_cons, List.lookup_nil, Nat.reduceBEq, Bool.false_eq_true, if_false, if_true, Act.eval, Array.getD_eq_getD_getElem?, List.getElem?_toArray, List.getElem?_cons_succ, List.getElem?_cons_zero, Option.getD_some, and_true, true_and, List.append_toArray, List.nil_append, List.cons_append, List.toList_toArray, Array.toList_append, Option.toArray, List.append_nil] at hA); first | fail | (obtain ⟨hSc, hSf, hSs⟩ := hS.cells; go_simp; exact hK _ (by first | exact Ext.rfl' _ | exact Ext.new _ _ | assumption)))); (try simp only [List.nil_append, List.cons_append]))
            (refine walkI_is (u := ?_) rfl (by simp) rfl ?_ ?_; rotate_left; (focus (intro A w' hS hA K hK; (simp only [List.map_cons, List.map_nil, knows, Is, Op.operands, Call.operands, List.lookup_cons, List.lookup_nil, Nat.reduceBEq, Bool.false_eq_true, if_false, if_true, Act.eval, Array.getD_eq_getD_getElem?, List.getElem?_toArray, List.getElem?_cons_succ, List.getElem?_cons_zero, Option.getD_some, and_true, true_and, List.append_toArray, List.nil_append, List.cons_append, List.toList_toArray, Array.toList_append, Option.toArray, List.append_nil] at hA); first | fail | (obtain ⟨hSc, hSf, hSs⟩ := hS.cells; go_simp; exact hK _ (by first | exact Ext.rfl' _ | exact Ext.new _ _ | assumption)))); (try simp only [List.nil_append, List.cons_append]))
            (refine walkI_is (u := ?_) rfl (by simp) rfl ?_ ?_; rotate_left; (focus (intro A w' hS hA K hK; (simp only [List.map_cons, List.map_nil, knows, Is, Op.operands, Call.operands, List.lookup_cons, List.lookup_nil, Nat.reduceBEq, Bool.false_eq_true, if_false, if_true, Act.eval, Array.getD_eq_getD_getElem?, List.getElem?_toArray, List.getElem?_cons_succ, List.getElem?_cons_zero, Option.getD_some, and_true, true_and, List.append_toArray, List.nil_append, List.cons_append, List.toList_toArray, Array.toList_append, Option.toArray, List.append_nil] at hA); first | fail | (obtain ⟨hSc, hSf, hSs⟩ := hS.cells; go_simp; exact hK _ (by first | exact Ext.rfl' _ | exact Ext.new _ _ | assumption)))); (try simp only [List.nil_append, List.cons_append]))
            (refine walkI_is (u := ?_) rfl (by simp) rfl ?_ ?_; rotate_left; (focus (intro A w' hS hA K hK; (simp only [List.map_cons, List.map_nil, knows, Is, Op.operands, Call.operands, List.lookup_cons, List.lookup_nil, Nat.reduceBEq, Bool.false_eq_true, if_false, if_true, Act.eval, Array.getD_eq_getD_getElem?, List.getElem?_toArray, List.getElem?_cons_succ, List.getElem?_cons_zero, Option.getD_some, and_true, true_and, List.append_toArray, List.nil_append, List.cons_append, List.toList_toArray, Array.toList_append, Option.toArray, List.append_nil] at hA); first | (go_simp; refine RetV_at (hc.out _ (by repeat (first | (with_reducible assumption) | (with_reducible exact Ext.rfl' _) | (with_reducible exact Ext.new _ _) | (with_reducible refine Ext.alloc' ?_ _) | (with_reducible refine Ext.drew' ?_) | (with_reducible refine Ext.drewN' ?_ _) | (with_reducible refine Ext.set' ?_ ?_ _; rotate_left; (focus (first | omega | (simp; done) | (simp; omega)))) | (with_reducible refine Ext.then (b := ?_) ?_ ?_; rotate_left; rotate_left; (with_reducible assumption))))) ?_; intro w5 hx5; exact hK _ hx5) | (obtain ⟨hSc, hSf, hSs⟩ := hS.cells; go_simp; exact hK _ (by first | exact Ext.rfl' _ | exact Ext.new _ _ | assumption)))); (try simp only [List.nil_append, List.cons_append]))
            (refine walkI_is (u := ?_) rfl (by simp) rfl ?_ ?_; rotate_left; (focus (intro A w' hS hA K hK; (simp only [List.map_cons, List.map_nil, knows, Is, Op.operands, Call.operands, List.lookup_cons, List.lookup_nil, Nat.reduceBEq, Bool.false_eq_true, if_false, if_true, Act.eval, Array.getD_eq_getD_getElem?, List.getElem?_toArray, List.getElem?_cons_succ, List.getElem?_cons_zero, Option.getD_some, and_true, true_and, List.append_toArray, List.nil_append, List.cons_append, List.toList_toArray, Array.toList_append, Option.toArray, List.append_nil] at hA); first | fail | (obtain ⟨hSc, hSf, hSs⟩ := hS.cells; go_simp; exact hK _ (by first | exact Ext.rfl' _ | exact Ext.new _ _ | assumption)))); (try simp only [List.nil_append, List.cons_append]))
            (refine walkI_nil ?_; simp only [List.nil_append, List.cons_append, fins, Is, forall_eq, Act.put, List.setIfInBounds_toArray, List.set_cons_zero, List.set_cons_succ])
            intro w6 hx6
            by_cases hz : z = 0
            · have b3 : (z == 0) = true := by simpa using hz
              have b4 : (z != 0) = false := by simpa using hz
              have hn : Hid (cmpF f g = cmpFs (f.kids.drop (m + 1)) (g.kids.drop (m + 1))) := by show _ = _; rw [hF.out, hd.out, if_neg (by simpa using hz)]
              clear hd hz
              go_wp2_with fail
              go_roundw
              case rel => exact ⟨m + 1, by omega, by go_num, hn, (by repeat (first | (with_reducible assumption) | (with_reducible exact Ext.rfl' _) | (with_reducible exact Ext.new _ _) | (with_reducible refine Ext.alloc' ?_ _) | (with_reducible refine Ext.drew' ?_) | (with_reducible refine Ext.drewN' ?_ _) | (with_reducible refine Ext.set' ?_ ?_ _; rotate_left; (focus (first | omega | (simp; done) | (simp; omega)))) | (with_reducible refine Ext.then (b := ?_) ?_ ?_; rotate_left; rotate_left; (with_reducible assumption))))⟩
              case measure => simp [intOf]; omega
            · have b3 : (z == 0) = false := by simpa using hz
              have b4 : (z != 0) = true := by simpa using hz
              have hn : Hid (cmpF f g = z) := by show _ = _; rw [hF.out, hd.out, if_pos hz]
              clear hd
              go_wp2_with fail
              go_ret
              exact ⟨ret_int hn.out.symm, (by repeat (first | (with_reducible assumption) | (with_reducible exact Ext.rfl' _) | (with_reducible exact Ext.new _ _) | (with_reducible refine Ext.alloc' ?_ _) | (with_reducible refine Ext.drew' ?_) | (with_reducible refine Ext.drewN' ?_ _) | (with_reducible refine Ext.set' ?_ ?_ _; rotate_left; (focus (first | omega | (simp; done) | (simp; omega)))) | (with_reducible refine Ext.then (b := ?_) ?_ ?_; rotate_left; rotate_left; (with_reducible assumption))))⟩
          · have hn : Hid (cmpF f g = 0) := by
              show _ = _
              rw [hF.out, List.drop_eq_nil_of_le (by omega)]
              rfl
            have k3 : _ = some (Value.slice a4 f.kids.length c4) := kc 3
            clear hk gk kc lc
            go_wp2_with fail
            go_ret
            exact ⟨ret_int hn.out.symm, (by repeat (first | (with_reducible assumption) | (with_reducible exact Ext.rfl' _) | (with_reducible exact Ext.new _ _) | (with_reducible refine Ext.alloc' ?_ _) | (with_reducible refine Ext.drew' ?_) | (with_reducible refine Ext.drewN' ?_ _) | (with_reducible refine Ext.set' ?_ ?_ _; rotate_left; (focus (first | omega | (simp; done) | (simp; omega)))) | (with_reducible refine Ext.then (b := ?_) ?_ ?_; rotate_left; rotate_left; (with_reducible assumption))))⟩
theorem rsame_c (f g : Fm) (cs ds : List Value) (w : World) (hr : FmR (ph w) cs f) (hq : FmR (ph w) ds g) (hb1 : f.bulk ≤ 100000) (hb2 : g.bulk ≤ 100000) :
    Calls Tryz.prog 44 #[.agg cs.toArray, .agg ds.toArray] w (RetV w (.bool (B (f = g)))) := by
  have hr' := hr
  have hq' := hq
  obtain ⟨a3, c3, a4, c4, rfl, -⟩ := hr.form
  obtain ⟨b3, d3, b4, d4, rfl, -⟩ := hq.form
  unfold fmC at *
  have h0 := Lib.hid (cmpF_0 f g)
  go_enter Tryz.func44, Tryz.ntmps44
  go_wp2_with fail
  refine RetV_at (rcmp_c f g _ _ _ (mono_FmR _ _ _ _ (Ext.ple (by repeat (first | (with_reducible assumption) | (with_reducible exact Ext.rfl' _) | (with_reducible exact Ext.new _ _) | (with_reducible refine Ext.alloc' ?_ _) | (with_reducible refine Ext.drew' ?_) | (with_reducible refine Ext.drewN' ?_ _) | (with_reducible refine Ext.set' ?_ ?_ _; rotate_left; (focus (first | omega | (simp; done) | (simp; omega)))) | (with_reducible refine Ext.then (b := ?_) ?_ ?_; rotate_left; rotate_left; (with_reducible assumption))))) hr') (mono_FmR _ _ _ _ (Ext.ple (by repeat (first | (with_reducible assumption) | (with_reducible exact Ext.rfl' _) | (with_reducible exact Ext.new _ _) | (with_reducible refine Ext.alloc' ?_ _) | (with_reducible refine Ext.drew' ?_) | (with_reducible refine Ext.drewN' ?_ _) | (with_reducible refine Ext.set' ?_ ?_ _; rotate_left; (focus (first | omega | (simp; done) | (simp; omega)))) | (with_reducible refine Ext.then (b := ?_) ?_ ?_; rotate_left; rotate_left; (with_reducible assumption))))) hq') hb1 hb2) ?_
  intro w1 hx1
  generalize cmpF f g = z at *
  go_wp2_with fail
  go_ret
  refine ⟨ret_B ?_, (by repeat (first | (with_reducible assumption) | (with_reducible exact Ext.rfl' _) | (with_reducible exact Ext.new _ _) | (with_reducible refine Ext.alloc' ?_ _) | (with_reducible refine Ext.drew' ?_) | (with_reducible refine Ext.drewN' ?_ _) | (with_reducible refine Ext.set' ?_ ?_ _; rotate_left; (focus (first | omega | (simp; done) | (simp; omega)))) | (with_reducible refine Ext.then (b := ?_) ?_ ?_; rotate_left; rotate_left; (with_reducible assumption))))⟩
  rw [← h0.out]; simp
theorem samelist_c (l m : List Fm) (va vb : Value) (w : World) (ha : FmsR (ph w) va l) (hb : FmsR (ph w) vb m) (h1 : sumN Fm.bulk l ≤ 90000) (h2 : sumN Fm.bulk m ≤ 90000) :
    Calls Tryz.prog 45 #[va, vb] w (RetV w (.bool (B (l = m)))) := by
  obtain ⟨a4, c4, rfl, -, ha⟩ := ha.form
  obtain ⟨b4, d4, rfl, -, hb⟩ := hb.form
  go_enter Tryz.func45, Tryz.ntmps45
  go_wp2_with fail
  refine RetV_at (rsame_c (.mk 4 0 [] l) (.mk 4 0 [] m) (fmC (.mk 4 0 [] l) none 0 a4 c4) (fmC (.mk 4 0 [] m) none 0 b4 d4) _
    (FmR.of (f := .mk 4 0 [] l) (by simp [Fm.op, I64]) (by simp [Fm.n, I64]) (SliceRep.nil _ _ _) (ha.mono mono_FmR (Ext.ple (by repeat (first | (with_reducible assumption) | (with_reducible exact Ext.rfl' _) | (with_reducible exact Ext.new _ _) | (with_reducible refine Ext.alloc' ?_ _) | (with_reducible refine Ext.drew' ?_) | (with_reducible refine Ext.drewN' ?_ _) | (with_reducible refine Ext.set' ?_ ?_ _; rotate_left; (focus (first | omega | (simp; done) | (simp; omega)))) | (with_reducible refine Ext.then (b := ?_) ?_ ?_; rotate_left; rotate_left; (with_reducible assumption)))))))
    (FmR.of (f := .mk 4 0 [] m) (by simp [Fm.op, I64]) (by simp [Fm.n, I64]) (SliceRep.nil _ _ _) (hb.mono mono_FmR (Ext.ple (by repeat (first | (with_reducible assumption) | (with_reducible exact Ext.rfl' _) | (with_reducible exact Ext.new _ _) | (with_reducible refine Ext.alloc' ?_ _) | (with_reducible refine Ext.drew' ?_) | (with_reducible refine Ext.drewN' ?_ _) | (with_reducible refine Ext.set' ?_ ?_ _; rotate_left; (focus (first | omega | (simp; done) | (simp; omega)))) | (with_reducible refine Ext.then (b := ?_) ?_ ?_; rotate_left; rotate_left; (with_reducible assumption)))))))
    (by rw [Fm.bulk_eq]; simp [Fm.inn, Fm.kids]; omega) (by rw [Fm.bulk_eq]; simp [Fm.inn, Fm.kids]; omega)) ?_
  intro w1 hx1
  go_wp2_with fail
  go_ret
  refine ⟨ret_B ?_, (by repeat (first | (with_reducible assumption) | (with_reducible exact Ext.rfl' _) | (with_reducible exact Ext.new _ _) | (with_reducible refine Ext.alloc' ?_ _) | (with_reducible refine Ext.drew' ?_) | (with_reducible refine Ext.drewN' ?_ _) | (with_reducible refine Ext.set' ?_ ?_ _; rotate_left; (focus (first | omega | (simp; done) | (simp; omega)))) | (with_reducible refine Ext.then (b := ?_) ?_ ?_; rotate_left; rotate_left; (with_reducible assumption))))⟩
  rw [B_iff]
end Go.Proofs.YtcbmgajaaechjaaGreat
