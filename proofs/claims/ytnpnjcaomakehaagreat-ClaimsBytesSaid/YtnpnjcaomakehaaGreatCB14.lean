/- Lemmas for CB, part 15: the order of formulas of the reference, for greater formulas, and more. -/
import Derived.Test.YtnpnjcaomakehaaGreatCB00
import Derived.Test.YtnpnjcaomakehaaGreatCB01
import Derived.Test.YtnpnjcaomakehaaGreatCB04
import Derived.Test.YtnpnjcaomakehaaGreatCB08
import Derived.Test.YtnpnjcaomakehaaGreatCB10
import Derived.Test.YtnpnjcaomakehaaGreatCB11
import Derived.Test.YtnpnjcaomakehaaGreatCB12
import Derived.Test.YtnpnjcaomakehaaGreatCB13
set_option linter.unusedSimpArgs false
set_option linter.unusedVariables false
namespace Go.Proofs.YtnpnjcaomakehaaGreat
open Go.RowKit Go.Shelf
set_option maxRecDepth 100000 in
set_option maxHeartbeats 2000000 in
theorem orderB_c (f : Fm) (cs : List Value) (w : World) (hr : FmR (ph w) cs f) (hlen : f.inn.length ≤ 400000) : Calls Tryz.prog 91 #[.agg cs.toArray] w fun e w' => ∃ v, e = .returned v ∧ Ext w w' ∧ OwnS w.heap.size noH w' IntR 1 3 v (ordF f) := by
  obtain ⟨a3, c3, a4, c4, rfl, i1, i2, hil, hkl, hi, hk⟩ := hr.form
  unfold fmC
  clear hr hk
  have hof := Lib.hid (show ordF f = ([f.op, f.n, (f.inn.length : Int)] ++ f.inn.flatMap ordI) ++ [(f.kids.length : Int)] from rfl)
  have i3 : I64 (f.inn.length : Int) := by unfold I64; omega
  have i4 : I64 (f.kids.length : Int) := by unfold I64; omega
  go_enter Tryz.func91, Tryz.ntmps91
  go_wp2_with fail
  have hM := (((Mem.start w noH (noH_le _)).new #[.int .i64 f.op, .int .i64 f.n, .slice a3 f.inn.length c3, .slice a4 f.kids.length c4] 50).new' #[.int .i64 f.op, .int .i64 f.n, .int .i64 f.inn.length] 3 (n := w.heap.size + 1) (by simp)).asOwn 1 rfl mono_IntR (sz := 1) (xs := [f.op, f.n, (f.inn.length : Int)]) (n := 3) (by simp) (by simp [maxLen]) rfl
    (cells_ints (l := [f.op, f.n, (f.inn.length : Int)]) (by simp; exact ⟨i1, i2, i3⟩))
  simp only [List.nil_append, List.cons_append, List.set_cons_succ, List.set_cons_zero, List.length_cons, List.length_nil, Nat.zero_add, Nat.reduceAdd] at hM
  go_loopw [3, 4] (fun v i wr => ∃ k : Nat, k ≤ f.inn.length ∧ i = .int .i64 k ∧ Mem w noH [box w.heap.size #[.int .i64 f.op, .int .i64 f.n, .slice a3 f.inn.length c3, .slice a4 f.kids.length c4] 50, own mono_IntR 1 3 v ([f.op, f.n, (f.inn.length : Int)] ++ (f.inn.take k).flatMap ordI)] noH wr) (fun _ i _ => f.inn.length - (intOf i).toNat)
  case atStart => exact ⟨0, Nat.zero_le _, rfl, hM⟩
  case round =>
    obtain ⟨k, hk, rfl, hM⟩ := hrel
    obtain ⟨kc, kf⟩ := (hM.box 0 rfl).facts
    have k2 : _ = some (Value.slice a3 f.inn.length c3) := kc 2
    have k3 : _ = some (Value.slice a4 f.kids.length c4) := kc 3
    have hbl0 := (hM.box 0 rfl).lt
    by_cases hlt : k < f.inn.length
    · obtain ⟨b, o, rfl, h0, h1, h2, h3, h4, h5, h6, h7, hbl, hI⟩ := ItvsR.at (hi.mono mono_ItvR hM.ex.ple) k hlt
      have hstep : Hid (([f.op, f.n, (f.inn.length : Int)] ++ (f.inn.take k).flatMap ordI) ++ ordI f.inn[k] = [f.op, f.n, (f.inn.length : Int)] ++ (f.inn.take (k + 1)).flatMap ordI) := by
        show _ = _; rw [List.take_succ_eq_append_getElem hlt, List.flatMap_append, List.append_assoc]; simp
      have hll : ([f.op, f.n, (f.inn.length : Int)] ++ (f.inn.take k).flatMap ordI).length ≤ 4000000 := by rw [List.length_append, ordIs_len, List.length_take]; simp; omega
      have hoI := ordI_I64 hI
      generalize [f.op, f.n, (f.inn.length : Int)] ++ (f.inn.take k).flatMap ordI = pre at *
      generalize f.inn[k] = x at *
      obtain ⟨ga, gn, rfl, -⟩ := hM.form 1 rfl
      clear hi kc
      obtain ⟨⟨p, q⟩, ⟨r, s⟩, lO, rO, lI, rI⟩ := x
      dsimp only at *
      go_wp2_with fail
      have hM2 := hM.new #[.int .i64 p, .int .i64 q, .int .i64 r, .int .i64 s, .bool lO, .bool rO, .bool lI, .bool rI] 92
      simp only [List.nil_append, List.cons_append] at hM2
      have hBl := (hM2.box 2 rfl).lt
      obtain ⟨bc, bf⟩ := (hM2.box 2 rfl).facts
      clear hM h0 h1 h2 h3 h4 h5 h6 h7 kf k2 k3
      generalize wr.alloc _ = W at *
      have m0 : _ = some (Value.int .i64 p) := bc 0
      have m1 : _ = some (Value.int .i64 q) := bc 1
      have m2 : _ = some (Value.int .i64 r) := bc 2
      have m3 : _ = some (Value.int .i64 s) := bc 3
      have m4 : _ = some (Value.bool lO) := bc 4
      have m5 : _ = some (Value.bool rO) := bc 5
      have m6 : _ = some (Value.bool lI) := bc 6
      have m7 : _ = some (Value.bool rI) := bc 7
      clear bc
      (refine wp_region_I 26 (by kernel_rfl) (by kernel_rfl) ?_; simp only [List.toList_toArray, List.take_succ_cons, List.take_zero, List.drop_succ_cons, List.drop_zero])
      iterate 3 (refine wiA rfl (by simp) rfl ?_; (try simp only [List.nil_append, List.cons_append]))
      (refine walkI_is (u := ?_) rfl (by simp) rfl ?_ ?_; rotate_left; (focus (intro A w' hS hA K hK; (simp only [List.map_cons, List.map_nil, knows, Is, Op.operands, Call.operands, List.lookup_cons, List.lookup_nil, Nat.reduceBEq, Bool.false_eq_true, if_false, if_true, Act.eval, Array.getD_eq_getD_getElem?, List.getElem?_toArray, List.getElem?_cons_succ, List.getElem?_cons_zero, Option.getD_some, and_true, true_and, List.append_toArray, List.nil_append, List.cons_append, List.toList_toArray, Array.toList_append, Option.toArray, List.append_nil] at hA); first | (go_simp; refine RetP_at (one7_c _ _) ?_; exact hK _ xE) | (obtain ⟨hSc, hSf, hSs⟩ := hS.cells; go_simp; exact hK _ xN))); (try simp only [List.nil_append, List.cons_append]))
      iterate 2 (refine wiA rfl (by simp) rfl ?_; (try simp only [List.nil_append, List.cons_append]))
      (refine walkI_is (u := ?_) rfl (by simp) rfl ?_ ?_; rotate_left; (focus (intro A w' hS hA K hK; (simp only [List.map_cons, List.map_nil, knows, Is, Op.operands, Call.operands, List.lookup_cons, List.lookup_nil, Nat.reduceBEq, Bool.false_eq_true, if_false, if_true, Act.eval, Array.getD_eq_getD_getElem?, List.getElem?_toArray, List.getElem?_cons_succ, List.getElem?_cons_zero, Option.getD_some, and_true, true_and, List.append_toArray, List.nil_append, List.cons_append, List.toList_toArray, Array.toList_append, Option.toArray, List.append_nil] at hA); first | (go_simp; refine RetP_at (one7_c _ _) ?_; exact hK _ xE) | (obtain ⟨hSc, hSf, hSs⟩ := hS.cells; go_simp; exact hK _ xN))); (try simp only [List.nil_append, List.cons_append]))
      iterate 8 (refine wiA rfl (by simp) rfl ?_; (try simp only [List.nil_append, List.cons_append]))
      (refine walkI_is (u := ?_) rfl (by simp) rfl ?_ ?_; rotate_left; (focus (intro A w' hS hA K hK; (simp only [List.map_cons, List.map_nil, knows, Is, Op.operands, Call.operands, List.lookup_cons, List.lookup_nil, Nat.reduceBEq, Bool.false_eq_true, if_false, if_true, Act.eval, Array.getD_eq_getD_getElem?, List.getElem?_toArray, List.getElem?_cons_succ, List.getElem?_cons_zero, Option.getD_some, and_true, true_and, List.append_toArray, List.nil_append, List.cons_append, List.toList_toArray, Array.toList_append, Option.toArray, List.append_nil] at hA); first | (go_simp; refine RetP_at (one7_c _ _) ?_; exact hK _ xE) | (obtain ⟨hSc, hSf, hSs⟩ := hS.cells; go_simp; exact hK _ xN))); (try simp only [List.nil_append, List.cons_append]))
      iterate 2 (refine wiA rfl (by simp) rfl ?_; (try simp only [List.nil_append, List.cons_append]))
      (refine walkI_is (u := ?_) rfl (by simp) rfl ?_ ?_; rotate_left; (focus (intro A w' hS hA K hK; (simp only [List.map_cons, List.map_nil, knows, Is, Op.operands, Call.operands, List.lookup_cons, List.lookup_nil, Nat.reduceBEq, Bool.false_eq_true, if_false, if_true, Act.eval, Array.getD_eq_getD_getElem?, List.getElem?_toArray, List.getElem?_cons_succ, List.getElem?_cons_zero, Option.getD_some, and_true, true_and, List.append_toArray, List.nil_append, List.cons_append, List.toList_toArray, Array.toList_append, Option.toArray, List.append_nil] at hA); first | (go_simp; refine RetP_at (one7_c _ _) ?_; exact hK _ xE) | (obtain ⟨hSc, hSf, hSs⟩ := hS.cells; go_simp; exact hK _ xN))); (try simp only [List.nil_append, List.cons_append]))
      iterate 6 (refine wiA rfl (by simp) rfl ?_; (try simp only [List.nil_append, List.cons_append]))
      (refine walkI_step (NewSl W (intC (ordI ⟨⟨p, q⟩, ⟨r, s⟩, lO, rO, lI, rI⟩)).toArray 3 8) rfl (by simp) rfl (stab_NewSl _ _ _ _) ?_ ?_; (focus (intro A w' hS hA K hK; (simp only [List.map_cons, List.map_nil, knows, Is, Op.operands, Call.operands, List.lookup_cons, List.lookup_nil, Nat.reduceBEq, Bool.false_eq_true, if_false, if_true, Act.eval, Array.getD_eq_getD_getElem?, List.getElem?_toArray, List.getElem?_cons_succ, List.getElem?_cons_zero, Option.getD_some, and_true, true_and, List.append_toArray, List.nil_append, List.cons_append, List.toList_toArray, Array.toList_append, Option.toArray, List.append_nil] at hA); (have hs' := hS.size; go_simp; exact hK _ _ (Ext.new _ _) ⟨_, rfl, Own.new _ _ _, by omega⟩))); (try simp only [List.nil_append, List.cons_append]))
      (refine walkI_nil ?_; simp only [List.nil_append, List.cons_append, fins, Is, forall_eq, Act.put, List.setIfInBounds_toArray, List.set_cons_zero, List.set_cons_succ])
      rintro w2 hx2 v9 ⟨g, rfl, ho, hg⟩
      have hM3 := hM2.ext hx2
      have hS8 := Src.ints (H := noH) (n := 8) hoI ho rfl
      clear m0 m1 m2 m3 m4 m5 m6 m7 bf
      go_wp2_with (at_builtin; refine wpList_append_M 1 rfl _ _ 22 rfl Tryz.underlying22 infoInt rfl rfl rfl (hM3) rfl (hS8) one_IntR ?c3 ?c4 ?c5)
      case c3 => simp [ordI]; omega
      case c4 => simp [ordI]; omega
      case c5 =>
        intro v' w3 hM4
        try simp only [List.set_cons_succ, List.set_cons_zero] at hM4
        rw [hstep.out] at hM4
        go_wp2_with fail
        go_roundw
        case rel =>
          have hM5 := hM4.pick [0, 1] (by simp)
          simp only [List.map_cons, List.map_nil, List.getElem?_cons_zero, List.getElem?_cons_succ, Option.getD_some] at hM5
          exact ⟨k + 1, by omega, by go_num, hM5⟩
        case measure => simp [intOf]; omega
    · rw [List.take_of_length_le (by omega)] at hM
      have hll : ([f.op, f.n, (f.inn.length : Int)] ++ f.inn.flatMap ordI).length ≤ 4000000 := by rw [List.length_append, ordIs_len]; simp; omega
      generalize [f.op, f.n, (f.inn.length : Int)] ++ f.inn.flatMap ordI = pre at *
      obtain ⟨ga, gn, rfl, -⟩ := hM.form 1 rfl
      clear hi kc
      have hM2 := hM.ext (Ext.new wr (.cells #[.int .i64 f.kids.length] 3))
      have hS1 := Src.ints (H := noH) (n := 1) (l := [(f.kids.length : Int)]) (by simpa using i4) (Own.new wr #[.int .i64 f.kids.length] 3) rfl
      go_wp2_with (at_builtin; refine wpList_append_M 1 rfl _ _ 22 rfl Tryz.underlying22 infoInt rfl rfl rfl (hM2) rfl (hS1) one_IntR ?c3 ?c4 ?c5)
      case c3 => simp; omega
      case c4 => simp; omega
      case c5 =>
        intro v' w3 hM4
        try simp only [List.set_cons_succ, List.set_cons_zero] at hM4
        rw [← hof.out] at hM4
        go_wp2_with fail
        go_ret
        exact ⟨_, rfl, hM4.ex, hM4.ownS 1 rfl⟩
set_option maxRecDepth 100000 in
set_option maxHeartbeats 2000000 in
theorem rcmpB_c (f : Fm) : ∀ (g : Fm) (cs ds : List Value) (w : World), FmR (ph w) cs f → FmR (ph w) ds g → f.bulk ≤ 400000 → g.bulk ≤ 400000 →
    Calls Tryz.prog 57 #[.agg cs.toArray, .agg ds.toArray] w (RetV w (.int .i64 (cmpF f g))) := by
  induction f using Fm.ind with
  | h f ih =>
    intro g cs ds w hr hq hb1 hb2
    have hr' := hr
    have hq' := hq
    obtain ⟨a3, c3, a4, c4, rfl, -, -, hil, hkl, hi, hk⟩ := hr.form
    obtain ⟨b3, d3, b4, d4, rfl, -, -, gil, gkl, gi, gk⟩ := hq.form
    unfold fmC at *
    clear hr hq hi gi
    have hbf := f.bulk_eq
    have hbg := g.bulk_eq
    have hkf := f.kids_le
    have hkg := g.kids_le
    have hE := Lib.hid (cmpF_eq f g)
    have HI := Lib.hid ih; clear ih
    go_enter Tryz.func57, Tryz.ntmps57
    go_wp2_with fail
    have hM0 := ((Mem.start w noH (noH_le _)).new #[.int .i64 f.op, .int .i64 f.n, .slice a3 f.inn.length c3, .slice a4 f.kids.length c4] 50).new' #[.int .i64 g.op, .int .i64 g.n, .slice b3 g.inn.length d3, .slice b4 g.kids.length d4] 50 (n := w.heap.size + 1) (by simp)
    simp only [List.nil_append, List.cons_append] at hM0
    refine (orderB_c f _ _ (mono_FmR _ _ _ _ (Ext.ple xE) hr') (by omega)).mono ?_
    rintro e w1 ⟨v1, rfl, hx1, ho1⟩
    obtain ⟨H1, -, -, hM1⟩ := hM0.take hx1 ho1 mono_IntR (noH_le _)
    simp only [List.nil_append, List.cons_append] at hM1
    obtain ⟨kc, kf⟩ := (hM1.box 0 rfl).facts
    obtain ⟨lc, lf⟩ := (hM1.box 1 rfl).facts
    have hl1 := (hM1.box 1 rfl).lt
    clear hM0 hx1 ho1
    go_wp2_with fail
    refine (orderB_c g _ _ (mono_FmR _ _ _ _ hM1.ex.ple hq') (by omega)).mono ?_
    rintro e w2 ⟨v2, rfl, hx2, ho2⟩
    obtain ⟨H2, -, -, hM2⟩ := hM1.take hx2 ho2 mono_IntR (noH_le _)
    simp only [List.nil_append, List.cons_append] at hM2
    clear hM1 hx2 ho2 kc kf lc lf hl1
    have hR1 := hM2.rep 2 rfl
    have hR2 := hM2.rep 3 rfl
    obtain ⟨xa, xc, rfl, xlen, hR1⟩ := hR1.form
    obtain ⟨ya, yc, rfl, ylen, hR2⟩ := hR2.form
    have hkids : cmpZ (ordF f) (ordF g) = 0 → f.kids.length = g.kids.length ∧ (ordF f).length = (ordF g).length := fun h => ⟨(ordF_0 (a := f) (b := g) h).2.2.2, by rw [ordF_len, ordF_len, (ordF_0 (a := f) (b := g) h).2.2.1]⟩
    have hB1 := hM2.box 0 rfl
    have hB2 := hM2.box 1 rfl
    have hX := hM2.ex
    clear hM2
    generalize hx : ordF f = X at *
    generalize hy : ordF g = Y at *
    replace hx := Lib.hid hx
    replace hy := Lib.hid hy
    replace hkids := Lib.hid hkids
    go_wp2_with fail
    go_loopw [7] (fun i wr => ∃ k : Nat, k ≤ X.length ∧ k ≤ Y.length ∧ i = .int .i64 k ∧ Hid (cmpZ X Y = cmpZ (X.drop k) (Y.drop k)) ∧ Ext w2 wr) (fun i _ => X.length - (intOf i).toNat)
    case atStart => exact ⟨0, Nat.zero_le _, Nat.zero_le _, rfl, Lib.hid rfl, xE⟩
    case round =>
      obtain ⟨k, hk1, hk2, rfl, hZ, hxr⟩ := hrel
      by_cases hlt1 : k < X.length
      · by_cases hlt2 : k < Y.length
        · obtain ⟨b, o, rfl, h0, i0, hbl⟩ := IntsR.at (hR1.mono mono_IntR hxr.ple) k hlt1
          obtain ⟨b', o', rfl, h0', i0', hbl'⟩ := IntsR.at (hR2.mono mono_IntR hxr.ple) k hlt2
          have hd := Lib.hid (cmpZ_drop hlt1 hlt2)
          generalize X[k] = x at *
          generalize Y[k] = y at *
          clear hR1 hR2 hk gk hB1 hB2
          by_cases h1 : x < y
          · have b1 : decide (x < y) = true := by simpa using h1
            have hn : Hid (cmpF f g = -1) := by show _ = _; rw [hE.out, hZ.out, hd.out, if_pos h1]; rfl
            clear hd
            go_wp2_with fail
            (refine wp_region_calm (S := fun w' => Ext _ w') (by kernel_rfl) (by kernel_rfl) (Ext.rfl' _).drew' ?_; (try simp only [List.toList_toArray]); (repeat (first | (refine walkF_skip ?_ ?_; (focus rfl); (try simp only [Act.put, List.setIfInBounds_toArray, List.set_cons_zero, List.set_cons_succ])) | (refine walkF_step (v := ?_) rfl ?_ ?_ ?_; rotate_left; (focus rfl); (focus (intro w' hS A hA K hK; (simp only [agrees, Op.operands, Call.operands, Act.eval, Array.getD_eq_getD_getElem?, List.getElem?_toArray, List.getElem?_cons_succ, List.getElem?_cons_zero, Option.getD_some, and_true, true_and, List.append_toArray, List.nil_append, List.cons_append, List.toList_toArray, Array.toList_append] at hA); (obtain ⟨hSc, hSf, hSs⟩ := hS.cells; go_simp; exact hK _ hS))); (try simp only [Act.put, List.setIfInBounds_toArray, List.set_cons_zero, List.set_cons_succ])))); refine walkF_nil ?_)
            intro w3 hw3
            go_wp2_with fail
            go_ret
            exact ⟨ret_int hn.out.symm, xE⟩
          have b1 : decide (x < y) = false := by simpa using h1
          by_cases h2 : y < x
          · have b2 : decide (y < x) = true := by simpa using h2
            have hn : Hid (cmpF f g = 1) := by show _ = _; rw [hE.out, hZ.out, hd.out, if_neg h1, if_pos h2]; rfl
            clear hd
            go_wp2_with fail
            (refine wp_region_calm (S := fun w' => Ext _ w') (by kernel_rfl) (by kernel_rfl) (Ext.rfl' _).drew' ?_; (try simp only [List.toList_toArray]); (repeat (first | (refine walkF_skip ?_ ?_; (focus rfl); (try simp only [Act.put, List.setIfInBounds_toArray, List.set_cons_zero, List.set_cons_succ])) | (refine walkF_step (v := ?_) rfl ?_ ?_ ?_; rotate_left; (focus rfl); (focus (intro w' hS A hA K hK; (simp only [agrees, Op.operands, Call.operands, Act.eval, Array.getD_eq_getD_getElem?, List.getElem?_toArray, List.getElem?_cons_succ, List.getElem?_cons_zero, Option.getD_some, and_true, true_and, List.append_toArray, List.nil_append, List.cons_append, List.toList_toArray, Array.toList_append] at hA); (obtain ⟨hSc, hSf, hSs⟩ := hS.cells; go_simp; exact hK _ hS))); (try simp only [Act.put, List.setIfInBounds_toArray, List.set_cons_zero, List.set_cons_succ])))); refine walkF_nil ?_)
            intro w3 hw3
            replace h0 := hw3.cell1 h0
            replace h0' := hw3.cell1 h0'
            replace hbl := cell_lt h0
            replace hbl' := cell_lt h0'
            go_wp2_with fail
            (refine wp_region_calm (S := fun w' => Ext _ w') (by kernel_rfl) (by kernel_rfl) (Ext.rfl' _).drew' ?_; (try simp only [List.toList_toArray]); (repeat (first | (refine walkF_skip ?_ ?_; (focus rfl); (try simp only [Act.put, List.setIfInBounds_toArray, List.set_cons_zero, List.set_cons_succ])) | (refine walkF_step (v := ?_) rfl ?_ ?_ ?_; rotate_left; (focus rfl); (focus (intro w' hS A hA K hK; (simp only [agrees, Op.operands, Call.operands, Act.eval, Array.getD_eq_getD_getElem?, List.getElem?_toArray, List.getElem?_cons_succ, List.getElem?_cons_zero, Option.getD_some, and_true, true_and, List.append_toArray, List.nil_append, List.cons_append, List.toList_toArray, Array.toList_append] at hA); (obtain ⟨hSc, hSf, hSs⟩ := hS.cells; go_simp; exact hK _ hS))); (try simp only [Act.put, List.setIfInBounds_toArray, List.set_cons_zero, List.set_cons_succ])))); refine walkF_nil ?_)
            intro w4 hw4
            go_wp2_with fail
            go_ret
            exact ⟨ret_int hn.out.symm, xE⟩
          · have b2 : decide (y < x) = false := by simpa using h2
            have hn : Hid (cmpZ X Y = cmpZ (X.drop (k + 1)) (Y.drop (k + 1))) := by show _ = _; rw [hZ.out, hd.out, if_neg h1, if_neg h2]
            clear hd
            go_wp2_with fail
            (refine wp_region_calm (S := fun w' => Ext _ w') (by kernel_rfl) (by kernel_rfl) (Ext.rfl' _).drew' ?_; (try simp only [List.toList_toArray]); (repeat (first | (refine walkF_skip ?_ ?_; (focus rfl); (try simp only [Act.put, List.setIfInBounds_toArray, List.set_cons_zero, List.set_cons_succ])) | (refine walkF_step (v := ?_) rfl ?_ ?_ ?_; rotate_left; (focus rfl); (focus (intro w' hS A hA K hK; (simp only [agrees, Op.operands, Call.operands, Act.eval, Array.getD_eq_getD_getElem?, List.getElem?_toArray, List.getElem?_cons_succ, List.getElem?_cons_zero, Option.getD_some, and_true, true_and, List.append_toArray, List.nil_append, List.cons_append, List.toList_toArray, Array.toList_append] at hA); (obtain ⟨hSc, hSf, hSs⟩ := hS.cells; go_simp; exact hK _ hS))); (try simp only [Act.put, List.setIfInBounds_toArray, List.set_cons_zero, List.set_cons_succ])))); refine walkF_nil ?_)
            intro w3 hw3
            replace h0 := hw3.cell1 h0
            replace h0' := hw3.cell1 h0'
            replace hbl := cell_lt h0
            replace hbl' := cell_lt h0'
            go_wp2_with fail
            (refine wp_region_calm (S := fun w' => Ext _ w') (by kernel_rfl) (by kernel_rfl) (Ext.rfl' _).drew' ?_; (try simp only [List.toList_toArray]); (repeat (first | (refine walkF_skip ?_ ?_; (focus rfl); (try simp only [Act.put, List.setIfInBounds_toArray, List.set_cons_zero, List.set_cons_succ])) | (refine walkF_step (v := ?_) rfl ?_ ?_ ?_; rotate_left; (focus rfl); (focus (intro w' hS A hA K hK; (simp only [agrees, Op.operands, Call.operands, Act.eval, Array.getD_eq_getD_getElem?, List.getElem?_toArray, List.getElem?_cons_succ, List.getElem?_cons_zero, Option.getD_some, and_true, true_and, List.append_toArray, List.nil_append, List.cons_append, List.toList_toArray, Array.toList_append] at hA); (obtain ⟨hSc, hSf, hSs⟩ := hS.cells; go_simp; exact hK _ hS))); (try simp only [Act.put, List.setIfInBounds_toArray, List.set_cons_zero, List.set_cons_succ])))); refine walkF_nil ?_)
            intro w4 hw4
            go_wp2_with fail
            go_roundw
            case rel => exact ⟨k + 1, by omega, by omega, by go_num, hn, xE⟩
            case measure => simp [intOf]; omega
        · have hZ0 : cmpZ X Y = 0 := by rw [hZ.out]; exact cmpZ_end (.inr (by omega))
          have := (hkids.out hZ0).2
          omega
      · have hZ0 : cmpZ X Y = 0 := by rw [hZ.out]; exact cmpZ_end (.inl (by omega))
        have hkk := (hkids.out hZ0).1
        have hE2 : Hid (cmpF f g = cmpFs f.kids g.kids) := by show _ = _; rw [hE.out, hZ0]; rfl
        replace hB1 := hB1.keep hxr
        replace hB2 := hB2.keep hxr
        replace hX := hX.then hxr
        clear hR1 hR2 hZ hE hZ0
        obtain ⟨kc, -⟩ := hB1.facts
        obtain ⟨lc, -⟩ := hB2.facts
        have hl2 := hB2.lt
        go_wp2_with fail
        go_loopw [8] (fun i wx => ∃ m : Nat, m ≤ f.kids.length ∧ i = .int .i64 m ∧ Hid (cmpF f g = cmpFs (f.kids.drop m) (g.kids.drop m)) ∧ Ext wr wx) (fun i _ => f.kids.length - (intOf i).toNat)
        case atStart => exact ⟨0, Nat.zero_le _, rfl, hE2, xE⟩
        case round =>
          obtain ⟨m, hm, rfl, hF, hxx⟩ := hrel
          replace hB1 := hB1.keep hxx
          replace hB2 := hB2.keep hxx
          replace hX := hX.then hxx
          clear kc lc hl2
          obtain ⟨kc, -⟩ := hB1.facts
          obtain ⟨lc, -⟩ := hB2.facts
          have hl2 := hB2.lt
          have hl1 := hB1.lt
          by_cases hlt : m < f.kids.length
          · have hlt2 : m < g.kids.length := by omega
            obtain ⟨b, o, p3, e3, p4, e4, rfl, h0, h1, h2, h3, hEa, hbl⟩ := FmsR.at (hk.mono mono_FmR hX.ple) m hlt
            obtain ⟨b', o', q3, f3, q4, f4, rfl, h0', h1', h2', h3', hEb, hbl'⟩ := FmsR.at (gk.mono mono_FmR hX.ple) m hlt2
            have k3 : _ = some (Value.slice (some ⟨b, o, none⟩) f.kids.length c4) := kc 3
            have l3 : _ = some (Value.slice (some ⟨b', o', none⟩) g.kids.length d4) := lc 3
            unfold fmC at hEa hEb
            have ha1 := Fm.kid_le (List.getElem_mem hlt)
            have ha2 := Fm.kid_le (List.getElem_mem hlt2)
            have hd := Lib.hid (cmpFs_drop hlt hlt2)
            have hc := Lib.hid (fun W (hW : Ext wr W) => HI.out _ (List.getElem_mem hlt) g.kids[m] _ _ W (mono_FmR _ _ _ _ (Ext.ple hW) hEa) (mono_FmR _ _ _ _ (Ext.ple hW) hEb) (by omega) (by omega))
            generalize cmpF f.kids[m] g.kids[m] = z at *
            generalize f.kids[m] = x at *
            generalize g.kids[m] = y at *
            clear hk gk hEa hEb kc lc HI
            have hlm : m < f.kids.length := hlt
            go_wp2_with fail
            (refine wp_region_I 12 (by kernel_rfl) (by kernel_rfl) ?_; simp only [List.toList_toArray, List.take_succ_cons, List.take_zero, List.drop_succ_cons, List.drop_zero])
            iterate 10 (refine wiA rfl (by simp) rfl ?_; (try simp only [List.nil_append, List.cons_append]))
            (refine walkI_is (u := ?_) rfl (by simp) rfl ?_ ?_; rotate_left; (focus (intro A w' hS hA K hK; (simp only [List.map_cons, List.map_nil, knows, Is, Op.operands, Call.operands, List.lookup_cons, List.lookup_nil, Nat.reduceBEq, Bool.false_eq_true, if_false, if_true, Act.eval, Array.getD_eq_getD_getElem?, List.getElem?_toArray, List.getElem?_cons_succ, List.getElem?_cons_zero, Option.getD_some, and_true, true_and, List.append_toArray, List.nil_append, List.cons_append, List.toList_toArray, Array.toList_append, Option.toArray, List.append_nil] at hA); first | (go_simp; refine RetV_at (hc.out _ xE) ?_; intro w5 hx5; exact hK _ hx5) | (obtain ⟨hSc, hSf, hSs⟩ := hS.cells; go_simp; exact hK _ xN))); (try simp only [List.nil_append, List.cons_append]))
            (refine wiA rfl (by simp) rfl ?_; (try simp only [List.nil_append, List.cons_append]))
            (refine walkI_nil ?_; simp only [List.nil_append, List.cons_append, fins, Is, forall_eq, Act.put, List.setIfInBounds_toArray, List.set_cons_zero, List.set_cons_succ])
            intro w6 hx6
            by_cases hz : z = 0
            · have b3 : (z == 0) = true := by simpa using hz
              have b4 : (z != 0) = false := by simpa using hz
              have hn : Hid (cmpF f g = cmpFs (f.kids.drop (m + 1)) (g.kids.drop (m + 1))) := by show _ = _; rw [hF.out, hd.out, if_neg (by simpa using hz)]
              clear hd hz
              go_wp2_with fail
              go_roundw
              case rel => exact ⟨m + 1, by omega, by go_num, hn, xE⟩
              case measure => simp [intOf]; omega
            · have b3 : (z == 0) = false := by simpa using hz
              have b4 : (z != 0) = true := by simpa using hz
              have hn : Hid (cmpF f g = z) := by show _ = _; rw [hF.out, hd.out, if_pos hz]
              clear hd
              go_wp2_with fail
              go_ret
              exact ⟨ret_int hn.out.symm, xE⟩
          · have hn : Hid (cmpF f g = 0) := by
              show _ = _
              rw [hF.out, List.drop_eq_nil_of_le (by omega)]
              rfl
            have k3 : _ = some (Value.slice a4 f.kids.length c4) := kc 3
            clear hk gk kc lc
            go_wp2_with fail
            go_ret
            exact ⟨ret_int hn.out.symm, xE⟩
theorem rsameB_c (f g : Fm) (cs ds : List Value) (w : World) (hr : FmR (ph w) cs f) (hq : FmR (ph w) ds g) (hb1 : f.bulk ≤ 400000) (hb2 : g.bulk ≤ 400000) :
    Calls Tryz.prog 24 #[.agg cs.toArray, .agg ds.toArray] w (RetV w (.bool (B (f = g)))) := by
  have hr' := hr
  have hq' := hq
  obtain ⟨a3, c3, a4, c4, rfl, -⟩ := hr.form
  obtain ⟨b3, d3, b4, d4, rfl, -⟩ := hq.form
  unfold fmC at *
  have h0 := Lib.hid (cmpF_0 f g)
  go_enter Tryz.func24, Tryz.ntmps24
  go_wp2_with fail
  refine RetV_at (rcmpB_c f g _ _ _ (mono_FmR _ _ _ _ (Ext.ple xE) hr') (mono_FmR _ _ _ _ (Ext.ple xE) hq') hb1 hb2) ?_
  intro w1 hx1
  generalize cmpF f g = z at *
  go_wp2_with fail
  go_ret
  refine ⟨ret_B ?_, xE⟩
  rw [← h0.out]; simp
end Go.Proofs.YtnpnjcaomakehaaGreat
namespace Go.Proofs.YtnpnjcaomakehaaGreat
open Go.RowKit Go.Shelf
theorem Mem.join {w W w2 : World} {H0 H3 H : PH} {L Li : List Chunk} (hN : Mem w H0 L H3 W) (hI : Mem W H3 Li H w2) : Mem w H0 (L ++ Li) H w2 := by
  have hw := hN.ex.size
  have get : ∀ {i : Nat} {c : Chunk}, (L ++ Li)[i]? = some c → (i < L.length ∧ L[i]? = some c) ∨ (L.length ≤ i ∧ Li[i - L.length]? = some c) := by
    intro i c h
    by_cases hi : i < L.length
    · rw [List.getElem?_append_left hi] at h; exact .inl ⟨hi, h⟩
    · rw [List.getElem?_append_right (by omega)] at h; exact .inr ⟨by omega, h⟩
  refine ⟨hN.l0, hN.le.trans hI.le, hI.ub.trans ((up_mono hN.ub).trans (up_up hN.ex hI.ex)), hN.ex.then hI.ex, fun i c hi => ?_, fun i c hi k hk => ?_, fun i j c d hij hi hj k hk hk' => ?_⟩
  · rcases get hi with ⟨-, h⟩ | ⟨-, h⟩
    · exact c.mono (c.loc (hN.ok _ c h) fun k hk => hI.ex.block k (hN.lt h hk)) hI.le
    · exact hI.ok _ c h
  · rcases get hi with ⟨-, h⟩ | ⟨-, h⟩
    · refine ⟨(hN.fr _ c h k hk).1, ?_⟩
      cases hx : H k with
      | none => rfl
      | some o =>
        have h1 := hI.ub k o hx
        unfold Proofs.YtnpnjcaomakehaaGreat.up at h1
        rw [if_pos (hN.lt h hk), (hN.fr _ c h k hk).2] at h1
        cases h1
    · have := hI.fr _ c h k hk
      exact ⟨by omega, this.2⟩
  · rcases get hi with ⟨g1, h1⟩ | ⟨g1, h1⟩ <;> rcases get hj with ⟨g2, h2⟩ | ⟨g2, h2⟩
    · exact hN.ap i j c d hij h1 h2 k hk hk'
    · have := hN.lt h1 hk; have := (hI.fr _ d h2 k hk').1; omega
    · have := (hI.fr _ c h1 k hk).1; have := hN.lt h2 hk'; omega
    · exact hI.ap _ _ c d (by omega) h1 h2 k hk hk'
set_option maxRecDepth 100000 in
theorem rcencode_c (v : Value) (l : List Cl) (w : World) (hr : ClsR (ph w) v l) (hs : ∀ c ∈ l, c.body.bulk ≤ 40000 ∧ c.refs.length ≤ 1000) : Calls Tryz.prog 8 #[v] w (EncCQ w l) := by
  have hval := rcvalid_c v l w hr (fun c hc => by have := (hs c hc).1; omega)
  have hby := fun W (e : Ext w W) (h : l.length ≤ 100) => rcbytes_c v l W (hr.mono mono_ClR e.ple) h hs
  obtain ⟨a, c, rfl, -, hr⟩ := hr.form
  replace hby := Lib.hid hby
  go_enter Tryz.func8, Tryz.ntmps8
  go_wp2_with fail
  refine RetV_at hval ?_
  intro w1 hx
  by_cases hv : validC l = 0
  · have b0 : (validC l != 0) = false := by simp [hv]
    have hE : Hid (encC l = bytesC l) := Lib.hid (by unfold encC; rw [if_pos hv])
    have hl := validC_len hv
    rw [hv] at b0 ⊢
    clear hval
    go_wp2_with fail
    refine (hby.out w1 hx (by omega)).mono ?_
    rintro e w2 ⟨v, rfl, hO, hx2⟩
    have hsz := hx.size
    go_wp2_with fail
    exact bodyPost_ret (v := .tuple #[v, .int .i64 0]) (by simp [results, Tryz.results8, go_sem]) rfl ⟨v, by rw [hv], by rw [hE.out]; exact hO.base hsz, hx.then hx2⟩
  · have b0 : (validC l != 0) = true := by simpa using hv
    have hE : Hid (encC l = []) := Lib.hid (by unfold encC; rw [if_neg hv])
    go_wp2_with fail
    exact bodyPost_ret (v := .tuple #[.slice none 0 0, .int .i64 (validC l)]) (by simp [results, Tryz.results8, go_sem]) rfl ⟨.slice none 0 0, rfl, by rw [hE.out]; exact .inl ⟨rfl, rfl⟩, hx⟩
end Go.Proofs.YtnpnjcaomakehaaGreat
namespace Go.Proofs.YtnpnjcaomakehaaGreat
open Go.RowKit
set_option maxHeartbeats 400000 in
theorem sameInts_c (va vb : Value) (l m : List Int) (w : World) (ha : IntsR (ph w) va l) (hb : IntsR (ph w) vb m) :
    Calls Tryz.prog 42 #[va, vb] w (RetV w (.bool (B (l = m)))) := by
  obtain ⟨a, c, rfl, hlen, ha⟩ := ha.form
  obtain ⟨a', c', rfl, hlen', hb⟩ := hb.form
  by_cases hl : l.length = m.length
  · have HL := Lib.hid hl
    have hlb : ((l.length : Int) == (m.length : Int)) = true := by simp [hl]
    clear hl
    go_enter Tryz.func42, Tryz.ntmps42
    go_wp2_with fail
    go_loopw [5] (fun i wr => ∃ k : Nat, k ≤ l.length ∧ i = .int .i64 k ∧ Hid (l.take k = m.take k) ∧ Ext w wr) (fun i _ => l.length - (intOf i).toNat)
    case atStart => exact ⟨0, Nat.zero_le _, rfl, Lib.hid (by simp), xE⟩
    case round =>
      obtain ⟨k, hk, rfl, ht, hx⟩ := hrel
      by_cases hlt : k < l.length
      · have hlm : k < m.length := by have := HL.out; omega
        obtain ⟨b, o, rfl, h0, i0, hbl⟩ := IntsR.at (ha.mono mono_IntR hx.ple) k hlt
        obtain ⟨b', o', rfl, h0', i0', hbl'⟩ := IntsR.at (hb.mono mono_IntR hx.ple) k hlm
        generalize hx1 : l[k] = x at *
        generalize hx2 : m[k] = y at *
        replace hx1 := Lib.hid hx1
        replace hx2 := Lib.hid hx2
        clear ha hb
        go_wp2_with fail
        (refine wp_region_calm (S := fun w' => Ext _ w') (by kernel_rfl) (by kernel_rfl) (Ext.rfl' _).drew' ?_; (try simp only [List.toList_toArray]); (repeat (first | (refine walkF_skip ?_ ?_; (focus rfl); (try simp only [Act.put, List.setIfInBounds_toArray, List.set_cons_zero, List.set_cons_succ])) | (refine walkF_step (v := ?_) rfl ?_ ?_ ?_; rotate_left; (focus rfl); (focus (intro w' hS A hA K hK; (simp only [agrees, Op.operands, Call.operands, Act.eval, Array.getD_eq_getD_getElem?, List.getElem?_toArray, List.getElem?_cons_succ, List.getElem?_cons_zero, Option.getD_some, and_true, true_and, List.append_toArray, List.nil_append, List.cons_append, List.toList_toArray, Array.toList_append] at hA); (obtain ⟨hSc, hSf, hSs⟩ := hS.cells; go_simp; exact hK _ hS))); (try simp only [Act.put, List.setIfInBounds_toArray, List.set_cons_zero, List.set_cons_succ])))); refine walkF_nil ?_)
        intro w2 hw2
        by_cases hxy : x = y
        · subst hxy
          go_wp2_with fail
          all_goals first
            | (exfalso; simp_all; done)
            | (go_roundw
               case rel => exact ⟨k + 1, by omega, by go_num, Lib.hid (by rw [take_snoc l k hlt, take_snoc m k hlm, ht.out, hx1.out, hx2.out]), xE⟩
               case measure => simp [intOf]; omega)
        · have hn : (x == y) = false := by
            rw [beq_eq_false_iff_ne]; exact hxy
          have hn2 : (x != y) = true := by rw [bne_iff_ne]; exact hxy
          replace hxy := Lib.hid hxy
          go_wp2_with fail
          all_goals first
            | (exfalso; simp_all; done)
            | (go_ret
               refine ⟨ret_f (fun h => ?_), xE⟩
               subst h
               exact hxy.out (hx1.out.symm.trans hx2.out))
      · have hkl : k = l.length := by omega
        clear ha hb
        go_wp2_with fail
        go_ret
        refine ⟨ret_t ?_, xE⟩
        have h1 := ht.out
        rw [List.take_of_length_le (by omega), List.take_of_length_le (by have := HL.out; omega)] at h1
        exact h1
  · have HL : Hid (¬ l = m) := fun h => hl (by rw [h])
    have hlb : ((l.length : Int) == (m.length : Int)) = false := by rw [beq_eq_false_iff_ne]; omega
    clear hl
    go_enter Tryz.func42, Tryz.ntmps42
    go_wp2_with fail
    go_ret
    exact ⟨ret_f HL.out, xE⟩
end Go.Proofs.YtnpnjcaomakehaaGreat
namespace Go.Proofs.YtnpnjcaomakehaaGreat
open Go.RowKit Go.Shelf
set_option maxRecDepth 100000 in
set_option maxHeartbeats 8000000 in
theorem csame_c (va vb : Value) (l m : List Cl) (w : World) (ha : ClsR (ph w) va l) (hb : ClsR (ph w) vb m) (h1 : ∀ c ∈ l, c.body.bulk ≤ 400000) (h2 : ∀ c ∈ m, c.body.bulk ≤ 400000) :
    Calls Tryz.prog 12 #[va, vb] w (RetV w (.bool (B (l = m)))) := by
  obtain ⟨a, c, rfl, hlen, ha⟩ := ha.form
  obtain ⟨a', c', rfl, hlen', hb⟩ := hb.form
  by_cases hl : l.length = m.length
  · have HL := Lib.hid hl
    have hlb : ((l.length : Int) != (m.length : Int)) = false := by simp [hl]
    clear hl
    go_enter Tryz.func12, Tryz.ntmps12
    go_wp2_with fail
    go_loopw [5] (fun i wr => ∃ k : Nat, k ≤ l.length ∧ i = .int .i64 k ∧ Hid (l.take k = m.take k) ∧ Ext w wr) (fun i _ => l.length - (intOf i).toNat)
    case atStart => exact ⟨0, Nat.zero_le _, rfl, Lib.hid (by simp), xE⟩
    case round =>
      obtain ⟨k, hk, rfl, ht, hx⟩ := hrel
      by_cases hlt : k < l.length
      · have hja : decide (k < l.length) = true := decide_eq_true hlt
        have hlm : k < m.length := by have := HL.out; omega
        obtain ⟨b, o, a1, c1, a3, c3, a4, c4, rfl, z0, z1, z2, z3, z4, zl, -, hIR, hF⟩ := ClsR.atH ha hx.ple k hlt
        obtain ⟨b', o', a1', c1', a3', c3', a4', c4', rfl, z0', z1', z2', z3', z4', zl', -, hIR', hF'⟩ := ClsR.atH hb hx.ple k hlm
        have q1 := h1 _ (List.getElem_mem hlt)
        have q2 := h2 _ (List.getElem_mem hlm)
        have hnx : Hid (l[k] = m[k] → l.take (k + 1) = m.take (k + 1)) := fun e => by rw [take_snoc l k hlt, take_snoc m k hlm, ht.out, e]
        have hne : Hid (l = m → l[k] = m[k]) := fun e => by subst e; rfl
        generalize l[k] = x at *
        generalize m[k] = y at *
        have hSI := Lib.hid (fun W (e : Ext wr W) => sameInts_c _ _ x.refs y.refs W ((hIR.mono mono_IntR hx.ple).mono mono_IntR e.ple) ((hIR'.mono mono_IntR hx.ple).mono mono_IntR e.ple))
        have hSF := Lib.hid (fun W (e : Ext wr W) => rsameB_c x.body y.body _ _ W (mono_FmR _ _ _ _ (hx.then e).ple hF) (mono_FmR _ _ _ _ (hx.then e).ple hF') q1 q2)
        unfold fmC at hSF
        clear ha hb hIR hIR' hF hF'
        by_cases hrr : x.refs = y.refs
        · rw [show B (x.refs = y.refs) = true from B_iff.2 hrr] at hSI
          replace hrr := Lib.hid hrr
          by_cases hbb : x.body = y.body
          · rw [show B (x.body = y.body) = true from B_iff.2 hbb] at hSF
            have hxy : Hid (x = y) := by
              show _ = _
              have := hrr.out
              obtain ⟨p, q⟩ := x; obtain ⟨p', q'⟩ := y
              simp only at *; rw [this, hbb]
            replace hbb := Lib.hid hbb
            go_wp2_with fail
            (refine wp_region_I 26 (by kernel_rfl) (by kernel_rfl) ?_; simp only [List.toList_toArray, List.take_succ_cons, List.take_zero, List.drop_succ_cons, List.drop_zero])
            iterate 10 (refine wiA rfl (by simp) rfl ?_; (try simp only [List.nil_append, List.cons_append]))
            (refine walkI_is (u := ?_) rfl (by simp) rfl ?_ ?_; rotate_left; (focus (intro A w' hS hA K hK; (simp only [List.map_cons, List.map_nil, knows, Is, Op.operands, Call.operands, List.lookup_cons, List.lookup_nil, Nat.reduceBEq, Bool.false_eq_true, if_false, if_true, Act.eval, Array.getD_eq_getD_getElem?, List.getElem?_toArray, List.getElem?_cons_succ, List.getElem?_cons_zero, Option.getD_some, and_true, true_and, List.append_toArray, List.nil_append, List.cons_append, List.toList_toArray, Array.toList_append, Option.toArray, List.append_nil] at hA); first | (go_simp; refine (hSI.out _ hS).mono ?_; rintro e w6 ⟨rfl, hx6⟩; exact hK _ hx6) | (obtain ⟨hSc, hSf, hSs⟩ := hS.cells; go_simp; exact hK _ xN))); (try simp only [List.nil_append, List.cons_append]))
            iterate 2 (refine wiA rfl (by simp) rfl ?_; (try simp only [List.nil_append, List.cons_append]))
            iterate 10 (refine wyA rfl (by simp) rfl rfl rfl ?_; (try simp only [List.nil_append, List.cons_append]))
            (refine walkI_yesis (u := ?_) rfl (by simp) rfl rfl rfl ?_ ?_; rotate_left; (focus (intro A w' hS hA K hK; (simp only [List.map_cons, List.map_nil, knows, Is, Op.operands, Call.operands, List.lookup_cons, List.lookup_nil, Nat.reduceBEq, Bool.false_eq_true, if_false, if_true, Act.eval, Array.getD_eq_getD_getElem?, List.getElem?_toArray, List.getElem?_cons_succ, List.getElem?_cons_zero, Option.getD_some, and_true, true_and, List.append_toArray, List.nil_append, List.cons_append, List.toList_toArray, Array.toList_append, Option.toArray, List.append_nil] at hA); first | (go_simp; refine (hSF.out _ hS).mono ?_; rintro e w6 ⟨rfl, hx6⟩; exact hK _ hx6) | (obtain ⟨hSc, hSf, hSs⟩ := hS.cells; go_simp; exact hK _ xN))); (try simp only [List.nil_append, List.cons_append]))
            (refine wyA rfl (by simp) rfl rfl rfl ?_; (try simp only [List.nil_append, List.cons_append]))
            (refine wiA rfl (by simp) rfl ?_; (try simp only [List.nil_append, List.cons_append]))
            (refine walkI_nil ?_; simp only [List.nil_append, List.cons_append, fins, Is, forall_eq, Act.put, List.setIfInBounds_toArray, List.set_cons_zero, List.set_cons_succ])
            intro w5 hx5
            go_wp2_with fail
            go_roundw
            case rel => exact ⟨k + 1, by omega, by go_num, Lib.hid (hnx.out hxy.out), hx.then hx5⟩
            case measure => simp [intOf]; omega
          · rw [show B (x.body = y.body) = false from B_f hbb] at hSF
            have hxy : Hid (l ≠ m) := fun e => hbb (by rw [hne.out e])
            replace hbb := Lib.hid hbb
            go_wp2_with fail
            (refine wp_region_I 26 (by kernel_rfl) (by kernel_rfl) ?_; simp only [List.toList_toArray, List.take_succ_cons, List.take_zero, List.drop_succ_cons, List.drop_zero])
            iterate 10 (refine wiA rfl (by simp) rfl ?_; (try simp only [List.nil_append, List.cons_append]))
            (refine walkI_is (u := ?_) rfl (by simp) rfl ?_ ?_; rotate_left; (focus (intro A w' hS hA K hK; (simp only [List.map_cons, List.map_nil, knows, Is, Op.operands, Call.operands, List.lookup_cons, List.lookup_nil, Nat.reduceBEq, Bool.false_eq_true, if_false, if_true, Act.eval, Array.getD_eq_getD_getElem?, List.getElem?_toArray, List.getElem?_cons_succ, List.getElem?_cons_zero, Option.getD_some, and_true, true_and, List.append_toArray, List.nil_append, List.cons_append, List.toList_toArray, Array.toList_append, Option.toArray, List.append_nil] at hA); first | (go_simp; refine (hSI.out _ hS).mono ?_; rintro e w6 ⟨rfl, hx6⟩; exact hK _ hx6) | (obtain ⟨hSc, hSf, hSs⟩ := hS.cells; go_simp; exact hK _ xN))); (try simp only [List.nil_append, List.cons_append]))
            iterate 2 (refine wiA rfl (by simp) rfl ?_; (try simp only [List.nil_append, List.cons_append]))
            iterate 10 (refine wyA rfl (by simp) rfl rfl rfl ?_; (try simp only [List.nil_append, List.cons_append]))
            (refine walkI_yesis (u := ?_) rfl (by simp) rfl rfl rfl ?_ ?_; rotate_left; (focus (intro A w' hS hA K hK; (simp only [List.map_cons, List.map_nil, knows, Is, Op.operands, Call.operands, List.lookup_cons, List.lookup_nil, Nat.reduceBEq, Bool.false_eq_true, if_false, if_true, Act.eval, Array.getD_eq_getD_getElem?, List.getElem?_toArray, List.getElem?_cons_succ, List.getElem?_cons_zero, Option.getD_some, and_true, true_and, List.append_toArray, List.nil_append, List.cons_append, List.toList_toArray, Array.toList_append, Option.toArray, List.append_nil] at hA); first | (go_simp; refine (hSF.out _ hS).mono ?_; rintro e w6 ⟨rfl, hx6⟩; exact hK _ hx6) | (obtain ⟨hSc, hSf, hSs⟩ := hS.cells; go_simp; exact hK _ xN))); (try simp only [List.nil_append, List.cons_append]))
            (refine wyA rfl (by simp) rfl rfl rfl ?_; (try simp only [List.nil_append, List.cons_append]))
            (refine wiA rfl (by simp) rfl ?_; (try simp only [List.nil_append, List.cons_append]))
            (refine walkI_nil ?_; simp only [List.nil_append, List.cons_append, fins, Is, forall_eq, Act.put, List.setIfInBounds_toArray, List.set_cons_zero, List.set_cons_succ])
            intro w5 hx5
            go_wp2_with fail
            go_ret
            exact ⟨ret_f hxy.out, xE⟩
        · rw [show B (x.refs = y.refs) = false from B_f hrr] at hSI
          have hxy : Hid (l ≠ m) := fun e => hrr (by rw [hne.out e])
          replace hrr := Lib.hid hrr
          go_wp2_with fail
          (refine wp_region_I 26 (by kernel_rfl) (by kernel_rfl) ?_; simp only [List.toList_toArray, List.take_succ_cons, List.take_zero, List.drop_succ_cons, List.drop_zero])
          iterate 10 (refine wiA rfl (by simp) rfl ?_; (try simp only [List.nil_append, List.cons_append]))
          (refine walkI_is (u := ?_) rfl (by simp) rfl ?_ ?_; rotate_left; (focus (intro A w' hS hA K hK; (simp only [List.map_cons, List.map_nil, knows, Is, Op.operands, Call.operands, List.lookup_cons, List.lookup_nil, Nat.reduceBEq, Bool.false_eq_true, if_false, if_true, Act.eval, Array.getD_eq_getD_getElem?, List.getElem?_toArray, List.getElem?_cons_succ, List.getElem?_cons_zero, Option.getD_some, and_true, true_and, List.append_toArray, List.nil_append, List.cons_append, List.toList_toArray, Array.toList_append, Option.toArray, List.append_nil] at hA); first | (go_simp; refine (hSI.out _ hS).mono ?_; rintro e w6 ⟨rfl, hx6⟩; exact hK _ hx6) | (obtain ⟨hSc, hSf, hSs⟩ := hS.cells; go_simp; exact hK _ xN))); (try simp only [List.nil_append, List.cons_append]))
          iterate 2 (refine wiA rfl (by simp) rfl ?_; (try simp only [List.nil_append, List.cons_append]))
          iterate 12 (refine walkI_no rfl (by simp) rfl rfl rfl ?_ ?_; (focus (simp [undef]; done)); (try simp only [List.nil_append, List.cons_append]))
          (refine wiA rfl (by simp) rfl ?_; (try simp only [List.nil_append, List.cons_append]))
          (refine walkI_nil ?_; simp only [List.nil_append, List.cons_append, fins, Is, forall_eq, Act.put, List.setIfInBounds_toArray, List.set_cons_zero, List.set_cons_succ])
          intro w5 hx5
          go_wp2_with fail
          go_ret
          exact ⟨ret_f hxy.out, xE⟩
      · have hkl : k = l.length := by omega
        subst hkl
        have hja : decide (l.length < l.length) = false := by simp
        clear ha hb
        go_wp2_with fail
        go_ret
        refine ⟨ret_t ?_, xE⟩
        have h1 := ht.out
        rw [List.take_of_length_le (by omega), List.take_of_length_le (by have := HL.out; omega)] at h1
        exact h1
  · have HL : Hid (¬ l = m) := fun h => hl (by rw [h])
    have hlb : ((l.length : Int) != (m.length : Int)) = true := by rw [bne_iff_ne]; omega
    clear hl
    go_enter Tryz.func12, Tryz.ntmps12
    go_wp2_with fail
    go_ret
    exact ⟨ret_f HL.out, xE⟩
def itvOf (l : List Int) : Itv := ⟨⟨l.getD 0 0, l.getD 1 0⟩, ⟨l.getD 2 0, l.getD 3 0⟩, l.getD 4 0 == 1, l.getD 5 0 == 1, l.getD 6 0 == 1, l.getD 7 0 == 1⟩
theorem size_snoc (l : List Fm) (x : Fm) : sumN Fm.size (l ++ [x]) = sumN Fm.size l + x.size := by
  induction l with
  | nil => simp [sumN]
  | cons y l ih => simp only [List.cons_append, sumN, ih]; omega
theorem itvOf_N (x : Itv) : itvOf (itvN x) = x := by
  obtain ⟨⟨a, b⟩, ⟨c, d⟩, p, q, r, s⟩ := x
  cases p <;> cases q <;> cases r <;> cases s <;> rfl
structure HypR (s : RS) (L : Int) (f : Fm) (rest : List UInt8) : Prop where
  i : FmI f
  sets : SetsR f
  room : (f.size : Int) ≤ L
  st : s = some (bytesF f ++ rest)
def T4 (f : Fm) (rest : List UInt8) : List UInt8 := encI f.kids.length ++ (bytesFs f.kids ++ rest)
def T3 (f : Fm) (rest : List UInt8) (i : Nat) : List UInt8 := (f.inn.drop i).flatMap itvE ++ T4 f rest
def T2 (f : Fm) (rest : List UInt8) : List UInt8 := encI f.inn.length ++ T3 f rest 0
def T1 (f : Fm) (rest : List UInt8) : List UInt8 := encI f.n ++ T2 f rest
def T5 (f : Fm) (rest : List UInt8) (i : Nat) : List UInt8 := bytesFs (f.kids.drop i) ++ rest
section
variable {s : RS} {L : Int} {f : Fm} {rest : List UInt8}
theorem i64_len {n : Nat} (h : n ≤ 9223372036854775807) : I64 (n : Int) := by unfold I64; omega
theorem HypR.op (h : HypR s L f rest) : intS s = (f.op, some (T1 f rest)) := by
  rw [h.st]
  refine intS_some.2 ⟨?_, h.i.node.1⟩
  rw [bytesF_eq]
  simp only [T1, T2, T3, T4, List.drop_zero, List.append_assoc]
theorem HypR.n (h : HypR s L f rest) : intS (some (T1 f rest)) = (f.n, some (T2 f rest)) := intS_some.2 ⟨rfl, h.i.node.2.1⟩
theorem HypR.len (h : HypR s L f rest) : intS (some (T2 f rest)) = ((f.inn.length : Int), some (T3 f rest 0)) := intS_some.2 ⟨rfl, i64_len h.i.node.2.2.2.1⟩
theorem HypR.itv (h : HypR s L f rest) {i : Nat} (hi : i < f.inn.length) : listS intS (some (T3 f rest i)) = (itvN f.inn[i], some (T3 f rest (i + 1))) := by
  refine listI_some.2 ⟨?_, itvN_I (h.i.node.2.2.1 _ (List.getElem_mem hi)), by simp [itvN]⟩
  unfold T3
  rw [List.drop_eq_getElem_cons hi, List.flatMap_cons, List.append_assoc]
  rfl
theorem HypR.end3 : T3 f rest f.inn.length = T4 f rest := by unfold T3; rw [List.drop_length]; rfl
theorem HypR.kids (h : HypR s L f rest) : intS (some (T4 f rest)) = ((f.kids.length : Int), some (T5 f rest 0)) := by
  refine intS_some.2 ⟨?_, i64_len h.i.node.2.2.2.2⟩
  unfold T4 T5; rw [List.drop_zero]
theorem HypR.size (h : HypR s L f rest) : 1 + (sumN Fm.size f.kids : Int) ≤ L := by
  have := h.room
  rw [Fm.size_eq] at this; omega
theorem HypR.kid (h : HypR s L f rest) {i : Nat} (hi : i < f.kids.length) : HypR (some (T5 f rest i)) (L - 1 - (sumN Fm.size (f.kids.take i) : Nat)) f.kids[i] (T5 f rest (i + 1)) := by
  refine ⟨h.i.kid (List.getElem_mem hi), h.sets.kid (List.getElem_mem hi), ?_, ?_⟩
  · have h1 := h.size
    have h2 : sumN Fm.size (f.kids.take (i + 1)) = sumN Fm.size (f.kids.take i) + f.kids[i].size := by rw [List.take_succ_eq_append_getElem hi, size_snoc]
    have h3 := sumN_take_le Fm.size f.kids (i + 1)
    omega
  · unfold T5
    rw [List.drop_eq_getElem_cons hi, bytesFs, List.append_assoc]
theorem HypR.end5 : T5 f rest f.kids.length = rest := by unfold T5; rw [List.drop_length]; rfl
theorem HypR.num (h : HypR s L f rest) : (f.kids.length : Int) ≤ L - 1 := by
  have h1 := h.size
  have h2 := length_le_sumN Fm.size f.kids fun x _ => x.size_pos
  omega
end
def RdF (s : RS) (L : Int) (f : Fm) (s' : RS) (L' : Int) : Prop :=
  -1 ≤ L' ∧ (f.size : Int) ≤ L - L' ∧ f.bulk ≤ 33 * f.size ∧ ∀ f0 rest, HypR s L f0 rest → f = f0 ∧ s' = some rest ∧ L' = L - f0.size
def InF (s : RS) (L : Int) (op n : Int) (m : Int) (out : List Itv) (si : RS) : Prop :=
  ∀ f0 rest, HypR s L f0 rest → op = f0.op ∧ n = f0.n ∧ m = f0.inn.length ∧ out = f0.inn.take out.length ∧ out.length ≤ f0.inn.length ∧ si = some (T3 f0 rest out.length)
def KdF (s : RS) (L : Int) (op n : Int) (inn : List Itv) (k : Int) (out : List Fm) (si : RS) (Li : Int) : Prop :=
  ∀ f0 rest, HypR s L f0 rest → op = f0.op ∧ n = f0.n ∧ inn = f0.inn ∧ k = f0.kids.length ∧ out = f0.kids.take out.length ∧ out.length ≤ f0.kids.length ∧ si = some (T5 f0 rest out.length) ∧ Li = L - 1 - (sumN Fm.size out : Nat)
section
variable {s si : RS} {L op n m k : Int}
theorem InF.start {s : RS} : InF s L (intS s).1 (intS (intS s).2).1 (intS (intS (intS s).2).2).1 [] (intS (intS (intS s).2).2).2 := by
  intro f0 rest h
  rw [h.op, h.n, h.len]
  exact ⟨rfl, rfl, rfl, by simp, Nat.zero_le _, rfl⟩
theorem InF.step {out : List Itv} (h : InF s L op n m out si) (hm : (out.length : Int) < m) : InF s L op n m (out ++ [itvOf (listS intS si).1]) (listS intS si).2 := by
  intro f0 rest hh
  obtain ⟨h1, h2, h3, h4, h5, h6⟩ := h f0 rest hh
  have hl : out.length < f0.inn.length := by omega
  have h7 := hh.itv hl
  rw [← h6] at h7
  rw [h7, List.length_append, List.length_singleton]
  refine ⟨h1, h2, h3, ?_, hl, rfl⟩
  rw [List.take_succ_eq_append_getElem hl, ← h4, itvOf_N]
theorem InF.no8 {out : List Itv} (h : InF s L op n m out si) (hm : (out.length : Int) < m) (h8 : (listS intS si).1.length ≠ 8) : ∀ f0 rest, ¬ HypR s L f0 rest := by
  intro f0 rest hh
  obtain ⟨h1, h2, h3, h4, h5, h6⟩ := h f0 rest hh
  have hl : out.length < f0.inn.length := by omega
  have h7 := hh.itv hl
  rw [← h6] at h7
  rw [h7] at h8
  exact h8 rfl
theorem InF.done {out : List Itv} (h : InF s L op n m out si) (hd : ¬ ((out.length : Int) < m ∧ m ≤ 32 ∧ 0 ≤ L - 1)) : KdF s L op n out (intS si).1 [] (intS si).2 (L - 1) ∧ ∀ f0 rest, HypR s L f0 rest → m = out.length ∧ 0 ≤ (intS si).1 ∧ (intS si).1 ≤ L - 1 := by
  have hx : ∀ f0 rest, HypR s L f0 rest → op = f0.op ∧ n = f0.n ∧ m = f0.inn.length ∧ out = f0.inn ∧ intS si = ((f0.kids.length : Int), some (T5 f0 rest 0)) := by
    intro f0 rest hh
    obtain ⟨h1, h2, h3, h4, h5, h6⟩ := h f0 rest hh
    have h7 := hh.sets.self
    have h8 := hh.size
    have h9 : out.length = f0.inn.length := by omega
    rw [h9] at h4 h6
    rw [List.take_length] at h4
    rw [HypR.end3] at h6
    exact ⟨h1, h2, h3, h4, by rw [h6]; exact hh.kids⟩
  refine ⟨fun f0 rest hh => ?_, fun f0 rest hh => ?_⟩
  · obtain ⟨h1, h2, h3, h4, h5⟩ := hx f0 rest hh
    rw [h5]
    exact ⟨h1, h2, h4, rfl, by simp, Nat.zero_le _, rfl, by simp [sumN]⟩
  · obtain ⟨h1, h2, h3, h4, h5⟩ := hx f0 rest hh
    have h6 := hh.num
    rw [h5, h3, h4]
    exact ⟨rfl, by simp, h6⟩
theorem KdF.step {inn : List Itv} {out : List Fm} {Li Lj : Int} {sj : RS} {g : Fm} (h : KdF s L op n inn k out si Li) (hk : (out.length : Int) < k) (hr : RdF si Li g sj Lj) : KdF s L op n inn k (out ++ [g]) sj Lj := by
  intro f0 rest hh
  obtain ⟨h1, h2, h3, h4, h5, h6, h7, h8⟩ := h f0 rest hh
  have hl : out.length < f0.kids.length := by omega
  have h9 := hh.kid hl
  rw [← h5, ← h7, ← h8] at h9
  obtain ⟨g1, g2, g3⟩ := hr.2.2.2 _ _ h9
  rw [List.length_append, List.length_singleton]
  refine ⟨h1, h2, h3, h4, ?_, hl, g2, ?_⟩
  · rw [List.take_succ_eq_append_getElem hl, ← h5, g1]
  · rw [g3, h8, g1, size_snoc]; omega
theorem KdF.done {inn : List Itv} {out : List Fm} {Li : Int} (h : KdF s L op n inn k out si Li) (hd : ¬ ((out.length : Int) < k ∧ 0 ≤ Li)) : ∀ f0 rest, HypR s L f0 rest → Fm.mk op n inn out = f0 ∧ si = some rest ∧ Li = L - f0.size := by
  intro f0 rest hh
  obtain ⟨h1, h2, h3, h4, h5, h6, h7, h8⟩ := h f0 rest hh
  have h9 := hh.size
  have ha := sumN_take_le Fm.size f0.kids out.length
  rw [← h5] at ha
  have hb : out.length = f0.kids.length := by omega
  rw [hb] at h5 h7
  rw [List.take_length] at h5
  rw [HypR.end5] at h7
  refine ⟨by rw [h1, h2, h3, h5]; exact f0.eta.symm, h7, ?_⟩
  rw [h8, h5, f0.size_eq]; omega
end
end Go.Proofs.YtnpnjcaomakehaaGreat
namespace Go.Proofs.YtnpnjcaomakehaaGreat
open Go.RowKit
structure ExtN (n : Nat) (w w' : World) : Prop where
  os : w'.os = w.os
  tape : w'.tape = w.tape
  output : w'.output = w.output
  size : w.heap.size ≤ w'.heap.size
  block : ∀ k, n ≤ k → k < w.heap.size → w'.heap[k]? = w.heap[k]?
theorem MemX.foreign {n : Nat} {L : List Chunk} {H : PH} {w w' : World} (h : MemX n L H w) (e : ExtN n w w') : MemX n L H w' := by
  obtain ⟨w0, rfl, hM⟩ := h
  have hs := hM.ex.size
  have hs2 := e.size
  have hz : (w'.heap.extract 0 w0.heap.size).size = w0.heap.size := by simp; omega
  refine ⟨{ w0 with heap := w'.heap.extract 0 w0.heap.size }, hz, ?_⟩
  have hHg : ∀ k o, H k = some o → w0.heap.size ≤ k := by
    intro k o hk
    have := hM.ub k o hk
    unfold up at this
    split at this
    · cases this
    · omega
  have hex : Ext { w0 with heap := w'.heap.extract 0 w0.heap.size } w' := by
    refine ⟨e.os.trans hM.ex.os, e.tape.trans hM.ex.tape, e.output.trans hM.ex.output, by rw [hz]; omega, fun k hk => ?_⟩
    have hk' : k < w0.heap.size := by rw [hz] at hk; exact hk
    show w'.heap[k]? = (w'.heap.extract 0 w0.heap.size)[k]?
    rw [Array.getElem?_extract]; simp; omega
  refine ⟨noH_le _, hM.le, fun k o hk => ?_, hex, fun i c hi => c.loc (hM.ok i c hi) fun k hk => e.block k (hM.fr i c hi k hk).1 (hM.lt hi hk), fun i c hi k hk => ⟨by rw [hz]; exact (hM.fr i c hi k hk).1, (hM.fr i c hi k hk).2⟩, hM.ap⟩
  have h1 := hM.ub k o hk
  have h2 := hHg k o hk
  unfold up at h1 ⊢
  rw [if_neg (by omega)] at h1
  rw [if_neg (by rw [hz]; omega)]
  show w'.heap[k]? = some o
  rw [e.block k h2 (ph_lt h1)]; exact h1
theorem MemX.joinN {n : Nat} {L : List Chunk} {H H' : PH} {w w' : World} (h : MemX n L H w) (e : ExtN n w w') (hl : PLe H' (up noH w w')) : ∃ H2, PLe H H2 ∧ PLe H' H2 ∧ MemX n L H2 w' := by
  have h1 := h.foreign e
  obtain ⟨w0, hn, hM⟩ := h
  obtain ⟨w1, hn1, hM1⟩ := h1
  have hge : ∀ k o, H' k = some o → w.heap.size ≤ k := by
    intro k o hk
    have := hl k o hk
    unfold up at this
    split at this
    · cases this
    · omega
  have g1 : PLe H fun k => if k < w.heap.size then H k else H' k := by
    intro k o hk
    show (if k < w.heap.size then H k else H' k) = some o
    rw [if_pos (ph_lt (hM.ple k o hk))]; exact hk
  have g2 : PLe H' fun k => if k < w.heap.size then H k else H' k := by
    intro k o hk
    show (if k < w.heap.size then H k else H' k) = some o
    rw [if_neg (by have := hge k o hk; omega)]; exact hk
  refine ⟨_, g1, g2, w1, hn1, noH_le _, noH_le _, fun k o hk => ?_, hM1.ex, fun i c hi => c.mono (hM1.ok i c hi) g1, fun i c hi k hk => ⟨(hM1.fr i c hi k hk).1, ?_⟩, hM1.ap⟩
  · split at hk
    · exact hM1.ub k o hk
    · have h3 := hl k o hk
      have := hM.ex.size
      unfold up at h3 ⊢
      rw [if_neg (by omega)] at h3 ⊢
      exact h3
  · show (if k < w.heap.size then H k else H' k) = none
    rw [if_pos (hM.lt hi hk)]; exact (hM.fr i c hi k hk).2
structure ExtGB (g b : Nat) (w w' : World) : Prop where
  os : w'.os = w.os
  tape : w'.tape = w.tape
  output : w'.output = w.output
  size : w.heap.size ≤ w'.heap.size
  block : ∀ k, k < w.heap.size → k ≠ g → k ≠ b → w'.heap[k]? = w.heap[k]?
theorem ExtGB.rfl' (g b : Nat) (w : World) : ExtGB g b w w := ⟨rfl, rfl, rfl, Nat.le_refl _, fun _ _ _ _ => rfl⟩
theorem ExtGB.then {g b : Nat} {A B C : World} (h : ExtGB g b A B) (k : ExtGB g b B C) : ExtGB g b A C :=
  ⟨k.os.trans h.os, k.tape.trans h.tape, k.output.trans h.output, Nat.le_trans h.size k.size, fun i hi h1 h2 => by
    rw [k.block i (Nat.lt_of_lt_of_le hi h.size) h1 h2]; exact h.block i hi h1 h2⟩
theorem ExtW.gb {g b : Nat} {w w' : World} (h : ExtW w w' g none) : ExtGB g b w w' := ⟨h.os, h.tape, h.output, h.size, fun k hk h1 _ => h.block k hk h1 (by simp)⟩
theorem ExtGB.n {g b n : Nat} {w w' : World} (h : ExtGB g b w w') (hg : g < n) (hb : b < n) : ExtN n w w' := ⟨h.os, h.tape, h.output, h.size, fun k hn hk => h.block k hk (by omega) (by omega)⟩
theorem ExtGB.toExt {g b : Nat} {w0 w w' : World} (h0 : Ext w0 w) (h : ExtGB g b w w') (hg : w0.heap.size ≤ g) (hb : w0.heap.size ≤ b) : Ext w0 w' :=
  ⟨h.os.trans h0.os, h.tape.trans h0.tape, h.output.trans h0.output, Nat.le_trans h0.size h.size, fun k hk => by
    rw [h.block k (Nat.lt_of_lt_of_le hk h0.size) (by omega) (by omega)]; exact h0.block k hk⟩
structure RS2 (HR : PH) (w : World) (g b : Nat) (s : RS) (L : Int) (Lc : List Chunk) (H : PH) (W : World) : Prop where
  mem : MemX w.heap.size Lc H W
  rd : Rd HR W g s
  left : Own W b #[.int .i64 L] 3
  gb : g ≠ b
  hg : g < w.heap.size
  hb : b < w.heap.size
  hr : ∀ k o, HR k = some o → k < w.heap.size
  hn : HR b = none
  ex : ExtGB g b w W
section
variable {HR : PH} {w W W' : World} {g b : Nat} {s s' : RS} {L L' : Int} {Lc Lc' : List Chunk} {H H' : PH}
theorem RS2.start (hR : Rd HR w g s) (hL : Own w b #[.int .i64 L] 3) (hgb : g ≠ b) (hn : HR b = none) : RS2 HR w g b s L [] noH w :=
  ⟨MemX.start w, hR, hL, hgb, hR.lt, hL.lt, hR.bound, hn, ExtGB.rfl' _ _ _⟩
theorem RS2.own1 (h : RS2 HR w g b s L Lc H W) {w0 : World} (hw0 : w0.heap.size = w.heap.size) (hM : Mem w0 noH Lc H W) (hM' : Mem w0 noH Lc' H' W') : RS2 HR w g b s L Lc' H' W' := by
  have hsm := hM.same hM'
  refine ⟨⟨w0, hw0, hM'⟩, Mem.rd hM hM' h.rd (by rw [hw0]; exact h.hr) (by rw [hw0]; exact h.hg), ?_, h.gb, h.hg, h.hb, h.hr, h.hn, ?_⟩
  · have := h.left
    unfold Own at *
    rw [hsm b (by rw [hw0]; exact h.hb)]; exact this
  · refine ⟨?_, ?_, ?_, ?_, fun k hk h1 h2 => ?_⟩
    · rw [hM'.ex.os, ← hM.ex.os]; exact h.ex.os
    · rw [hM'.ex.tape, ← hM.ex.tape]; exact h.ex.tape
    · rw [hM'.ex.output, ← hM.ex.output]; exact h.ex.output
    · have := hM'.ex.size; omega
    · rw [hsm k (by omega)]; exact h.ex.block k hk h1 h2
theorem RS2.own (h : RS2 HR w g b s L Lc H W) (f : ∀ w0, Mem w0 noH Lc H W → Mem w0 noH Lc' H' W') : RS2 HR w g b s L Lc' H' W' := by
  obtain ⟨w0, hw0, hM⟩ := h.mem
  exact h.own1 hw0 hM (f w0 hM)
theorem RS2.reader (h : RS2 HR w g b s L Lc H W) (hR : Rd HR W' g s') (e : ExtW W W' g none) : RS2 HR w g b s' L Lc H W' :=
  ⟨h.mem.reader e h.hg, hR, h.left.keepW e (fun q => h.gb q.symm) (by simp), h.gb, h.hg, h.hb, h.hr, h.hn, h.ex.then e.gb⟩
theorem RS2.int (h : RS2 HR w g b s L Lc H W) : Calls Tryz.prog 14 #[.pointer (some ⟨g, 0, none⟩)] W (fun e W' => e = .returned (.int .i64 (intS s).1) ∧ RS2 HR w g b (intS s).2 L Lc H W') :=
  (rint_c g s W h.rd).mono fun e W' ⟨e1, hR, hX⟩ => ⟨e1, h.reader hR hX⟩
theorem RS2.ints (h : RS2 HR w g b s L Lc H W) (hs : Small s) : Calls Tryz.prog 35 #[.pointer (some ⟨g, 0, none⟩)] W
    (fun e W' => ∃ v, e = .returned v ∧ RS2 HR w g b (listS intS s).2 L (Lc ++ [Proofs.YtnpnjcaomakehaaGreat.own mono_IntR 1 3 v (listS intS s).1]) H W') := by
  refine (rints_c g s W h.rd hs).mono ?_
  rintro e W' ⟨v, e1, hS, hR, hX⟩
  have h2 := h.reader hR hX
  exact ⟨v, e1, h.mem.take hX h.hg hS mono_IntR, h2.rd, h2.left, h2.gb, h2.hg, h2.hb, h2.hr, h2.hn, h2.ex⟩
theorem RS2.setL (h : RS2 HR w g b s L Lc H W) (L' : Int) : RS2 HR w g b s L' Lc H (W.setCell ⟨b, 0, none⟩ (.int .i64 L')) := by
  have hX : ExtW W (W.setCell ⟨b, 0, none⟩ (.int .i64 L')) b none := (ExtW.rfl' _ _ _).set 0 _
  have hbl := h.left.lt
  refine ⟨h.mem.reader hX h.hb, ?_, by simpa using h.left.set 0 (.int .i64 L'), h.gb, h.hg, h.hb, h.hr, h.hn, h.ex.then ⟨hX.os, hX.tape, hX.output, hX.size, fun k hk _ h2 => hX.block k hk h2 (by simp)⟩⟩
  obtain ⟨a, n, c, er, l, q1, q2, q3, q4⟩ := h.rd
  refine ⟨a, n, c, er, l, q1.keepW hX h.gb (by simp), q2, fun k o hk => ?_, q4⟩
  have hkb : k ≠ b := fun e => by rw [e, h.hn] at hk; cases hk
  have h3 := q3 k o hk
  unfold phX at *
  split at h3
  · cases h3
  · rename_i hk'
    rw [if_neg hk', hX.block k (Array.getElem?_eq_some_iff.1 h3).1 hkb (by simp)]; exact h3
theorem RS2.call (h : RS2 HR w g b s L Lc H W) (hR : Rd HR W' g s') (hL : Own W' b #[.int .i64 L'] 3) (e : ExtGB g b W W') (hl : PLe H' (up noH W W')) : ∃ H2, PLe H H2 ∧ PLe H' H2 ∧ RS2 HR w g b s' L' Lc H2 W' := by
  obtain ⟨H2, k1, k2, k3⟩ := h.mem.joinN (e.n h.hg h.hb) hl
  exact ⟨H2, k1, k2, k3, hR, hL, h.gb, h.hg, h.hb, h.hr, h.hn, h.ex.then e⟩
theorem RS2.ub (h : RS2 HR w g b s L Lc H W) : PLe H (up noH w W) := by
  obtain ⟨w0, hw0, hM⟩ := h.mem
  have := hM.ub
  intro k o hk
  have h2 := this k o hk
  unfold up at *
  rwa [hw0] at h2
end
end Go.Proofs.YtnpnjcaomakehaaGreat
