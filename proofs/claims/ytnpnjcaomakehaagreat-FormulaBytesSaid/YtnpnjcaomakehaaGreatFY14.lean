/- Lemmas for FY, part 15: package formula: Holds, of whatever formula and thing, and more. -/
import Derived.Deep.CutBlock
import Derived.Test.YtnpnjcaomakehaaGreatFY01
import Derived.Test.YtnpnjcaomakehaaGreatFY03
import Derived.Test.YtnpnjcaomakehaaGreatFY04
import Derived.Test.YtnpnjcaomakehaaGreatFY06
import Derived.Test.YtnpnjcaomakehaaGreatFY11
import Derived.Test.YtnpnjcaomakehaaGreatFY13
set_option linter.unusedSimpArgs false
set_option linter.unusedVariables false
namespace Go.Proofs.YtnpnjcaomakehaaGreat
open Go.RowKit Go.Shelf
set_option maxHeartbeats 1000000 in
theorem kindsE_c (n : Int) (hn : I64 n) (t : Thing) : ∀ (cs : List Value) (w : World), ThingR (ph w) cs t → Calls Tryz.prog 100 #[.agg cs.toArray, .int .i64 n] w (RetV w (.bool (lowT n t))) := by
  induction t using Thing.ind with
  | h t ih =>
    intro cs w hr
    have hq := Lib.hid (lowT_eq n t)
    obtain ⟨a1, c1, a2, c2, a3, c3, rfl, -, -, -, h1, h2, h3⟩ := hr.form
    have HI := Lib.hid ih; clear ih
    have e1 : Ext w ((w.alloc (.cells #[.slice a1 t.cls.length c1, .slice a2 t.vals.length c2, .slice a3 t.parts.length c3] 107)).alloc (.cells #[.int .i64 n] 3)) := xE
    have o2 : Own ((w.alloc (.cells #[.slice a1 t.cls.length c1, .slice a2 t.vals.length c2, .slice a3 t.parts.length c3] 107)).alloc (.cells #[.int .i64 n] 3)) w.heap.size #[.slice a1 t.cls.length c1, .slice a2 t.vals.length c2, .slice a3 t.parts.length c3] 107 := oE
    have o3 : Own ((w.alloc (.cells #[.slice a1 t.cls.length c1, .slice a2 t.vals.length c2, .slice a3 t.parts.length c3] 107)).alloc (.cells #[.int .i64 n] 3)) (w.heap.size + 1) #[.int .i64 n] 3 := oE
    go_enter Tryz.func100, Tryz.ntmps100
    go_upto_region 1 with (fail)
    generalize World.alloc _ _ = w1 at *
    generalize hB3 : w.heap.size + 1 = B3 at *
    generalize w.heap.size = B2 at *
    clear hB3
    have u0 : w1.cell? ⟨B2, 0, none⟩ = some (.slice a1 t.cls.length c1) := o2.facts.1 0
    have u2 : w1.cell? ⟨B2, 2, none⟩ = some (.slice a3 t.parts.length c3) := o2.facts.1 2
    have l2 := o2.lt
    have hc3 : w1.cell? ⟨B3, 0, none⟩ = some (.int .i64 n) := o3.facts.1 0
    have hc1 := containsInt_P 127 #[.pointer (some ⟨B3, 0, none⟩)] _ t.cls (h1.mono mono_IntR e1.ple) (fun x => decide (n ≤ x)) w1 (fun _ _ h => h) (fun args w => enterFn Tryz.func127 rfl rfl args w) (fun k hk wr hx hi => kinds1_c _ n _ wr (hx.cell1 hc3))
    cases hany : t.cls.any fun x => decide (n ≤ x) with
    | true =>
      have hv : Hid (lowT n t = false) := by
        show _ = _
        rw [hq.out, Bool.and_eq_false_iff]
        obtain ⟨x, hx, h⟩ := List.any_eq_true.1 hany
        exact .inl (List.all_eq_false.2 ⟨x, hx, by simp at h ⊢; omega⟩)
      rw [hany] at hc1
      clear hany
      have l3 := o3.lt
      go_wp2_with fail
      refine RetV_at hc1 ?_
      intro w2 hx2
      go_wp2_with fail
      go_ret
      exact ⟨ret_bool hv.out.symm, e1.then hx2⟩
    | false =>
    have hv : Hid (lowT n t = !(t.parts.any fun x => !lowT n x)) := by
      show _ = _
      have h1 : t.cls.all (fun x => decide (x < n)) = true := by
        rw [List.all_eq_true]
        intro x hx
        have := List.any_eq_false.1 hany x hx
        simp at this ⊢; omega
      rw [hq.out, h1, Bool.true_and, List.not_any_eq_all_not]
      simp
    rw [hany] at hc1
    clear hany
    have l3 := o3.lt
    go_wp2_with fail
    refine RetV_at hc1 ?_
    intro w2 hx2
    replace u2 := hx2.cell1 u2
    replace l2 := cell_lt u2
    replace hc3 := hx2.cell1 hc3
    replace l3 := cell_lt hc3
    clear hc1 u0 o2 o3
    have hc2 := containsFunc_thing (fun x => !lowT n x) 129 #[.pointer (some ⟨B3, 0, none⟩)] _ t.parts w2 (h3.mono mono_ThingR (e1.then hx2).ple) (fun args w => enterFn Tryz.func129 rfl rfl args w) (by
      intro w3 hx3 x hx cs hE
      obtain ⟨b1, d1, b2, d2, b3, d3, rfl, -⟩ := hE.form
      replace hc3 := hx3.cell1 hc3
      replace l3 := cell_lt hc3
      clear u2 l2 h1 h2 h3
      go_enter Tryz.func129, Tryz.ntmps129
      go_wp2_with fail
      refine RetV_at (HI.out x hx _ _ (mono_ThingR _ _ _ _ (Ext.ple xE) hE)) ?_
      intro w4 hx4
      go_wp2_with fail
      go_ret
      exact ⟨rfl, xE⟩)
    go_wp2_with fail
    refine RetV_at hc2 ?_
    intro w3 hx3
    go_wp2_with fail
    go_ret
    exact ⟨ret_bool hv.out.symm, (e1.then hx2).then hx3⟩
def orE (a b : Int) : Int := if a = 0 then b else a
theorem orE2_c (a c : Int) (b : Nat) (w : World) (ho : Own w b #[.int .i64 a, .int .i64 c] 28) : Calls Tryz.prog 97 #[.slice (some ⟨b, 0, none⟩) 2 2] w (RetV w (.int .i64 (orE a c))) := by
  have hr : Hid (a = 0 → orE a c = c) := Lib.hid fun h => if_pos h
  have hr2 : Hid (a ≠ 0 → orE a c = a) := Lib.hid fun h => if_neg h
  generalize orE a c = res at *
  go_enter Tryz.func97, Tryz.ntmps97
  go_wp2_with fail
  go_loopw [8] (fun i wr => ∃ k : Nat, k ≤ 2 ∧ i = .int .i64 k ∧ Ext w wr ∧ Hid (1 ≤ k → a = 0) ∧ Hid (2 ≤ k → c = 0)) (fun i _ => 2 - (intOf i).toNat)
  case atStart => exact ⟨0, by omega, rfl, Ext.rfl' _, Lib.hid (by omega), Lib.hid (by omega)⟩
  case round =>
    obtain ⟨k, hk, rfl, hx, ha, hc⟩ := hrel
    by_cases hlt : k < 2
    · have h2 : (k : Int) < 2 := by omega
      have ho2 := ho.keep hx
      have hl := ho2.lt
      clear ho
      rcases k with _ | _ | k
      · have hcl : wr.cell? ⟨b, 0, none⟩ = some (.int .i64 a) := ho2.facts.1 0
        by_cases h0 : a = 0
        · have b0 : (a == 0) = true := by simpa using h0
          have ha2 := Lib.hid h0
          clear h0
          go_wp2_with fail
          go_roundw
          case rel => exact ⟨1, by omega, by go_num, hx, Lib.hid fun _ => ha2.out, Lib.hid (by omega)⟩
          case measure => simp [intOf]
        · have b0 : (a == 0) = false := by simpa using h0
          have hv := Lib.hid (hr2.out h0)
          clear hr hr2
          go_wp2_with fail
          go_ret
          exact ⟨ret_int hv.out.symm, hx⟩
      · have hcl : wr.cell? ⟨b, 1, none⟩ = some (.int .i64 c) := ho2.facts.1 1
        have hv := Lib.hid (hr.out (ha.out (by omega)))
        by_cases h0 : c = 0
        · have b0 : (c == 0) = true := by simpa using h0
          have hc2 := Lib.hid h0
          clear h0 hr hr2 hv
          go_wp2_with fail
          go_roundw
          case rel => exact ⟨2, by omega, by go_num, hx, Lib.hid fun _ => ha.out (by omega), Lib.hid fun _ => hc2.out⟩
          case measure => simp [intOf]
        · have b0 : (c == 0) = false := by simpa using h0
          clear hr hr2
          go_wp2_with fail
          go_ret
          exact ⟨ret_int hv.out.symm, hx⟩
      · omega
    · obtain rfl : k = 2 := by omega
      have hv : Hid (res = 0) := by
        show _ = _
        rw [hr.out (ha.out (by omega)), hc.out (by omega)]
      clear hr hr2
      go_wp2_with fail
      go_ret
      exact ⟨ret_int hv.out.symm, hx⟩
attribute [local go_sem] Oper.semAt_some
theorem lowF_pre (n : Int) (f : Fm) : lowF n f = f.pre.all fun g => !decide (g.op = 1) || decide (g.n < n) := by
  induction f using Fm.ind with
  | h f ih =>
    rw [lowF_eq, Fm.pre_eq, List.all_cons]
    congr 1
    generalize f.kids = l at *
    induction l with
    | nil => rfl
    | cons x xs ih2 =>
      rw [List.flatMap_cons, List.all_append, List.all_cons, ih x (by simp), ih2 fun y hy => ih y (by simp [hy])]
set_option maxRecDepth 100000 in
set_option maxHeartbeats 8000000 in
theorem fholdsE_in {ps : List (List Int)} (hn : ps.length ≤ 64) (B : Nat) (f : Fm) (t : Thing) (cs ds : List Value) (w : World) (hT : TaxR w B ps) (hF : FmR (ph w) cs f) (hD : ThingR (ph w) ds t)
    (hfb : f.bulk ≤ 900000) (hb : t.bulk ≤ 1000000) :
    CallsIn Fence.wide 7 Tryz.prog 62 #[.pointer (some ⟨B, 0, none⟩), .agg cs.toArray, .agg ds.toArray] w (HoldE w (holdE ps f t)) := by
  obtain ⟨a3, c3, a4, c4, rfl, i1, i2, -, -, hfi, hfk⟩ := hF.form
  obtain ⟨b1, d1, b2, d2, b3, d3, rfl, -, -, -, h1, h2, h3⟩ := hD.form
  have hF0 := hF
  have hD' := hD
  have hT2 := hT
  have r1 := Lib.hid (@holdE_1 ps f t)
  have r2 := Lib.hid (@holdE_2 ps f t)
  have r3 := Lib.hid (@holdE_3 ps f t)
  have r4 := Lib.hid (@holdE_4 ps f t)
  have r5 := Lib.hid (@valid_whole f)
  generalize holdE ps f t = RES at *
  obtain ⟨e1, he1⟩ : ∃ z, Hid (validF f = z) := ⟨_, Lib.hid rfl⟩
  obtain ⟨e2, he2⟩ : ∃ z, Hid (validV t = z) := ⟨_, Lib.hid rfl⟩
  obtain ⟨eo, heo⟩ : ∃ z, Hid (orE e1 e2 = z) := ⟨_, Lib.hid rfl⟩
  rw [he1.out] at r1 r2 r3 r4 r5
  rw [he2.out] at r2 r3 r4
  unfold fmC at hF ⊢
  have e5 : Ext w (((((w.alloc (.cells #[.pointer (some ⟨B, 0, none⟩)] 100)).alloc (.cells #[.int .i64 f.op, .int .i64 f.n, .slice a3 f.inn.length c3, .slice a4 f.kids.length c4] 50)).alloc (.cells #[.slice b1 t.cls.length d1, .slice b2 t.vals.length d2, .slice b3 t.parts.length d3] 107)).alloc (.cells #[.bool false] 4)).alloc (.cells #[.int .i64 0] 28)) := xE
  have o3 : Own (((((w.alloc (.cells #[.pointer (some ⟨B, 0, none⟩)] 100)).alloc (.cells #[.int .i64 f.op, .int .i64 f.n, .slice a3 f.inn.length c3, .slice a4 f.kids.length c4] 50)).alloc (.cells #[.slice b1 t.cls.length d1, .slice b2 t.vals.length d2, .slice b3 t.parts.length d3] 107)).alloc (.cells #[.bool false] 4)).alloc (.cells #[.int .i64 0] 28)) w.heap.size #[.pointer (some ⟨B, 0, none⟩)] 100 := oE
  have o4 : Own (((((w.alloc (.cells #[.pointer (some ⟨B, 0, none⟩)] 100)).alloc (.cells #[.int .i64 f.op, .int .i64 f.n, .slice a3 f.inn.length c3, .slice a4 f.kids.length c4] 50)).alloc (.cells #[.slice b1 t.cls.length d1, .slice b2 t.vals.length d2, .slice b3 t.parts.length d3] 107)).alloc (.cells #[.bool false] 4)).alloc (.cells #[.int .i64 0] 28)) (w.heap.size + 1) #[.int .i64 f.op, .int .i64 f.n, .slice a3 f.inn.length c3, .slice a4 f.kids.length c4] 50 := oE
  have o5 : Own (((((w.alloc (.cells #[.pointer (some ⟨B, 0, none⟩)] 100)).alloc (.cells #[.int .i64 f.op, .int .i64 f.n, .slice a3 f.inn.length c3, .slice a4 f.kids.length c4] 50)).alloc (.cells #[.slice b1 t.cls.length d1, .slice b2 t.vals.length d2, .slice b3 t.parts.length d3] 107)).alloc (.cells #[.bool false] 4)).alloc (.cells #[.int .i64 0] 28)) (w.heap.size + 1 + 1) #[.slice b1 t.cls.length d1, .slice b2 t.vals.length d2, .slice b3 t.parts.length d3] 107 := oE
  have o6 : Own (((((w.alloc (.cells #[.pointer (some ⟨B, 0, none⟩)] 100)).alloc (.cells #[.int .i64 f.op, .int .i64 f.n, .slice a3 f.inn.length c3, .slice a4 f.kids.length c4] 50)).alloc (.cells #[.slice b1 t.cls.length d1, .slice b2 t.vals.length d2, .slice b3 t.parts.length d3] 107)).alloc (.cells #[.bool false] 4)).alloc (.cells #[.int .i64 0] 28)) (w.heap.size + 1 + 1 + 1) #[.bool false] 4 := oE
  have o7 : Own (((((w.alloc (.cells #[.pointer (some ⟨B, 0, none⟩)] 100)).alloc (.cells #[.int .i64 f.op, .int .i64 f.n, .slice a3 f.inn.length c3, .slice a4 f.kids.length c4] 50)).alloc (.cells #[.slice b1 t.cls.length d1, .slice b2 t.vals.length d2, .slice b3 t.parts.length d3] 107)).alloc (.cells #[.bool false] 4)).alloc (.cells #[.int .i64 0] 28)) (w.heap.size + 1 + 1 + 1 + 1) #[.int .i64 0] 28 := oE
  refine callsIn_of_wp_marks Tryz.func62 rfl trivial ?_ rfl
  simp only [Tryz.ntmps62, List.size_toArray, List.length_cons, List.length_nil, Nat.reduceAdd, Nat.reduceSub, Array.replicate_succ, Array.replicate_zero, List.push_toArray, List.append_toArray, List.nil_append, List.cons_append]
  refine wpIn_wide.2 ?_
  go_upto_region 3 with (fail)
  generalize World.alloc _ _ = w5 at *
  have hgs := e5.size
  generalize hB7 : w.heap.size + 1 + 1 + 1 + 1 = g7 at *
  generalize hB6 : w.heap.size + 1 + 1 + 1 = g6 at *
  generalize hB5 : w.heap.size + 1 + 1 = g5 at *
  generalize hB4 : w.heap.size + 1 = g4 at *
  have u40 : w5.cell? ⟨g4, 0, none⟩ = some (.int .i64 f.op) := o4.facts.1 0
  have u41 : w5.cell? ⟨g4, 1, none⟩ = some (.int .i64 f.n) := o4.facts.1 1
  have u42 : w5.cell? ⟨g4, 2, none⟩ = some (.slice a3 f.inn.length c3) := o4.facts.1 2
  have u43 : w5.cell? ⟨g4, 3, none⟩ = some (.slice a4 f.kids.length c4) := o4.facts.1 3
  have u50 : w5.cell? ⟨g5, 0, none⟩ = some (.slice b1 t.cls.length d1) := o5.facts.1 0
  have u51 : w5.cell? ⟨g5, 1, none⟩ = some (.slice b2 t.vals.length d2) := o5.facts.1 1
  have u52 : w5.cell? ⟨g5, 2, none⟩ = some (.slice b3 t.parts.length d3) := o5.facts.1 2
  have l4 := o4.lt
  have l5 := o5.lt
  have hFw := mono_FmR _ _ _ _ e5.ple hF0
  have hDw := mono_ThingR _ _ _ _ e5.ple hD
  unfold fmC at hFw
  have hv1 := fun w' (e : Ext w5 w') => fvalid_c f _ w' (mono_FmR _ _ _ _ e.ple hFw) hfb
  have hv2 := fun w' (e : Ext w5 w') => tvalid_c t _ w' (mono_ThingR _ _ _ _ e.ple hDw) hb
  rw [he1.out] at hv1
  rw [he2.out] at hv2
  replace hv1 := Lib.hid hv1
  replace hv2 := Lib.hid hv2
  (refine wp_region_I 7 (by kernel_rfl) (by kernel_rfl) ?_; simp only [List.toList_toArray, List.take_succ_cons, List.take_zero, List.drop_succ_cons, List.drop_zero])
  (refine wiA rfl (by simp) rfl ?_; (try simp only [List.nil_append, List.cons_append]))
  (refine walkI_is (u := ?_) rfl (by simp) rfl ?_ ?_; rotate_left; (focus (intro A w' hS hA K hK; (simp only [List.map_cons, List.map_nil, knows, Is, Op.operands, Call.operands, List.lookup_cons, List.lookup_nil, Nat.reduceBEq, Bool.false_eq_true, if_false, if_true, Act.eval, Array.getD_eq_getD_getElem?, List.getElem?_toArray, List.getElem?_cons_succ, List.getElem?_cons_zero, Option.getD_some, and_true, true_and, List.append_toArray, List.nil_append, List.cons_append, List.toList_toArray, Array.toList_append, Option.toArray, List.append_nil] at hA); first | (go_simp; refine (hv1.out _ hS).mono ?_; rintro e w9 ⟨rfl, hx9⟩; exact hK _ hx9) | (obtain ⟨hSc, hSf, hSs⟩ := hS.cells; go_simp; exact hK _ xN))); (try simp only [List.nil_append, List.cons_append]))
  (refine wiA rfl (by simp) rfl ?_; (try simp only [List.nil_append, List.cons_append]))
  (refine walkI_is (u := ?_) rfl (by simp) rfl ?_ ?_; rotate_left; (focus (intro A w' hS hA K hK; (simp only [List.map_cons, List.map_nil, knows, Is, Op.operands, Call.operands, List.lookup_cons, List.lookup_nil, Nat.reduceBEq, Bool.false_eq_true, if_false, if_true, Act.eval, Array.getD_eq_getD_getElem?, List.getElem?_toArray, List.getElem?_cons_succ, List.getElem?_cons_zero, Option.getD_some, and_true, true_and, List.append_toArray, List.nil_append, List.cons_append, List.toList_toArray, Array.toList_append, Option.toArray, List.append_nil] at hA); first | (go_simp; refine (hv2.out _ hS).mono ?_; rintro e w9 ⟨rfl, hx9⟩; exact hK _ hx9) | (obtain ⟨hSc, hSf, hSs⟩ := hS.cells; go_simp; exact hK _ xN))); (try simp only [List.nil_append, List.cons_append]))
  (refine walkI_step (NewSl w5 #[.int .i64 e1, .int .i64 e2] 28 2) rfl (by simp) rfl (stab_NewSl _ _ _ _) ?_ ?_; (focus (intro A w' hS hA K hK; (simp only [List.map_cons, List.map_nil, knows, Is, Op.operands, Call.operands, List.lookup_cons, List.lookup_nil, Nat.reduceBEq, Bool.false_eq_true, if_false, if_true, Act.eval, Array.getD_eq_getD_getElem?, List.getElem?_toArray, List.getElem?_cons_succ, List.getElem?_cons_zero, Option.getD_some, and_true, true_and, List.append_toArray, List.nil_append, List.cons_append, List.toList_toArray, Array.toList_append, Option.toArray, List.append_nil] at hA); (have hs' := hS.size; go_simp; exact hK _ _ (Ext.new _ _) ⟨_, rfl, Own.new _ _ _, by omega⟩))); (try simp only [List.nil_append, List.cons_append]))
  (refine walkI_is (u := ?_) rfl (by simp) rfl ?_ ?_; rotate_left; (focus (intro A w' hS hA K hK; (simp only [List.map_cons, List.map_nil, knows, Is, Op.operands, Call.operands, List.lookup_cons, List.lookup_nil, Nat.reduceBEq, Bool.false_eq_true, if_false, if_true, Act.eval, Array.getD_eq_getD_getElem?, List.getElem?_toArray, List.getElem?_cons_succ, List.getElem?_cons_zero, Option.getD_some, and_true, true_and, List.append_toArray, List.nil_append, List.cons_append, List.toList_toArray, Array.toList_append, Option.toArray, List.append_nil] at hA); first | (obtain ⟨g, hA1, hA2, -⟩ := hA; have hor := orE2_c e1 e2 g _ hA2; rw [heo.out] at hor; go_simp; refine hor.mono ?_; rintro e w9 ⟨rfl, hx9⟩; exact hK _ hx9) | (obtain ⟨hSc, hSf, hSs⟩ := hS.cells; go_simp; exact hK _ xN))); (try simp only [List.nil_append, List.cons_append]))
  (refine wiA rfl (by simp) rfl ?_; (try simp only [List.nil_append, List.cons_append]))
  (refine walkI_nil ?_; simp only [List.nil_append, List.cons_append, fins, Is, forall_eq, Act.put, List.setIfInBounds_toArray, List.set_cons_zero, List.set_cons_succ])
  rintro w6 hx6 v16 -
  replace o3 := o3.keep hx6
  replace o4 := o4.keep hx6
  replace o5 := o5.keep hx6
  replace o6 := o6.keep hx6
  replace o7 := o7.keep hx6
  replace e5 := e5.then hx6
  have hF6 := mono_FmR _ _ _ _ hx6.ple hFw
  clear hv1 hv2 hFw hDw u40 u41 u42 u43 u50 u51 u52 l4 l5 hx6
  by_cases heq : eo ≠ 0
  · have bo : (eo == 0) = false := by simpa using heq
    have hres : Hid (RES = (false, eo)) := by
      show _ = _
      by_cases h1 : e1 = 0
      · have : eo = e2 := by rw [← heo.out]; exact if_pos h1
        rw [this]; exact r2.out h1 (fun h => heq (this.trans h))
      · have : eo = e1 := by rw [← heo.out]; exact if_neg h1
        rw [this]; exact r1.out h1
    have e6 := o6.facts.2 0
    have e7 := o7.facts.2 0
    have c6 : w6.cell? ⟨g6, 0, none⟩ = some (.bool false) := o6.facts.1 0
    have c7 : w6.cell? ⟨g7, 0, none⟩ = some (.int .i64 0) := o7.facts.1 0
    have l6 := o6.lt
    have l7 := o7.lt
    have hne : g6 ≠ g7 := by omega
    have hl7 : w.heap.size ≤ g7 := by omega
    have hl6 : w.heap.size ≤ g6 := by omega
    have m6 := (o6.set 0 (.bool false)).setOther (p := ⟨g7, 0, none⟩) hne (.int .i64 eo)
    have m7 := (o7.setOther (p := ⟨g6, 0, none⟩) (Ne.symm hne) (.bool false)).set 0 (.int .i64 eo)
    have r6 := m6.facts.1 0
    have r7 := m7.facts.1 0
    simp at r6 r7
    clear heq r1 r2 r3 r4 r5 he1 he2 heo o3 o4 o5 hF hD h1 h2 h3 hfi hfk hT hF0 hD' hT2 hF6
    go_wp2_with fail
    exact ⟨.tuple #[.bool false, .int .i64 eo], by simp [results, Tryz.results62, go_sem, r6, r7], by rw [hres.out], (e5.set' (p := ⟨g6, 0, none⟩) hl6 _).set' (p := ⟨g7, 0, none⟩) hl7 _⟩
  have heq0 : eo = 0 := by simpa using heq
  have h00 : e1 = 0 ∧ e2 = 0 := by
    have := heo.out
    unfold orE at this
    split at this <;> omega
  obtain ⟨h01, h02⟩ := h00
  subst h01 h02 heq0
  replace r3 := Lib.hid (fun h => r3.out rfl rfl h)
  replace r4 := Lib.hid (fun h => r4.out rfl rfl h)
  have hw := r5.out rfl
  clear r1 r2 r5 heq heo he1 he2
  have u40 : w6.cell? ⟨g4, 0, none⟩ = some (.int .i64 f.op) := o4.facts.1 0
  have u41 : w6.cell? ⟨g4, 1, none⟩ = some (.int .i64 f.n) := o4.facts.1 1
  have u42 : w6.cell? ⟨g4, 2, none⟩ = some (.slice a3 f.inn.length c3) := o4.facts.1 2
  have u43 : w6.cell? ⟨g4, 3, none⟩ = some (.slice a4 f.kids.length c4) := o4.facts.1 3
  have l4 := o4.lt
  go_wp2_with fail
  refine (nodes_p f _ _ hF6).mono ?_
  rintro e w' ⟨rfl, rfl⟩
  go_wp2_with fail
  refine (wpIn_wide (n := 7)).1 ?_
  have ex := Ext.new w6 (.cells #[.int .i64 f.op, .int .i64 f.n, .slice a3 f.inn.length c3, .slice a4 f.kids.length c4] 50)
  have hO2 := Proofs.YtnpnjcaomakehaaGreat.Own.new w6 #[.int .i64 f.op, .int .i64 f.n, .slice a3 f.inn.length c3, .slice a4 f.kids.length c4] 50
  have hO3 := o3.keep ex
  have hO4 := o4.keep ex
  have hO5 := o5.keep ex
  have hO6 := o6.keep ex
  have hO7 := o7.keep ex
  have hx0 : Ext w (w6.alloc (.cells #[.int .i64 f.op, .int .i64 f.n, .slice a3 f.inn.length c3, .slice a4 f.kids.length c4] 50)) := e5.then ex
  have hsz : (w6.alloc (.cells #[.int .i64 f.op, .int .i64 f.n, .slice a3 f.inn.length c3, .slice a4 f.kids.length c4] 50)).heap.size = w6.heap.size + 1 := by simp
  have hg6 := e5.size
  clear o3 o4 o5 o6 o7 ex u40 u41 u42 u43 l4 hF6
  generalize w6.alloc _ = W0 at *
  have hps : f.pre.length = f.size := f.pre_len
  have hl7 : w.heap.size ≤ g7 := by omega
  have hl6 : w.heap.size ≤ g6 := by omega
  have hg0 := hx0.size
  refine wpIn_rangeFunc_ownH rfl (by omega) (gf := 83) (lb := #[.pointer (some ⟨w6.heap.size, 0, none⟩)]) rfl trivial (enters_of Tryz.func83 (by kernel_rfl) rfl)
    (encs := fun x : FmA (ph w) => #[.agg x.1.1.toArray]) (Kp := Kx w.heap.size g7) (S := fun ys => fmsOf ys = f.pre) (Sp := fun p => fmsOf p <+: f.pre) (N := f.pre.length)
    (w0 := W0) (nodes_seq (by omega) (Good.of hO7 rfl) hx0.ple (ph_low w) (by omega) hO2 hF0) Kx.then (Kx.put hg0 hO7.lt) (Below.refl _ _) (fun _ => rfl)
    (fun pre W => Own W w.heap.size #[.pointer (some ⟨B, 0, none⟩)] 100 ∧ Own W g5 #[.slice b1 t.cls.length d1, .slice b2 t.vals.length d2, .slice b3 t.parts.length d3] 107 ∧ Own W g6 #[.bool false] 4 ∧ Own W g7 #[.int .i64 0] 28 ∧ Own W g4 #[.int .i64 f.op, .int .i64 f.n, .slice a3 f.inn.length c3, .slice a4 f.kids.length c4] 50 ∧ Ext w W ∧ ∀ x ∈ pre, (FmA.f x).op = 1 → (FmA.f x).n < ps.length)
    (fun c pre W => c = .ret ∧ Own W g6 #[.bool false] 4 ∧ Own W g7 #[.int .i64 7] 28 ∧ Ext w W ∧ ∃ x ∈ pre, (FmA.f x).op = 1 ∧ (ps.length : Int) ≤ (FmA.f x).n)
    ?hI ?hIx ⟨hO3, hO5, hO6, hO7, hO4, hx0, by simp⟩ (NodeA (fun x Bx => #[.pointer (some ⟨B, 0, none⟩), .agg #[.int .i64 f.op, .int .i64 f.n, .slice a3 f.inn.length c3, .slice a4 f.kids.length c4], .agg #[.slice b1 t.cls.length d1, .slice b2 t.vals.length d2, .slice b3 t.parts.length d3], .pointer (some ⟨w.heap.size, 0, none⟩), .pointer (some ⟨g4, 0, none⟩), .pointer (some ⟨g5, 0, none⟩), .pointer (some ⟨g6, 0, none⟩), .pointer (some ⟨g7, 0, none⟩), .int .i64 0, .pointer (some ⟨Bx, 0, none⟩), .pointer (some ⟨B, 0, none⟩), .bool false, .agg #[.int .i64 f.op, .int .i64 f.n, .slice a3 f.inn.length c3, .slice a4 f.kids.length c4], .int .i64 0, .agg #[.slice b1 t.cls.length d1, .slice b2 t.vals.length d2, .slice b3 t.parts.length d3], .int .i64 0, v16, .int .i64 0, .int .i64 0, .bool false, undef, .agg #[.int .i64 f.op, .int .i64 f.n, .slice a3 f.inn.length c3, .slice a4 f.kids.length c4], .func (.func 83) #[] #[.pointer (some ⟨w6.heap.size, 0, none⟩)], .agg x.1.1.toArray, undef, undef, undef, undef, undef, undef, undef, undef, undef, undef, undef, undef, undef, undef, undef, undef, undef, undef, undef])) (NodeA.from _ _) ?assign ?body ?done ?stop
  case hI =>
    rintro pre A B' row ⟨k1, k2, k3, k4, k5, k6, k7⟩ hg hr
    exact ⟨own_keptF k1 hg fun r e => (hr r e).2, own_keptF k2 hg fun r e => (hr r e).2, own_keptF k3 hg fun r e => (hr r e).2, own_keptF k4 hg fun r e => (hr r e).2, own_keptF k5 hg fun r e => (hr r e).2, k6.grown hg fun r e => Nat.le_trans (by omega) (hr r e).1, k7⟩
  case hIx =>
    rintro c pre A B' row ⟨h0, h1, h2, h3, h4⟩ hg hr
    exact ⟨h0, own_keptF h1 hg fun r e => (hr r e).2, own_keptF h2 hg fun r e => (hr r e).2, h3.grown hg fun r e => Nat.le_trans (by omega) (hr r e).1, h4⟩
  case stop =>
    rintro D c pre W hD hpre ⟨rfl, k3, k4, k6, x, hxm, q1, q2⟩ hK
    have hlow : lowF ps.length f = false := by
      rw [lowF_pre, List.all_eq_false]
      exact ⟨FmA.f x, hpre.subset (List.mem_map.2 ⟨x, hxm, rfl⟩), by simp [q1]; omega⟩
    have hres := Lib.hid (r3.out (by rw [hlow]; rfl))
    have b5 := belowK_b (w := W0) (Nat.le_refl _) W D _ (.deferred none) hD hK rfl rfl
    have r6 := (b5.cell (p := ⟨g6, 0, none⟩) hO6.lt).trans (k3.facts.1 0)
    have r7 := (b5.cell (p := ⟨g7, 0, none⟩) hO7.lt).trans (k4.facts.1 0)
    simp at r6 r7
    clear hlow q1 q2 hO2 hO3 hO4 hO5 hF hT h1 h2 h3 hfi hfk
    gi_wp2
    go_wp2_with fail
    refine ⟨by simp, .inl ⟨_, _, rfl, run_takeDeferred hK, ?_⟩⟩
    exact ⟨.tuple #[.bool false, .int .i64 7], by simp [results, Tryz.results62, go_sem, r6, r7], ⟨by rw [hres.out], k6.trans (b5.mono (by omega))⟩⟩
  case assign =>
    rintro l pre ⟨⟨cs, g⟩, hg⟩ W K ⟨k1, k2, k3, k4, k5, k6, k7⟩ hK
    replace hg : FmR (ph w) cs g := hg
    obtain ⟨p3, q3, p4, q4, rfl, -⟩ := hg.form
    unfold fmC at *
    have hk1 := Kx.ext (n₀ := w.heap.size) (Bo := g7) (Ext.new W (.cells #[.int .i64 g.op, .int .i64 g.n, .slice p3 g.inn.length q3, .slice p4 g.kids.length q4] 50)) k4.lt k6.size
    have e := Ext.new W (.cells #[.int .i64 g.op, .int .i64 g.n, .slice p3 g.inn.length q3, .slice p4 g.kids.length q4] 50)
    replace k1 := k1.keep e
    replace k2 := k2.keep e
    replace k3 := k3.keep e
    replace k4 := k4.keep e
    replace k5 := k5.keep e
    replace k6 := k6.then e
    have y1 := (KeepsOthers.alloc W (.cells #[.int .i64 g.op, .int .i64 g.n, .slice p3 g.inn.length q3, .slice p4 g.kids.length q4] 50)).from W0.heap.size
    have y4 := Proofs.YtnpnjcaomakehaaGreat.Own.new W #[.int .i64 g.op, .int .i64 g.n, .slice p3 g.inn.length q3, .slice p4 g.kids.length q4] 50
    have y5 : W.heap.size < (W.alloc (.cells #[.int .i64 g.op, .int .i64 g.n, .slice p3 g.inn.length q3, .slice p4 g.kids.length q4] 50)).heap.size := by simp
    gi_wp2
    generalize W.heap.size = Bx at *
    exact hK _ _ y1 hk1 ⟨k1, k2, k3, k4, k5, k6, k7⟩ ⟨Bx, y5, y4, rfl⟩
  case body =>
    rintro l pre ⟨⟨cs, g⟩, hg⟩ a' W hl ⟨r, hrr⟩ ⟨k1, k2, k3, k4, k5, k6, k7⟩ ⟨Bx, hBx, oX, rfl⟩ hlt
    replace hg : FmR (ph w) cs g := hg
    obtain ⟨p3, q3, p4, q4, rfl, -⟩ := hg.form
    have hy : ∀ (h : FmR (ph w) (fmC g p3 q3 p4 q4) g), FmA.f (⟨(fmC g p3 q3 p4 q4, g), h⟩ : FmA (ph w)) = g := fun _ => rfl
    unfold fmC at *
    dsimp only at oX
    obtain ⟨cX, -⟩ := oX.facts
    have x0 : W.cell? ⟨Bx, 0, none⟩ = some (.int .i64 g.op) := cX 0
    have x1 : W.cell? ⟨Bx, 1, none⟩ = some (.int .i64 g.n) := cX 1
    have y3 : W.cell? ⟨w.heap.size, 0, none⟩ = some (.pointer (some ⟨B, 0, none⟩)) := k1.facts.1 0
    have yl := k1.lt
    have hsz2 := k6.size
    have hTW := hT.keep k6
    clear cX hg hO2 hO3 hO4 hO5 hO6 hO7 hF hF0 hD hT h1 h2 h3 hfi hfk
    gi_wp2
    refine wpIn_region_any (by kernel_rfl) (wpAny_in (noDefer_of (by kernel_rfl)) _ _ _ _ (wpAny_region_J 10 (by kernel_rfl) ?_))
    simp only [List.toList_toArray, List.take_succ_cons, List.take_zero]
    by_cases hop : g.op = 1
    · have bb1 : (g.op == 1) = true := by simpa using hop
      cases hle : decide ((ps.length : Int) ≤ g.n) with
      | true =>
        iterate 4 (refine wiA rfl (by simp) rfl ?_; (try simp only [List.nil_append, List.cons_append]))
        iterate 3 (refine wyA rfl (by simp) rfl rfl rfl ?_; (try simp only [List.nil_append, List.cons_append]))
        (refine walkI_yesis (u := ?_) rfl (by simp) rfl rfl rfl ?_ ?_; rotate_left; (focus (intro A w' hS hA K hK; (simp only [List.map_cons, List.map_nil, knows, Is, Op.operands, Call.operands, List.lookup_cons, List.lookup_nil, Nat.reduceBEq, Bool.false_eq_true, if_false, if_true, Act.eval, Array.getD_eq_getD_getElem?, List.getElem?_toArray, List.getElem?_cons_succ, List.getElem?_cons_zero, Option.getD_some, and_true, true_and, List.append_toArray, List.nil_append, List.cons_append, List.toList_toArray, Array.toList_append, Option.toArray, List.append_nil] at hA); first | (go_simp; refine (lenTx_c (hTW.keep hS)).mono ?_; rintro e w9 ⟨rfl, hx9⟩; exact hK _ hx9) | (obtain ⟨hSc, hSf, hSs⟩ := hS.cells; go_simp; exact hK _ xN))); (try simp only [List.nil_append, List.cons_append]))
        (refine wyA rfl (by simp) rfl rfl rfl ?_; (try simp only [List.nil_append, List.cons_append]))
        (refine wiA rfl (by simp) rfl ?_; (try simp only [List.nil_append, List.cons_append]))
        (refine walkI_nil ?_; simp only [List.nil_append, List.cons_append, fins, Is, forall_eq, Act.put, List.setIfInBounds_toArray, List.set_cons_zero, List.set_cons_succ])
        intro W2 hx2
        have hk2 := Kx.ext (n₀ := w.heap.size) (Bo := g7) hx2 k4.lt hsz2
        have hko : KeepsOthers W W2 := KeepsOthers.of_grownBy (Ext.grownG' hx2 none) (fun j o e => by cases e)
        replace k1 := k1.keep hx2
        replace k2 := k2.keep hx2
        replace k3 := k3.keep hx2
        replace k4 := k4.keep hx2
        replace k5 := k5.keep hx2
        replace k6 := k6.then hx2
        clear x0 x1 y3 yl
        refine wpAny_done (by kernel_rfl) ?_ _
        try simp only [List.getElem?_toArray, List.getElem_toArray, List.getElem?_cons_succ, List.getElem?_cons_zero, List.getElem_cons_succ, List.getElem_cons_zero, Act.put, List.setIfInBounds_toArray, List.set_cons_zero, List.set_cons_succ]
        rename_i hKc
        refine hKc _ _ ?_
        have e6 := k3.facts.2 0
        have e7 := k4.facts.2 0
        have c6 : W2.cell? ⟨g6, 0, none⟩ = some (.bool false) := k3.facts.1 0
        have c7 : W2.cell? ⟨g7, 0, none⟩ = some (.int .i64 0) := k4.facts.1 0
        have l6 := k3.lt
        have l7 := k4.lt
        have hne : g6 ≠ g7 := by omega
        gi_wp2
        refine ⟨(hko.trans ((KeepsOthers.setCell _ _ _).trans (KeepsOthers.setCell _ _ _))).from _, rfl, ?_, ?_, (k6.set' (p := ⟨g6, 0, none⟩) hl6 _).set' (p := ⟨g7, 0, none⟩) hl7 _, _, List.mem_append_right _ (List.mem_singleton.2 rfl), ?_, ?_⟩
        · simpa using (k3.set 0 (.bool false)).setOther (p := ⟨g7, 0, none⟩) hne (.int .i64 7)
        · simpa using (k4.setOther (p := ⟨g6, 0, none⟩) (Ne.symm hne) (.bool false)).set 0 (.int .i64 7)
        · rw [hy]; exact hop
        · rw [hy]; simpa using hle
      | false =>
        iterate 4 (refine wiA rfl (by simp) rfl ?_; (try simp only [List.nil_append, List.cons_append]))
        iterate 3 (refine wyA rfl (by simp) rfl rfl rfl ?_; (try simp only [List.nil_append, List.cons_append]))
        (refine walkI_yesis (u := ?_) rfl (by simp) rfl rfl rfl ?_ ?_; rotate_left; (focus (intro A w' hS hA K hK; (simp only [List.map_cons, List.map_nil, knows, Is, Op.operands, Call.operands, List.lookup_cons, List.lookup_nil, Nat.reduceBEq, Bool.false_eq_true, if_false, if_true, Act.eval, Array.getD_eq_getD_getElem?, List.getElem?_toArray, List.getElem?_cons_succ, List.getElem?_cons_zero, Option.getD_some, and_true, true_and, List.append_toArray, List.nil_append, List.cons_append, List.toList_toArray, Array.toList_append, Option.toArray, List.append_nil] at hA); first | (go_simp; refine (lenTx_c (hTW.keep hS)).mono ?_; rintro e w9 ⟨rfl, hx9⟩; exact hK _ hx9) | (obtain ⟨hSc, hSf, hSs⟩ := hS.cells; go_simp; exact hK _ xN))); (try simp only [List.nil_append, List.cons_append]))
        (refine wyA rfl (by simp) rfl rfl rfl ?_; (try simp only [List.nil_append, List.cons_append]))
        (refine wiA rfl (by simp) rfl ?_; (try simp only [List.nil_append, List.cons_append]))
        (refine walkI_nil ?_; simp only [List.nil_append, List.cons_append, fins, Is, forall_eq, Act.put, List.setIfInBounds_toArray, List.set_cons_zero, List.set_cons_succ])
        intro W2 hx2
        have hk2 := Kx.ext (n₀ := w.heap.size) (Bo := g7) hx2 k4.lt hsz2
        have hko : KeepsOthers W W2 := KeepsOthers.of_grownBy (Ext.grownG' hx2 none) (fun j o e => by cases e)
        replace k1 := k1.keep hx2
        replace k2 := k2.keep hx2
        replace k3 := k3.keep hx2
        replace k4 := k4.keep hx2
        replace k5 := k5.keep hx2
        replace k6 := k6.then hx2
        clear x0 x1 y3 yl
        refine wpAny_done (by kernel_rfl) ?_ _
        try simp only [List.getElem?_toArray, List.getElem_toArray, List.getElem?_cons_succ, List.getElem?_cons_zero, List.getElem_cons_succ, List.getElem_cons_zero, Act.put, List.setIfInBounds_toArray, List.set_cons_zero, List.set_cons_succ]
        rename_i hKc
        refine hKc _ _ ?_
        gi_wp2
        exact ⟨hko.from _, hk2, k1, k2, k3, k4, k5, k6, fun x hx => by
          rcases List.mem_append.1 hx with hx | hx
          · exact k7 x hx
          · rw [List.mem_singleton.1 hx, hy]
            intro _
            simpa using hle⟩
    · have bb1 : (g.op == 1) = false := by simpa using hop
      iterate 4 (refine wiA rfl (by simp) rfl ?_; (try simp only [List.nil_append, List.cons_append]))
      iterate 5 (refine walkI_no rfl (by simp) rfl rfl rfl ?_ ?_; (focus (simp [undef]; done)); (try simp only [List.nil_append, List.cons_append]))
      (refine wiA rfl (by simp) rfl ?_; (try simp only [List.nil_append, List.cons_append]))
      (refine walkI_nil ?_; simp only [List.nil_append, List.cons_append, fins, Is, forall_eq, Act.put, List.setIfInBounds_toArray, List.set_cons_zero, List.set_cons_succ])
      intro W2 hx2
      have hk2 := Kx.ext (n₀ := w.heap.size) (Bo := g7) hx2 k4.lt hsz2
      have hko : KeepsOthers W W2 := KeepsOthers.of_grownBy (Ext.grownG' hx2 none) (fun j o e => by cases e)
      replace k1 := k1.keep hx2
      replace k2 := k2.keep hx2
      replace k3 := k3.keep hx2
      replace k4 := k4.keep hx2
      replace k5 := k5.keep hx2
      replace k6 := k6.then hx2
      clear x0 x1 y3 yl
      refine wpAny_done (by kernel_rfl) ?_ _
      try simp only [List.getElem?_toArray, List.getElem_toArray, List.getElem?_cons_succ, List.getElem?_cons_zero, List.getElem_cons_succ, List.getElem_cons_zero, Act.put, List.setIfInBounds_toArray, List.set_cons_zero, List.set_cons_succ]
      rename_i hKc
      refine hKc _ _ ?_
      gi_wp2
      exact ⟨hko.from _, hk2, k1, k2, k3, k4, k5, k6, fun x hx => by
        rcases List.mem_append.1 hx with hx | hx
        · exact k7 x hx
        · rw [List.mem_singleton.1 hx, hy]
          exact fun h => absurd h hop⟩
  case done =>
    have hO6' := hO6
    rintro D zs W hD hz ⟨k1, k2, k3, k4, k5, k6, k7⟩ hK
    have hlow : lowF ps.length f = true := by
      rw [lowF_pre, ← hz, List.all_eq_true]
      intro y hy
      obtain ⟨x, hx, rfl⟩ := List.mem_map.1 hy
      have := k7 x hx
      by_cases h : (FmA.f x).op = 1
      · have := this h; simp [h]; omega
      · simp [h]
    replace hlow := Lib.hid hlow
    obtain ⟨q2, hq2⟩ : ∃ z, Hid (lowT ps.length t = z) := ⟨_, Lib.hid rfl⟩
    clear k7
    have y3 : W.cell? ⟨w.heap.size, 0, none⟩ = some (.pointer (some ⟨B, 0, none⟩)) := k1.facts.1 0
    have y50 : W.cell? ⟨g5, 0, none⟩ = some (.slice b1 t.cls.length d1) := k2.facts.1 0
    have y51 : W.cell? ⟨g5, 1, none⟩ = some (.slice b2 t.vals.length d2) := k2.facts.1 1
    have y52 : W.cell? ⟨g5, 2, none⟩ = some (.slice b3 t.parts.length d3) := k2.facts.1 2
    have yl := k1.lt
    have yl5 := k2.lt
    have hTW := hT.keep k6
    have hDW := mono_ThingR _ _ _ _ k6.ple hD'
    have hn64 : I64 (ps.length : Int) := by unfold I64; omega
    clear hO2 hO3 hO4 hO5 hO6 hF hT h1 h2 h3 hfi hfk hz
    gi_wp2
    go_upto_region 10 with (fail)
    (refine wp_region_I 5 (by kernel_rfl) (by kernel_rfl) ?_; simp only [List.toList_toArray, List.take_succ_cons, List.take_zero, List.drop_succ_cons, List.drop_zero])
    iterate 2 (refine wiA rfl (by simp) rfl ?_; (try simp only [List.nil_append, List.cons_append]))
    (refine walkI_is (u := ?_) rfl (by simp) rfl ?_ ?_; rotate_left; (focus (intro A w' hS hA K hK; (simp only [List.map_cons, List.map_nil, knows, Is, Op.operands, Call.operands, List.lookup_cons, List.lookup_nil, Nat.reduceBEq, Bool.false_eq_true, if_false, if_true, Act.eval, Array.getD_eq_getD_getElem?, List.getElem?_toArray, List.getElem?_cons_succ, List.getElem?_cons_zero, Option.getD_some, and_true, true_and, List.append_toArray, List.nil_append, List.cons_append, List.toList_toArray, Array.toList_append, Option.toArray, List.append_nil] at hA); first | (go_simp; refine (lenTx_c (hTW.keep hS)).mono ?_; rintro e w9 ⟨rfl, hx9⟩; exact hK _ hx9) | (obtain ⟨hSc, hSf, hSs⟩ := hS.cells; go_simp; exact hK _ xN))); (try simp only [List.nil_append, List.cons_append]))
    (refine walkI_is (u := ?_) rfl (by simp) rfl ?_ ?_; rotate_left; (focus (intro A w' hS hA K hK; (simp only [List.map_cons, List.map_nil, knows, Is, Op.operands, Call.operands, List.lookup_cons, List.lookup_nil, Nat.reduceBEq, Bool.false_eq_true, if_false, if_true, Act.eval, Array.getD_eq_getD_getElem?, List.getElem?_toArray, List.getElem?_cons_succ, List.getElem?_cons_zero, Option.getD_some, and_true, true_and, List.append_toArray, List.nil_append, List.cons_append, List.toList_toArray, Array.toList_append, Option.toArray, List.append_nil] at hA); first | (go_simp; have hkk := kindsE_c _ hn64 t _ _ (mono_ThingR _ _ _ _ hS.ple hDW); rw [hq2.out] at hkk; refine hkk.mono ?_; rintro e w9 ⟨rfl, hx9⟩; exact hK _ hx9) | (obtain ⟨hSc, hSf, hSs⟩ := hS.cells; go_simp; exact hK _ xN))); (try simp only [List.nil_append, List.cons_append]))
    (refine wiA rfl (by simp) rfl ?_; (try simp only [List.nil_append, List.cons_append]))
    (refine walkI_nil ?_; simp only [List.nil_append, List.cons_append, fins, Is, forall_eq, Act.put, List.setIfInBounds_toArray, List.set_cons_zero, List.set_cons_succ])
    intro W2 hx2
    replace k1 := k1.keep hx2
    replace k2 := k2.keep hx2
    replace k3 := k3.keep hx2
    replace k4 := k4.keep hx2
    replace k5 := k5.keep hx2
    replace k6 := k6.then hx2
    have hlD : D < W.heap.size := (Array.getElem?_eq_some_iff.1 hK).1
    have hK2 : W2.heap[D]? = some (.deferred (some [])) := (hx2.block D hlD).trans hK
    clear y3 y50 y51 y52 yl yl5 hTW hDW hK hlD
    cases q2 with
    | false =>
    have hres := Lib.hid (r3.out (by rw [hlow.out, hq2.out]; rfl))
    have e6 := k3.facts.2 0
    have e7 := k4.facts.2 0
    have c6 : W2.cell? ⟨g6, 0, none⟩ = some (.bool false) := k3.facts.1 0
    have c7 : W2.cell? ⟨g7, 0, none⟩ = some (.int .i64 0) := k4.facts.1 0
    have l6 := k3.lt
    have l7 := k4.lt
    have hne : g6 ≠ g7 := by omega
    have hK6 : ((W2.setCell ⟨g6, 0, none⟩ (.bool false)).setCell ⟨g7, 0, none⟩ (.int .i64 7)).heap[D]? = some (.deferred (some [])) := (KeepsOthers.setCell _ _ _).same D _ ((KeepsOthers.setCell _ _ _).same D _ hK2 rfl) rfl
    have hx6 : Ext w ((W2.setCell ⟨g6, 0, none⟩ (.bool false)).setCell ⟨g7, 0, none⟩ (.int .i64 7)) := (k6.set' (p := ⟨g6, 0, none⟩) hl6 _).set' (p := ⟨g7, 0, none⟩) hl7 _
    have m6 := (k3.set 0 (.bool false)).setOther (p := ⟨g7, 0, none⟩) hne (.int .i64 7)
    have m7 := (k4.setOther (p := ⟨g6, 0, none⟩) (Ne.symm hne) (.bool false)).set 0 (.int .i64 7)
    have b5 := belowK_b (w := W0) (Nat.le_refl _) _ D _ (.deferred none) hD hK6 rfl rfl
    have r6 := (b5.cell (p := ⟨g6, 0, none⟩) hO6'.lt).trans (m6.facts.1 0)
    have r7 := (b5.cell (p := ⟨g7, 0, none⟩) hO7.lt).trans (m7.facts.1 0)
    simp at r6 r7
    go_wp2_with fail
    refine ⟨by simp, .inl ⟨_, _, rfl, run_takeDeferred hK6, ?_⟩⟩
    exact ⟨.tuple #[.bool false, .int .i64 7], by simp [results, Tryz.results62, go_sem, r6, r7], ⟨by rw [hres.out], hx6.trans (b5.mono (by omega))⟩⟩
    | true =>
    have hres := Lib.hid (r4.out (by rw [hlow.out, hq2.out]; rfl))
    have y3 : W2.cell? ⟨w.heap.size, 0, none⟩ = some (.pointer (some ⟨B, 0, none⟩)) := k1.facts.1 0
    have y50 : W2.cell? ⟨g5, 0, none⟩ = some (.slice b1 t.cls.length d1) := k2.facts.1 0
    have y51 : W2.cell? ⟨g5, 1, none⟩ = some (.slice b2 t.vals.length d2) := k2.facts.1 1
    have y52 : W2.cell? ⟨g5, 2, none⟩ = some (.slice b3 t.parts.length d3) := k2.facts.1 2
    have y40 : W2.cell? ⟨g4, 0, none⟩ = some (.int .i64 f.op) := k5.facts.1 0
    have y41 : W2.cell? ⟨g4, 1, none⟩ = some (.int .i64 f.n) := k5.facts.1 1
    have y42 : W2.cell? ⟨g4, 2, none⟩ = some (.slice a3 f.inn.length c3) := k5.facts.1 2
    have y43 : W2.cell? ⟨g4, 3, none⟩ = some (.slice a4 f.kids.length c4) := k5.facts.1 3
    have yl := k1.lt
    have yl4 := k5.lt
    have yl5 := k2.lt
    go_wp2_with fail
    refine RetV_at (holds_c hn B f t _ _ _ (hT2.keep k6) (mono_FmR _ _ _ _ k6.ple hF0) (mono_ThingR _ _ _ _ k6.ple hD') hw) ?_
    intro W3 hx3
    replace k3 := k3.keep hx3
    replace k4 := k4.keep hx3
    replace k6 := k6.then hx3
    have hlD : D < W2.heap.size := (Array.getElem?_eq_some_iff.1 hK2).1
    have hK3 : W3.heap[D]? = some (.deferred (some [])) := (hx3.block D hlD).trans hK2
    clear y3 y50 y51 y52 y40 y41 y42 y43 yl yl4 yl5 hK2 hlD hx2 hx3
    generalize hold ps f t = res at *
    have e6 := k3.facts.2 0
    have e7 := k4.facts.2 0
    have c6 : W3.cell? ⟨g6, 0, none⟩ = some (.bool false) := k3.facts.1 0
    have c7 : W3.cell? ⟨g7, 0, none⟩ = some (.int .i64 0) := k4.facts.1 0
    have l6 := k3.lt
    have l7 := k4.lt
    have hne : g6 ≠ g7 := by omega
    have hK6 : ((W3.setCell ⟨g6, 0, none⟩ (.bool res)).setCell ⟨g7, 0, none⟩ (.int .i64 0)).heap[D]? = some (.deferred (some [])) := (KeepsOthers.setCell _ _ _).same D _ ((KeepsOthers.setCell _ _ _).same D _ hK3 rfl) rfl
    have hx6 : Ext w ((W3.setCell ⟨g6, 0, none⟩ (.bool res)).setCell ⟨g7, 0, none⟩ (.int .i64 0)) := (k6.set' (p := ⟨g6, 0, none⟩) hl6 _).set' (p := ⟨g7, 0, none⟩) hl7 _
    have m6 := (k3.set 0 (.bool res)).setOther (p := ⟨g7, 0, none⟩) hne (.int .i64 0)
    have m7 := (k4.setOther (p := ⟨g6, 0, none⟩) (Ne.symm hne) (.bool res)).set 0 (.int .i64 0)
    have b5 := belowK_b (w := W0) (Nat.le_refl _) _ D _ (.deferred none) hD hK6 rfl rfl
    have r6 := (b5.cell (p := ⟨g6, 0, none⟩) hO6'.lt).trans (m6.facts.1 0)
    have r7 := (b5.cell (p := ⟨g7, 0, none⟩) hO7.lt).trans (m7.facts.1 0)
    simp at r6 r7
    go_wp2_with fail
    refine ⟨by simp, .inl ⟨_, _, rfl, run_takeDeferred hK6, ?_⟩⟩
    exact ⟨.tuple #[.bool res, .int .i64 0], by simp [results, Tryz.results62, go_sem, r6, r7], ⟨by rw [hres.out], hx6.trans (b5.mono (by omega))⟩⟩
theorem fholdsE_c {ps : List (List Int)} (hn : ps.length ≤ 64) (B : Nat) (f : Fm) (t : Thing) (cs ds : List Value) (w : World) (hT : TaxR w B ps) (hF : FmR (ph w) cs f) (hD : ThingR (ph w) ds t) (hfb : f.bulk ≤ 900000) (hb : t.bulk ≤ 1000000) :
    Calls Tryz.prog 62 #[.pointer (some ⟨B, 0, none⟩), .agg cs.toArray, .agg ds.toArray] w (HoldE w (holdE ps f t)) :=
  (callsIn_wide (n := 7)).1 (fholdsE_in hn B f t cs ds w hT hF hD hfb hb)
theorem fholds_c {ps : List (List Int)} (hn : ps.length ≤ 64) (B : Nat) (f : Fm) (t : Thing) (cs ds : List Value) (w : World) (hT : TaxR w B ps) (hF : FmR (ph w) cs f) (hD : ThingR (ph w) ds t)
    (hf0 : validF f = 0) (hfn : wholeN ps.length f = true) (ht0 : validV t = 0) (htn : t.clsLt ps.length) (hb : t.bulk ≤ 1000000) :
    Calls Tryz.prog 62 #[.pointer (some ⟨B, 0, none⟩), .agg cs.toArray, .agg ds.toArray] w (HoldsP w (hold ps f t)) := by
  have h1 : holdE ps f t = (hold ps f t, 0) := by
    refine holdE_4 hf0 ht0 ?_
    rw [wholeN_low, Bool.and_eq_true] at hfn
    rw [hfn.2, Bool.true_and]
    exact B_iff.2 htn
  have h2 := fholdsE_c hn B f t cs ds w hT hF hD (by have := valid_bulk hf0; omega) hb
  rw [h1] at h2
  exact h2
set_option maxRecDepth 100000 in
set_option maxHeartbeats 2000000 in
theorem orderB_c (f : Fm) (cs : List Value) (w : World) (hr : FmR (ph w) cs f) (hlen : f.inn.length ≤ 400000) : Calls Tryz.prog 91 #[.agg cs.toArray] w fun e w' => ∃ v, e = .returned v ∧ Ext w w' ∧ OwnS w.heap.size noH w' IntR 1 3 v (ordF f) := by
  obtain ⟨a3, c3, a4, c4, rfl, i1, i2, hil, hkl, hi, hk⟩ := hr.form
  unfold fmC
  clear hr hk
  have hof := Lib.hid (show ordF f = ([f.op, f.n, (f.inn.length : Int)] ++ f.inn.flatMap ordI) ++ [(f.kids.length : Int)] from rfl)
  have i3 : I64 (f.inn.length : Int) := by unfold I64; omega
  have i4 : I64 (f.kids.length : Int) := by unfold I64; omega
  go_enter Tryz.func91, Tryz.ntmps91
  go_wp2_with fail
  have hM := (((Mem.start w noH (noH_le _)).new #[.int .i64 f.op, .int .i64 f.n, .slice a3 f.inn.length c3, .slice a4 f.kids.length c4] 50).new' #[.int .i64 f.op, .int .i64 f.n, .int .i64 f.inn.length] 3 (n := w.heap.size + 1) (by simp)).asOwn 1 rfl mono_IntR (sz := 1) (xs := [f.op, f.n, (f.inn.length : Int)]) (n := 3) (by simp) (by simp [maxLen]) rfl
    (cells_ints (l := [f.op, f.n, (f.inn.length : Int)]) (by simp; exact ⟨i1, i2, i3⟩))
  simp only [List.nil_append, List.cons_append, List.set_cons_succ, List.set_cons_zero, List.length_cons, List.length_nil, Nat.zero_add, Nat.reduceAdd] at hM
  go_loopw [3, 4] (fun v i wr => ∃ k : Nat, k ≤ f.inn.length ∧ i = .int .i64 k ∧ Mem w noH [box w.heap.size #[.int .i64 f.op, .int .i64 f.n, .slice a3 f.inn.length c3, .slice a4 f.kids.length c4] 50, own mono_IntR 1 3 v ([f.op, f.n, (f.inn.length : Int)] ++ (f.inn.take k).flatMap ordI)] noH wr) (fun _ i _ => f.inn.length - (intOf i).toNat)
  case atStart => exact ⟨0, Nat.zero_le _, rfl, hM⟩
  case round =>
    obtain ⟨k, hk, rfl, hM⟩ := hrel
    obtain ⟨kc, kf⟩ := (hM.box 0 rfl).facts
    have k2 : _ = some (Value.slice a3 f.inn.length c3) := kc 2
    have k3 : _ = some (Value.slice a4 f.kids.length c4) := kc 3
    have hbl0 := (hM.box 0 rfl).lt
    by_cases hlt : k < f.inn.length
    · obtain ⟨b, o, rfl, h0, h1, h2, h3, h4, h5, h6, h7, hbl, hI⟩ := ItvsR.at (hi.mono mono_ItvR hM.ex.ple) k hlt
      have hstep : Hid (([f.op, f.n, (f.inn.length : Int)] ++ (f.inn.take k).flatMap ordI) ++ ordI f.inn[k] = [f.op, f.n, (f.inn.length : Int)] ++ (f.inn.take (k + 1)).flatMap ordI) := by
        show _ = _; rw [List.take_succ_eq_append_getElem hlt, List.flatMap_append, List.append_assoc]; simp
      have hll : ([f.op, f.n, (f.inn.length : Int)] ++ (f.inn.take k).flatMap ordI).length ≤ 4000000 := by rw [List.length_append, ordIs_len, List.length_take]; simp; omega
      have hoI := ordI_I64 hI
      generalize [f.op, f.n, (f.inn.length : Int)] ++ (f.inn.take k).flatMap ordI = pre at *
      generalize f.inn[k] = x at *
      obtain ⟨ga, gn, rfl, -⟩ := hM.form 1 rfl
      clear hi kc
      obtain ⟨⟨p, q⟩, ⟨r, s⟩, lO, rO, lI, rI⟩ := x
      dsimp only at *
      go_wp2_with fail
      have hM2 := hM.new #[.int .i64 p, .int .i64 q, .int .i64 r, .int .i64 s, .bool lO, .bool rO, .bool lI, .bool rI] 92
      simp only [List.nil_append, List.cons_append] at hM2
      have hBl := (hM2.box 2 rfl).lt
      obtain ⟨bc, bf⟩ := (hM2.box 2 rfl).facts
      clear hM h0 h1 h2 h3 h4 h5 h6 h7 kf k2 k3
      generalize wr.alloc _ = W at *
      have m0 : _ = some (Value.int .i64 p) := bc 0
      have m1 : _ = some (Value.int .i64 q) := bc 1
      have m2 : _ = some (Value.int .i64 r) := bc 2
      have m3 : _ = some (Value.int .i64 s) := bc 3
      have m4 : _ = some (Value.bool lO) := bc 4
      have m5 : _ = some (Value.bool rO) := bc 5
      have m6 : _ = some (Value.bool lI) := bc 6
      have m7 : _ = some (Value.bool rI) := bc 7
      clear bc
      (refine wp_region_I 26 (by kernel_rfl) (by kernel_rfl) ?_; simp only [List.toList_toArray, List.take_succ_cons, List.take_zero, List.drop_succ_cons, List.drop_zero])
      iterate 3 (refine wiA rfl (by simp) rfl ?_; (try simp only [List.nil_append, List.cons_append]))
      (refine walkI_is (u := ?_) rfl (by simp) rfl ?_ ?_; rotate_left; (focus (intro A w' hS hA K hK; (simp only [List.map_cons, List.map_nil, knows, Is, Op.operands, Call.operands, List.lookup_cons, List.lookup_nil, Nat.reduceBEq, Bool.false_eq_true, if_false, if_true, Act.eval, Array.getD_eq_getD_getElem?, List.getElem?_toArray, List.getElem?_cons_succ, List.getElem?_cons_zero, Option.getD_some, and_true, true_and, List.append_toArray, List.nil_append, List.cons_append, List.toList_toArray, Array.toList_append, Option.toArray, List.append_nil] at hA); first | (go_simp; refine RetP_at (one7_c _ _) ?_; exact hK _ xE) | (obtain ⟨hSc, hSf, hSs⟩ := hS.cells; go_simp; exact hK _ xN))); (try simp only [List.nil_append, List.cons_append]))
      iterate 2 (refine wiA rfl (by simp) rfl ?_; (try simp only [List.nil_append, List.cons_append]))
      (refine walkI_is (u := ?_) rfl (by simp) rfl ?_ ?_; rotate_left; (focus (intro A w' hS hA K hK; (simp only [List.map_cons, List.map_nil, knows, Is, Op.operands, Call.operands, List.lookup_cons, List.lookup_nil, Nat.reduceBEq, Bool.false_eq_true, if_false, if_true, Act.eval, Array.getD_eq_getD_getElem?, List.getElem?_toArray, List.getElem?_cons_succ, List.getElem?_cons_zero, Option.getD_some, and_true, true_and, List.append_toArray, List.nil_append, List.cons_append, List.toList_toArray, Array.toList_append, Option.toArray, List.append_nil] at hA); first | (go_simp; refine RetP_at (one7_c _ _) ?_; exact hK _ xE) | (obtain ⟨hSc, hSf, hSs⟩ := hS.cells; go_simp; exact hK _ xN))); (try simp only [List.nil_append, List.cons_append]))
      iterate 8 (refine wiA rfl (by simp) rfl ?_; (try simp only [List.nil_append, List.cons_append]))
      (refine walkI_is (u := ?_) rfl (by simp) rfl ?_ ?_; rotate_left; (focus (intro A w' hS hA K hK; (simp only [List.map_cons, List.map_nil, knows, Is, Op.operands, Call.operands, List.lookup_cons, List.lookup_nil, Nat.reduceBEq, Bool.false_eq_true, if_false, if_true, Act.eval, Array.getD_eq_getD_getElem?, List.getElem?_toArray, List.getElem?_cons_succ, List.getElem?_cons_zero, Option.getD_some, and_true, true_and, List.append_toArray, List.nil_append, List.cons_append, List.toList_toArray, Array.toList_append, Option.toArray, List.append_nil] at hA); first | (go_simp; refine RetP_at (one7_c _ _) ?_; exact hK _ xE) | (obtain ⟨hSc, hSf, hSs⟩ := hS.cells; go_simp; exact hK _ xN))); (try simp only [List.nil_append, List.cons_append]))
      iterate 2 (refine wiA rfl (by simp) rfl ?_; (try simp only [List.nil_append, List.cons_append]))
      (refine walkI_is (u := ?_) rfl (by simp) rfl ?_ ?_; rotate_left; (focus (intro A w' hS hA K hK; (simp only [List.map_cons, List.map_nil, knows, Is, Op.operands, Call.operands, List.lookup_cons, List.lookup_nil, Nat.reduceBEq, Bool.false_eq_true, if_false, if_true, Act.eval, Array.getD_eq_getD_getElem?, List.getElem?_toArray, List.getElem?_cons_succ, List.getElem?_cons_zero, Option.getD_some, and_true, true_and, List.append_toArray, List.nil_append, List.cons_append, List.toList_toArray, Array.toList_append, Option.toArray, List.append_nil] at hA); first | (go_simp; refine RetP_at (one7_c _ _) ?_; exact hK _ xE) | (obtain ⟨hSc, hSf, hSs⟩ := hS.cells; go_simp; exact hK _ xN))); (try simp only [List.nil_append, List.cons_append]))
      iterate 6 (refine wiA rfl (by simp) rfl ?_; (try simp only [List.nil_append, List.cons_append]))
      (refine walkI_step (NewSl W (intC (ordI ⟨⟨p, q⟩, ⟨r, s⟩, lO, rO, lI, rI⟩)).toArray 3 8) rfl (by simp) rfl (stab_NewSl _ _ _ _) ?_ ?_; (focus (intro A w' hS hA K hK; (simp only [List.map_cons, List.map_nil, knows, Is, Op.operands, Call.operands, List.lookup_cons, List.lookup_nil, Nat.reduceBEq, Bool.false_eq_true, if_false, if_true, Act.eval, Array.getD_eq_getD_getElem?, List.getElem?_toArray, List.getElem?_cons_succ, List.getElem?_cons_zero, Option.getD_some, and_true, true_and, List.append_toArray, List.nil_append, List.cons_append, List.toList_toArray, Array.toList_append, Option.toArray, List.append_nil] at hA); (have hs' := hS.size; go_simp; exact hK _ _ (Ext.new _ _) ⟨_, rfl, Own.new _ _ _, by omega⟩))); (try simp only [List.nil_append, List.cons_append]))
      (refine walkI_nil ?_; simp only [List.nil_append, List.cons_append, fins, Is, forall_eq, Act.put, List.setIfInBounds_toArray, List.set_cons_zero, List.set_cons_succ])
      rintro w2 hx2 v9 ⟨g, rfl, ho, hg⟩
      have hM3 := hM2.ext hx2
      have hS8 := Src.ints (H := noH) (n := 8) hoI ho rfl
      clear m0 m1 m2 m3 m4 m5 m6 m7 bf
      go_wp2_with (at_builtin; refine wpList_append_M 1 rfl _ _ 22 rfl Tryz.underlying22 infoInt rfl rfl rfl (hM3) rfl (hS8) one_IntR ?c3 ?c4 ?c5)
      case c3 => simp [ordI]; omega
      case c4 => simp [ordI]; omega
      case c5 =>
        intro v' w3 hM4
        try simp only [List.set_cons_succ, List.set_cons_zero] at hM4
        rw [hstep.out] at hM4
        go_wp2_with fail
        go_roundw
        case rel =>
          have hM5 := hM4.pick [0, 1] (by simp)
          simp only [List.map_cons, List.map_nil, List.getElem?_cons_zero, List.getElem?_cons_succ, Option.getD_some] at hM5
          exact ⟨k + 1, by omega, by go_num, hM5⟩
        case measure => simp [intOf]; omega
    · rw [List.take_of_length_le (by omega)] at hM
      have hll : ([f.op, f.n, (f.inn.length : Int)] ++ f.inn.flatMap ordI).length ≤ 4000000 := by rw [List.length_append, ordIs_len]; simp; omega
      generalize [f.op, f.n, (f.inn.length : Int)] ++ f.inn.flatMap ordI = pre at *
      obtain ⟨ga, gn, rfl, -⟩ := hM.form 1 rfl
      clear hi kc
      have hM2 := hM.ext (Ext.new wr (.cells #[.int .i64 f.kids.length] 3))
      have hS1 := Src.ints (H := noH) (n := 1) (l := [(f.kids.length : Int)]) (by simpa using i4) (Own.new wr #[.int .i64 f.kids.length] 3) rfl
      go_wp2_with (at_builtin; refine wpList_append_M 1 rfl _ _ 22 rfl Tryz.underlying22 infoInt rfl rfl rfl (hM2) rfl (hS1) one_IntR ?c3 ?c4 ?c5)
      case c3 => simp; omega
      case c4 => simp; omega
      case c5 =>
        intro v' w3 hM4
        try simp only [List.set_cons_succ, List.set_cons_zero] at hM4
        rw [← hof.out] at hM4
        go_wp2_with fail
        go_ret
        exact ⟨_, rfl, hM4.ex, hM4.ownS 1 rfl⟩
set_option maxRecDepth 100000 in
set_option maxHeartbeats 2000000 in
theorem rcmpB_c (f : Fm) : ∀ (g : Fm) (cs ds : List Value) (w : World), FmR (ph w) cs f → FmR (ph w) ds g → f.bulk ≤ 400000 → g.bulk ≤ 400000 →
    Calls Tryz.prog 57 #[.agg cs.toArray, .agg ds.toArray] w (RetV w (.int .i64 (cmpF f g))) := by
  induction f using Fm.ind with
  | h f ih =>
    intro g cs ds w hr hq hb1 hb2
    have hr' := hr
    have hq' := hq
    obtain ⟨a3, c3, a4, c4, rfl, -, -, hil, hkl, hi, hk⟩ := hr.form
    obtain ⟨b3, d3, b4, d4, rfl, -, -, gil, gkl, gi, gk⟩ := hq.form
    unfold fmC at *
    clear hr hq hi gi
    have hbf := f.bulk_eq
    have hbg := g.bulk_eq
    have hkf := f.kids_le
    have hkg := g.kids_le
    have hE := Lib.hid (cmpF_eq f g)
    have HI := Lib.hid ih; clear ih
    go_enter Tryz.func57, Tryz.ntmps57
    go_wp2_with fail
    have hM0 := ((Mem.start w noH (noH_le _)).new #[.int .i64 f.op, .int .i64 f.n, .slice a3 f.inn.length c3, .slice a4 f.kids.length c4] 50).new' #[.int .i64 g.op, .int .i64 g.n, .slice b3 g.inn.length d3, .slice b4 g.kids.length d4] 50 (n := w.heap.size + 1) (by simp)
    simp only [List.nil_append, List.cons_append] at hM0
    refine (orderB_c f _ _ (mono_FmR _ _ _ _ (Ext.ple xE) hr') (by omega)).mono ?_
    rintro e w1 ⟨v1, rfl, hx1, ho1⟩
    obtain ⟨H1, -, -, hM1⟩ := hM0.take hx1 ho1 mono_IntR (noH_le _)
    simp only [List.nil_append, List.cons_append] at hM1
    obtain ⟨kc, kf⟩ := (hM1.box 0 rfl).facts
    obtain ⟨lc, lf⟩ := (hM1.box 1 rfl).facts
    have hl1 := (hM1.box 1 rfl).lt
    clear hM0 hx1 ho1
    go_wp2_with fail
    refine (orderB_c g _ _ (mono_FmR _ _ _ _ hM1.ex.ple hq') (by omega)).mono ?_
    rintro e w2 ⟨v2, rfl, hx2, ho2⟩
    obtain ⟨H2, -, -, hM2⟩ := hM1.take hx2 ho2 mono_IntR (noH_le _)
    simp only [List.nil_append, List.cons_append] at hM2
    clear hM1 hx2 ho2 kc kf lc lf hl1
    have hR1 := hM2.rep 2 rfl
    have hR2 := hM2.rep 3 rfl
    obtain ⟨xa, xc, rfl, xlen, hR1⟩ := hR1.form
    obtain ⟨ya, yc, rfl, ylen, hR2⟩ := hR2.form
    have hkids : cmpZ (ordF f) (ordF g) = 0 → f.kids.length = g.kids.length ∧ (ordF f).length = (ordF g).length := fun h => ⟨(ordF_0 (a := f) (b := g) h).2.2.2, by rw [ordF_len, ordF_len, (ordF_0 (a := f) (b := g) h).2.2.1]⟩
    have hB1 := hM2.box 0 rfl
    have hB2 := hM2.box 1 rfl
    have hX := hM2.ex
    clear hM2
    generalize hx : ordF f = X at *
    generalize hy : ordF g = Y at *
    replace hx := Lib.hid hx
    replace hy := Lib.hid hy
    replace hkids := Lib.hid hkids
    go_wp2_with fail
    go_loopw [7] (fun i wr => ∃ k : Nat, k ≤ X.length ∧ k ≤ Y.length ∧ i = .int .i64 k ∧ Hid (cmpZ X Y = cmpZ (X.drop k) (Y.drop k)) ∧ Ext w2 wr) (fun i _ => X.length - (intOf i).toNat)
    case atStart => exact ⟨0, Nat.zero_le _, Nat.zero_le _, rfl, Lib.hid rfl, xE⟩
    case round =>
      obtain ⟨k, hk1, hk2, rfl, hZ, hxr⟩ := hrel
      by_cases hlt1 : k < X.length
      · by_cases hlt2 : k < Y.length
        · obtain ⟨b, o, rfl, h0, i0, hbl⟩ := IntsR.at (hR1.mono mono_IntR hxr.ple) k hlt1
          obtain ⟨b', o', rfl, h0', i0', hbl'⟩ := IntsR.at (hR2.mono mono_IntR hxr.ple) k hlt2
          have hd := Lib.hid (cmpZ_drop hlt1 hlt2)
          generalize X[k] = x at *
          generalize Y[k] = y at *
          clear hR1 hR2 hk gk hB1 hB2
          by_cases h1 : x < y
          · have b1 : decide (x < y) = true := by simpa using h1
            have hn : Hid (cmpF f g = -1) := by show _ = _; rw [hE.out, hZ.out, hd.out, if_pos h1]; rfl
            clear hd
            go_wp2_with fail
            (refine wp_region_calm (S := fun w' => Ext _ w') (by kernel_rfl) (by kernel_rfl) (Ext.rfl' _).drew' ?_; (try simp only [List.toList_toArray]); (repeat (first | (refine walkF_skip ?_ ?_; (focus rfl); (try simp only [Act.put, List.setIfInBounds_toArray, List.set_cons_zero, List.set_cons_succ])) | (refine walkF_step (v := ?_) rfl ?_ ?_ ?_; rotate_left; (focus rfl); (focus (intro w' hS A hA K hK; (simp only [agrees, Op.operands, Call.operands, Act.eval, Array.getD_eq_getD_getElem?, List.getElem?_toArray, List.getElem?_cons_succ, List.getElem?_cons_zero, Option.getD_some, and_true, true_and, List.append_toArray, List.nil_append, List.cons_append, List.toList_toArray, Array.toList_append] at hA); (obtain ⟨hSc, hSf, hSs⟩ := hS.cells; go_simp; exact hK _ hS))); (try simp only [Act.put, List.setIfInBounds_toArray, List.set_cons_zero, List.set_cons_succ])))); refine walkF_nil ?_)
            intro w3 hw3
            go_wp2_with fail
            go_ret
            exact ⟨ret_int hn.out.symm, xE⟩
          have b1 : decide (x < y) = false := by simpa using h1
          by_cases h2 : y < x
          · have b2 : decide (y < x) = true := by simpa using h2
            have hn : Hid (cmpF f g = 1) := by show _ = _; rw [hE.out, hZ.out, hd.out, if_neg h1, if_pos h2]; rfl
            clear hd
            go_wp2_with fail
            (refine wp_region_calm (S := fun w' => Ext _ w') (by kernel_rfl) (by kernel_rfl) (Ext.rfl' _).drew' ?_; (try simp only [List.toList_toArray]); (repeat (first | (refine walkF_skip ?_ ?_; (focus rfl); (try simp only [Act.put, List.setIfInBounds_toArray, List.set_cons_zero, List.set_cons_succ])) | (refine walkF_step (v := ?_) rfl ?_ ?_ ?_; rotate_left; (focus rfl); (focus (intro w' hS A hA K hK; (simp only [agrees, Op.operands, Call.operands, Act.eval, Array.getD_eq_getD_getElem?, List.getElem?_toArray, List.getElem?_cons_succ, List.getElem?_cons_zero, Option.getD_some, and_true, true_and, List.append_toArray, List.nil_append, List.cons_append, List.toList_toArray, Array.toList_append] at hA); (obtain ⟨hSc, hSf, hSs⟩ := hS.cells; go_simp; exact hK _ hS))); (try simp only [Act.put, List.setIfInBounds_toArray, List.set_cons_zero, List.set_cons_succ])))); refine walkF_nil ?_)
            intro w3 hw3
            replace h0 := hw3.cell1 h0
            replace h0' := hw3.cell1 h0'
            replace hbl := cell_lt h0
            replace hbl' := cell_lt h0'
            go_wp2_with fail
            (refine wp_region_calm (S := fun w' => Ext _ w') (by kernel_rfl) (by kernel_rfl) (Ext.rfl' _).drew' ?_; (try simp only [List.toList_toArray]); (repeat (first | (refine walkF_skip ?_ ?_; (focus rfl); (try simp only [Act.put, List.setIfInBounds_toArray, List.set_cons_zero, List.set_cons_succ])) | (refine walkF_step (v := ?_) rfl ?_ ?_ ?_; rotate_left; (focus rfl); (focus (intro w' hS A hA K hK; (simp only [agrees, Op.operands, Call.operands, Act.eval, Array.getD_eq_getD_getElem?, List.getElem?_toArray, List.getElem?_cons_succ, List.getElem?_cons_zero, Option.getD_some, and_true, true_and, List.append_toArray, List.nil_append, List.cons_append, List.toList_toArray, Array.toList_append] at hA); (obtain ⟨hSc, hSf, hSs⟩ := hS.cells; go_simp; exact hK _ hS))); (try simp only [Act.put, List.setIfInBounds_toArray, List.set_cons_zero, List.set_cons_succ])))); refine walkF_nil ?_)
            intro w4 hw4
            go_wp2_with fail
            go_ret
            exact ⟨ret_int hn.out.symm, xE⟩
          · have b2 : decide (y < x) = false := by simpa using h2
            have hn : Hid (cmpZ X Y = cmpZ (X.drop (k + 1)) (Y.drop (k + 1))) := by show _ = _; rw [hZ.out, hd.out, if_neg h1, if_neg h2]
            clear hd
            go_wp2_with fail
            (refine wp_region_calm (S := fun w' => Ext _ w') (by kernel_rfl) (by kernel_rfl) (Ext.rfl' _).drew' ?_; (try simp only [List.toList_toArray]); (repeat (first | (refine walkF_skip ?_ ?_; (focus rfl); (try simp only [Act.put, List.setIfInBounds_toArray, List.set_cons_zero, List.set_cons_succ])) | (refine walkF_step (v := ?_) rfl ?_ ?_ ?_; rotate_left; (focus rfl); (focus (intro w' hS A hA K hK; (simp only [agrees, Op.operands, Call.operands, Act.eval, Array.getD_eq_getD_getElem?, List.getElem?_toArray, List.getElem?_cons_succ, List.getElem?_cons_zero, Option.getD_some, and_true, true_and, List.append_toArray, List.nil_append, List.cons_append, List.toList_toArray, Array.toList_append] at hA); (obtain ⟨hSc, hSf, hSs⟩ := hS.cells; go_simp; exact hK _ hS))); (try simp only [Act.put, List.setIfInBounds_toArray, List.set_cons_zero, List.set_cons_succ])))); refine walkF_nil ?_)
            intro w3 hw3
            replace h0 := hw3.cell1 h0
            replace h0' := hw3.cell1 h0'
            replace hbl := cell_lt h0
            replace hbl' := cell_lt h0'
            go_wp2_with fail
            (refine wp_region_calm (S := fun w' => Ext _ w') (by kernel_rfl) (by kernel_rfl) (Ext.rfl' _).drew' ?_; (try simp only [List.toList_toArray]); (repeat (first | (refine walkF_skip ?_ ?_; (focus rfl); (try simp only [Act.put, List.setIfInBounds_toArray, List.set_cons_zero, List.set_cons_succ])) | (refine walkF_step (v := ?_) rfl ?_ ?_ ?_; rotate_left; (focus rfl); (focus (intro w' hS A hA K hK; (simp only [agrees, Op.operands, Call.operands, Act.eval, Array.getD_eq_getD_getElem?, List.getElem?_toArray, List.getElem?_cons_succ, List.getElem?_cons_zero, Option.getD_some, and_true, true_and, List.append_toArray, List.nil_append, List.cons_append, List.toList_toArray, Array.toList_append] at hA); (obtain ⟨hSc, hSf, hSs⟩ := hS.cells; go_simp; exact hK _ hS))); (try simp only [Act.put, List.setIfInBounds_toArray, List.set_cons_zero, List.set_cons_succ])))); refine walkF_nil ?_)
            intro w4 hw4
            go_wp2_with fail
            go_roundw
            case rel => exact ⟨k + 1, by omega, by omega, by go_num, hn, xE⟩
            case measure => simp [intOf]; omega
        · have hZ0 : cmpZ X Y = 0 := by rw [hZ.out]; exact cmpZ_end (.inr (by omega))
          have := (hkids.out hZ0).2
          omega
      · have hZ0 : cmpZ X Y = 0 := by rw [hZ.out]; exact cmpZ_end (.inl (by omega))
        have hkk := (hkids.out hZ0).1
        have hE2 : Hid (cmpF f g = cmpFs f.kids g.kids) := by show _ = _; rw [hE.out, hZ0]; rfl
        replace hB1 := hB1.keep hxr
        replace hB2 := hB2.keep hxr
        replace hX := hX.then hxr
        clear hR1 hR2 hZ hE hZ0
        obtain ⟨kc, -⟩ := hB1.facts
        obtain ⟨lc, -⟩ := hB2.facts
        have hl2 := hB2.lt
        go_wp2_with fail
        go_loopw [8] (fun i wx => ∃ m : Nat, m ≤ f.kids.length ∧ i = .int .i64 m ∧ Hid (cmpF f g = cmpFs (f.kids.drop m) (g.kids.drop m)) ∧ Ext wr wx) (fun i _ => f.kids.length - (intOf i).toNat)
        case atStart => exact ⟨0, Nat.zero_le _, rfl, hE2, xE⟩
        case round =>
          obtain ⟨m, hm, rfl, hF, hxx⟩ := hrel
          replace hB1 := hB1.keep hxx
          replace hB2 := hB2.keep hxx
          replace hX := hX.then hxx
          clear kc lc hl2
          obtain ⟨kc, -⟩ := hB1.facts
          obtain ⟨lc, -⟩ := hB2.facts
          have hl2 := hB2.lt
          have hl1 := hB1.lt
          by_cases hlt : m < f.kids.length
          · have hlt2 : m < g.kids.length := by omega
            obtain ⟨b, o, p3, e3, p4, e4, rfl, h0, h1, h2, h3, hEa, hbl⟩ := FmsR.at (hk.mono mono_FmR hX.ple) m hlt
            obtain ⟨b', o', q3, f3, q4, f4, rfl, h0', h1', h2', h3', hEb, hbl'⟩ := FmsR.at (gk.mono mono_FmR hX.ple) m hlt2
            have k3 : _ = some (Value.slice (some ⟨b, o, none⟩) f.kids.length c4) := kc 3
            have l3 : _ = some (Value.slice (some ⟨b', o', none⟩) g.kids.length d4) := lc 3
            unfold fmC at hEa hEb
            have ha1 := Fm.kid_le (List.getElem_mem hlt)
            have ha2 := Fm.kid_le (List.getElem_mem hlt2)
            have hd := Lib.hid (cmpFs_drop hlt hlt2)
            have hc := Lib.hid (fun W (hW : Ext wr W) => HI.out _ (List.getElem_mem hlt) g.kids[m] _ _ W (mono_FmR _ _ _ _ (Ext.ple hW) hEa) (mono_FmR _ _ _ _ (Ext.ple hW) hEb) (by omega) (by omega))
            generalize cmpF f.kids[m] g.kids[m] = z at *
            generalize f.kids[m] = x at *
            generalize g.kids[m] = y at *
            clear hk gk hEa hEb kc lc HI
            have hlm : m < f.kids.length := hlt
            go_wp2_with fail
            (refine wp_region_I 12 (by kernel_rfl) (by kernel_rfl) ?_; simp only [List.toList_toArray, List.take_succ_cons, List.take_zero, List.drop_succ_cons, List.drop_zero])
            iterate 10 (refine wiA rfl (by simp) rfl ?_; (try simp only [List.nil_append, List.cons_append]))
            (refine walkI_is (u := ?_) rfl (by simp) rfl ?_ ?_; rotate_left; (focus (intro A w' hS hA K hK; (simp only [List.map_cons, List.map_nil, knows, Is, Op.operands, Call.operands, List.lookup_cons, List.lookup_nil, Nat.reduceBEq, Bool.false_eq_true, if_false, if_true, Act.eval, Array.getD_eq_getD_getElem?, List.getElem?_toArray, List.getElem?_cons_succ, List.getElem?_cons_zero, Option.getD_some, and_true, true_and, List.append_toArray, List.nil_append, List.cons_append, List.toList_toArray, Array.toList_append, Option.toArray, List.append_nil] at hA); first | (go_simp; refine RetV_at (hc.out _ xE) ?_; intro w5 hx5; exact hK _ hx5) | (obtain ⟨hSc, hSf, hSs⟩ := hS.cells; go_simp; exact hK _ xN))); (try simp only [List.nil_append, List.cons_append]))
            (refine wiA rfl (by simp) rfl ?_; (try simp only [List.nil_append, List.cons_append]))
            (refine walkI_nil ?_; simp only [List.nil_append, List.cons_append, fins, Is, forall_eq, Act.put, List.setIfInBounds_toArray, List.set_cons_zero, List.set_cons_succ])
            intro w6 hx6
            by_cases hz : z = 0
            · have b3 : (z == 0) = true := by simpa using hz
              have b4 : (z != 0) = false := by simpa using hz
              have hn : Hid (cmpF f g = cmpFs (f.kids.drop (m + 1)) (g.kids.drop (m + 1))) := by show _ = _; rw [hF.out, hd.out, if_neg (by simpa using hz)]
              clear hd hz
              go_wp2_with fail
              go_roundw
              case rel => exact ⟨m + 1, by omega, by go_num, hn, xE⟩
              case measure => simp [intOf]; omega
            · have b3 : (z == 0) = false := by simpa using hz
              have b4 : (z != 0) = true := by simpa using hz
              have hn : Hid (cmpF f g = z) := by show _ = _; rw [hF.out, hd.out, if_pos hz]
              clear hd
              go_wp2_with fail
              go_ret
              exact ⟨ret_int hn.out.symm, xE⟩
          · have hn : Hid (cmpF f g = 0) := by
              show _ = _
              rw [hF.out, List.drop_eq_nil_of_le (by omega)]
              rfl
            have k3 : _ = some (Value.slice a4 f.kids.length c4) := kc 3
            clear hk gk kc lc
            go_wp2_with fail
            go_ret
            exact ⟨ret_int hn.out.symm, xE⟩
theorem rsameB_c (f g : Fm) (cs ds : List Value) (w : World) (hr : FmR (ph w) cs f) (hq : FmR (ph w) ds g) (hb1 : f.bulk ≤ 400000) (hb2 : g.bulk ≤ 400000) :
    Calls Tryz.prog 24 #[.agg cs.toArray, .agg ds.toArray] w (RetV w (.bool (B (f = g)))) := by
  have hr' := hr
  have hq' := hq
  obtain ⟨a3, c3, a4, c4, rfl, -⟩ := hr.form
  obtain ⟨b3, d3, b4, d4, rfl, -⟩ := hq.form
  unfold fmC at *
  have h0 := Lib.hid (cmpF_0 f g)
  go_enter Tryz.func24, Tryz.ntmps24
  go_wp2_with fail
  refine RetV_at (rcmpB_c f g _ _ _ (mono_FmR _ _ _ _ (Ext.ple xE) hr') (mono_FmR _ _ _ _ (Ext.ple xE) hq') hb1 hb2) ?_
  intro w1 hx1
  generalize cmpF f g = z at *
  go_wp2_with fail
  go_ret
  refine ⟨ret_B ?_, xE⟩
  rw [← h0.out]; simp
end Go.Proofs.YtnpnjcaomakehaaGreat
namespace Go.Proofs.YtnpnjcaomakehaaGreat
open Go.RowKit Go.Shelf
end Go.Proofs.YtnpnjcaomakehaaGreat
