/- ThingNormal: the walk of the law.; From a walk to a row's post.; From a walk to a row's post, where the arguments may lie in memory. -/
import Derived.Test.YtnhcplmcddlgnaaGreatRows
import Derived.ProofKit
import Derived.OpenShut
import Derived.Carry
import Derived.SizedLaws
import Derived.Test.YtnhcplmcddlgnaaGreatTN00
import Derived.Test.YtnhcplmcddlgnaaGreatTN07
import Derived.Test.YtnhcplmcddlgnaaGreatTN14
namespace Go.Proofs.YtnhcplmcddlgnaaGreat
open Go.RowKit Go.Shelf
set_option linter.unusedSimpArgs false
set_option linter.unusedVariables false
theorem norm_turn (x : Thing) : normE (turn x) = normE x ∧ normV (turn x) = normV x := by unfold normE normV; rw [normT_turn]; exact ⟨rfl, rfl⟩
theorem normV_bulk (x : Thing) : (normV x).bulk ≤ x.bulk := by
  cases h : normT x with
  | none => rw [(norm_no h).2]; have := x.bulk_pos; simpa [Thing.bulk, bulks] using this
  | some u =>
    by_cases hv : validV u = 0
    · rw [(norm_ok h hv).2]; exact normT_bulk h
    · rw [(norm_bad h hv).2]; have := x.bulk_pos; simpa [Thing.bulk, bulks] using this
theorem validV_01 (u : Thing) : validV u = 0 ∨ validV u = 1 ∨ validV u = 4 := by
  unfold validV ErrIf
  split
  · split
    · exact .inl rfl
    · exact .inr (.inl rfl)
  · exact .inr (.inr rfl)
/-- without an error it is the normal form, valid, and its own one -/
theorem norm_fine {x : Thing} (h : normE x = 0) : validV (normV x) = 0 ∧ normE (normV x) = 0 ∧ normV (normV x) = normV x ∧ (normV x).size = x.size := by
  cases hn : normT x with
  | none => rw [(norm_no hn).1] at h; cases h
  | some u =>
    by_cases hv : validV u = 0
    · rw [(norm_ok hn hv).2]
      have h2 := norm_ok (normT_twice hn) hv
      exact ⟨hv, h2.1, h2.2, normT_size hn⟩
    · rw [(norm_bad hn hv).1] at h; exact absurd h hv
theorem cmpT_self (a : Thing) : cmpT a a = 0 := ((cmpT_ord a).eq a).2 rfl
set_option maxRecDepth 100000 in
set_option maxHeartbeats 4000000 in
theorem normalLaw_c (vl vm : Value) (l m : List Int) (at_ how by_ : Int) (w : World) (hl : IntsR (ph w) vl l) (hm : IntsR (ph w) vm m) (hll : l.length ≤ 140737488355328) (hml : m.length ≤ 140737488355328) (hat : I64 at_) (hhow : I64 how) (hby : I64 by_) :
    Calls Tryz.prog 3 #[vl, vm, .int .i64 at_, .int .i64 how, .int .i64 by_] w (RetV w (.bool true)) := by
  go_enter Tryz.func3, Tryz.ntmps3
  go_wp2_with fail
  refine (things_c _ _ l m at_ how by_ _ (hl.mono mono_IntR (Ext.ple (by with_reducible repeat (first | assumption | exact Ext.rfl' _ | exact Ext.new _ _ | refine Ext.alloc' ?_ _ | refine Ext.drew' ?_ | refine Ext.drewN' ?_ _ | (refine Ext.set' ?_ ?_ _; rotate_left; focus (first | omega | (simp; done) | (simp; omega))) | (refine Ext.then (b := ?_) ?_ ?_; rotate_left; rotate_left; assumption))))) (hm.mono mono_IntR (Ext.ple (by with_reducible repeat (first | assumption | exact Ext.rfl' _ | exact Ext.new _ _ | refine Ext.alloc' ?_ _ | refine Ext.drew' ?_ | refine Ext.drewN' ?_ _ | (refine Ext.set' ?_ ?_ _; rotate_left; focus (first | omega | (simp; done) | (simp; omega))) | (refine Ext.then (b := ?_) ?_ ?_; rotate_left; rotate_left; assumption))))) hll hml hat hhow hby).mono ?_
  rintro e w1 ⟨H', v, xs, rfl, hO, hub, hxl, hbk, hb1⟩
  have hR := hO.rep mono_ThingR (hub.trans (up_ple (noH_le _) hb1))
  have hb : Ext w w1 := (by with_reducible repeat (first | assumption | exact Ext.rfl' _ | exact Ext.new _ _ | refine Ext.alloc' ?_ _ | refine Ext.drew' ?_ | refine Ext.drewN' ?_ _ | (refine Ext.set' ?_ ?_ _; rotate_left; focus (first | omega | (simp; done) | (simp; omega))) | (refine Ext.then (b := ?_) ?_ ?_; rotate_left; rotate_left; assumption)))
  clear hxl
  obtain ⟨a, c, rfl, hxb, hR⟩ := hR.form
  clear hO hub hb1 hl hm
  go_wp2_with fail
  go_loopw [12] (fun i wr => ∃ k : Nat, k ≤ xs.length ∧ i = .int .i64 k ∧ Ext w1 wr) (fun i _ => xs.length - (intOf i).toNat)
  case atStart => exact ⟨0, by omega, rfl, (by with_reducible repeat (first | assumption | exact Ext.rfl' _ | exact Ext.new _ _ | refine Ext.alloc' ?_ _ | refine Ext.drew' ?_ | refine Ext.drewN' ?_ _ | (refine Ext.set' ?_ ?_ _; rotate_left; focus (first | omega | (simp; done) | (simp; omega))) | (refine Ext.then (b := ?_) ?_ ?_; rotate_left; rotate_left; assumption)))⟩
  case round =>
    obtain ⟨k, hk, rfl, hwr⟩ := hrel
    by_cases hlt : k < xs.length
    · obtain ⟨b, o, b1, d1, b2, d2, b3, d3, rfl, h0, h1, h2, hE, hbl⟩ := ThingsR.at (hR.mono mono_ThingR hwr.ple) k hlt
      have hB := hbk _ (List.getElem_mem hlt)
      generalize xs[k] = x at *
      clear hR hbk
      have hnt := Lib.hid (norm_turn x)
      have hnb := normV_bulk x
      have hfi := Lib.hid (norm_fine (x := x))
      have htb := Lib.hid (turn_bulk x)
      have hc1 := Lib.hid (fun W (e : Ext wr W) => normal_c x (ph W) _ W (PLe.refl _) (mono_ThingR _ _ _ _ e.ple hE) (by omega))
      have hc2 := Lib.hid (fun W (e : Ext wr W) => rnormal_c x (ph W) _ W (PLe.refl _) (mono_ThingR _ _ _ _ e.ple hE) (by omega))
      have hc3 := Lib.hid (fun W (e : Ext wr W) => turned_c x (ph W) _ W (PLe.refl _) (mono_ThingR _ _ _ _ e.ple hE) (by omega))
      have hc4 := Lib.hid (fun W cs (hr : ThingR (ph W) cs (turn x)) => normal_c (turn x) (ph W) cs W (PLe.refl _) hr (by rw [htb.out]; omega))
      rw [hnt.out.1, hnt.out.2] at hc4
      generalize normV x = a at *
      generalize normE x = er at *
      go_wp2_with fail
      refine (hc1.out _ (by with_reducible repeat (first | assumption | exact Ext.rfl' _ | exact Ext.new _ _ | refine Ext.alloc' ?_ _ | refine Ext.drew' ?_ | refine Ext.drewN' ?_ _ | (refine Ext.set' ?_ ?_ _; rotate_left; focus (first | omega | (simp; done) | (simp; omega))) | (refine Ext.then (b := ?_) ?_ ?_; rotate_left; rotate_left; assumption)))).mono ?_
      rintro e w2 ⟨cs, rfl, hA, hx2⟩
      replace hA := mono_ThingR _ _ _ _ (up_ple (PLe.refl _) hx2) hA
      obtain ⟨f1, g1, f2, g2, f3, g3, rfl, -⟩ := hA.form
      replace h0 := hx2.cell1 h0
      replace h1 := hx2.cell1 h1
      replace h2 := hx2.cell1 h2
      replace hbl := cell_lt h0
      replace hc2 := Lib.hid (fun W (e : Ext w2 W) => hc2.out W (hx2.then e))
      replace hc3 := Lib.hid (fun W (e : Ext w2 W) => hc3.out W (hx2.then e))
      have hw2 := hx2
      clear hx2 hc1
      go_upto_region 6 with (fail)
      have ho := Proofs.YtnhcplmcddlgnaaGreat.Own.new w2 #[.slice f1 a.cls.length g1, .slice f2 a.vals.length g2, .slice f3 a.parts.length g3] 27
      have e3 : Ext w2 _ := Ext.new w2 (.cells #[.slice f1 a.cls.length g1, .slice f2 a.vals.length g2, .slice f3 a.parts.length g3] 27)
      generalize World.alloc _ _ = w3 at *
      generalize w2.heap.size = ga at *
      have x0 : w3.cell? ⟨ga, 0, none⟩ = some (.slice f1 a.cls.length g1) := ho.facts.1 0
      have x1 : w3.cell? ⟨ga, 1, none⟩ = some (.slice f2 a.vals.length g2) := ho.facts.1 1
      have x2 : w3.cell? ⟨ga, 2, none⟩ = some (.slice f3 a.parts.length g3) := ho.facts.1 2
      have xl := ho.lt
      replace hA := mono_ThingR _ _ _ _ e3.ple hA
      clear ho
      replace h0 := e3.cell1 h0
      replace h1 := e3.cell1 h1
      replace h2 := e3.cell1 h2
      replace hbl := cell_lt h0
      go_wp2_with fail
      refine (hc2.out _ (by with_reducible repeat (first | assumption | exact Ext.rfl' _ | exact Ext.new _ _ | refine Ext.alloc' ?_ _ | refine Ext.drew' ?_ | refine Ext.drewN' ?_ _ | (refine Ext.set' ?_ ?_ _; rotate_left; focus (first | omega | (simp; done) | (simp; omega))) | (refine Ext.then (b := ?_) ?_ ?_; rotate_left; rotate_left; assumption)))).mono ?_
      rintro e w4 ⟨cs, rfl, hA2, hx4⟩
      replace hA2 := mono_ThingR _ _ _ _ (up_ple (PLe.refl _) hx4) hA2
      obtain ⟨p1, q1, p2, q2, p3, q3, rfl, -⟩ := hA2.form
      replace h0 := hx4.cell1 h0
      replace h1 := hx4.cell1 h1
      replace h2 := hx4.cell1 h2
      replace hbl := cell_lt h0
      replace x0 := hx4.cell1 x0
      replace x1 := hx4.cell1 x1
      replace x2 := hx4.cell1 x2
      replace xl := cell_lt x0
      replace hA := mono_ThingR _ _ _ _ hx4.ple hA
      replace hc3 := Lib.hid (fun W (e : Ext w4 W) => hc3.out W ((e3.then hx4).then e))
      have hw4 := (hw2.then e3).then hx4
      clear hx4 e3 hw2 hc2
      go_upto_region 7 with (fail)
      have ho := Proofs.YtnhcplmcddlgnaaGreat.Own.new w4 #[.slice p1 a.cls.length q1, .slice p2 a.vals.length q2, .slice p3 a.parts.length q3] 27
      have e5 : Ext w4 _ := Ext.new w4 (.cells #[.slice p1 a.cls.length q1, .slice p2 a.vals.length q2, .slice p3 a.parts.length q3] 27)
      generalize World.alloc _ _ = w5 at *
      generalize w4.heap.size = gb at *
      have y0 : w5.cell? ⟨gb, 0, none⟩ = some (.slice p1 a.cls.length q1) := ho.facts.1 0
      have y1 : w5.cell? ⟨gb, 1, none⟩ = some (.slice p2 a.vals.length q2) := ho.facts.1 1
      have y2 : w5.cell? ⟨gb, 2, none⟩ = some (.slice p3 a.parts.length q3) := ho.facts.1 2
      have yl := ho.lt
      replace hA2 := mono_ThingR _ _ _ _ e5.ple hA2
      clear ho
      replace h0 := e5.cell1 h0
      replace h1 := e5.cell1 h1
      replace h2 := e5.cell1 h2
      replace hbl := cell_lt h0
      replace x0 := e5.cell1 x0
      replace x1 := e5.cell1 x1
      replace x2 := e5.cell1 x2
      replace xl := cell_lt x0
      replace hA := mono_ThingR _ _ _ _ e5.ple hA
      go_wp2_with fail
      refine (hc3.out _ (by with_reducible repeat (first | assumption | exact Ext.rfl' _ | exact Ext.new _ _ | refine Ext.alloc' ?_ _ | refine Ext.drew' ?_ | refine Ext.drewN' ?_ _ | (refine Ext.set' ?_ ?_ _; rotate_left; focus (first | omega | (simp; done) | (simp; omega))) | (refine Ext.then (b := ?_) ?_ ?_; rotate_left; rotate_left; assumption)))).mono ?_
      rintro e w6 ⟨cs, rfl, hT, hx6⟩
      replace hT := mono_ThingR _ _ _ _ (up_ple (PLe.refl _) hx6) hT
      obtain ⟨r1, s1, r2, s2, r3, s3, rfl, -⟩ := hT.form
      replace h0 := hx6.cell1 h0
      replace h1 := hx6.cell1 h1
      replace h2 := hx6.cell1 h2
      replace hbl := cell_lt h0
      replace x0 := hx6.cell1 x0
      replace x1 := hx6.cell1 x1
      replace x2 := hx6.cell1 x2
      replace xl := cell_lt x0
      replace y0 := hx6.cell1 y0
      replace y1 := hx6.cell1 y1
      replace y2 := hx6.cell1 y2
      replace yl := cell_lt y0
      replace hA := mono_ThingR _ _ _ _ hx6.ple hA
      replace hA2 := mono_ThingR _ _ _ _ hx6.ple hA2
      have hw6 := (hw4.then e5).then hx6
      clear hx6 e5 hw4 hc3
      go_wp2_with fail
      refine (hc4.out _ _ hT).mono ?_
      rintro e w7 ⟨cs, rfl, hA3, hx7⟩
      replace hA3 := mono_ThingR _ _ _ _ (up_ple (PLe.refl _) hx7) hA3
      obtain ⟨r4, s4, r5, s5, r6, s6, rfl, -⟩ := hA3.form
      replace h0 := hx7.cell1 h0
      replace h1 := hx7.cell1 h1
      replace h2 := hx7.cell1 h2
      replace hbl := cell_lt h0
      replace x0 := hx7.cell1 x0
      replace x1 := hx7.cell1 x1
      replace x2 := hx7.cell1 x2
      replace xl := cell_lt x0
      replace y0 := hx7.cell1 y0
      replace y1 := hx7.cell1 y1
      replace y2 := hx7.cell1 y2
      replace yl := cell_lt y0
      replace hA := mono_ThingR _ _ _ _ hx7.ple hA
      replace hA2 := mono_ThingR _ _ _ _ hx7.ple hA2
      have hw7 := hw6.then hx7
      clear hx7 hw6 hc4 hT
      go_upto_region 8 with (fail)
      have ho := Proofs.YtnhcplmcddlgnaaGreat.Own.new w7 #[.slice r4 a.cls.length s4, .slice r5 a.vals.length s5, .slice r6 a.parts.length s6] 27
      have e8 : Ext w7 _ := Ext.new w7 (.cells #[.slice r4 a.cls.length s4, .slice r5 a.vals.length s5, .slice r6 a.parts.length s6] 27)
      generalize World.alloc _ _ = w8 at *
      generalize w7.heap.size = gc at *
      have z0 : w8.cell? ⟨gc, 0, none⟩ = some (.slice r4 a.cls.length s4) := ho.facts.1 0
      have z1 : w8.cell? ⟨gc, 1, none⟩ = some (.slice r5 a.vals.length s5) := ho.facts.1 1
      have z2 : w8.cell? ⟨gc, 2, none⟩ = some (.slice r6 a.parts.length s6) := ho.facts.1 2
      have zl := ho.lt
      replace hA3 := mono_ThingR _ _ _ _ e8.ple hA3
      clear ho
      replace h0 := e8.cell1 h0
      replace h1 := e8.cell1 h1
      replace h2 := e8.cell1 h2
      replace hbl := cell_lt h0
      replace x0 := e8.cell1 x0
      replace x1 := e8.cell1 x1
      replace x2 := e8.cell1 x2
      replace xl := cell_lt x0
      replace y0 := e8.cell1 y0
      replace y1 := e8.cell1 y1
      replace y2 := e8.cell1 y2
      replace yl := cell_lt y0
      replace hA := mono_ThingR _ _ _ _ e8.ple hA
      replace hA2 := mono_ThingR _ _ _ _ e8.ple hA2
      have hw8 := hw7.then e8
      clear e8 hw7
      have hs1 := Lib.hid (rsame_c a a _ _ w8 hA hA2 (by omega) (by omega))
      have hs2 := Lib.hid (fun W (e : Ext w8 W) => rsame_c a a _ _ W (mono_ThingR _ _ _ _ e.ple hA) (mono_ThingR _ _ _ _ e.ple hA3) (by omega) (by omega))
      rw [cmpT_self] at hs1 hs2
      go_wp2_with fail
      refine RetV_at hs1.out ?_
      intro w9 hx9
      replace hs2 := Lib.hid (hs2.out w9 hx9)
      replace h0 := hx9.cell1 h0
      replace h1 := hx9.cell1 h1
      replace h2 := hx9.cell1 h2
      replace hbl := cell_lt h0
      replace x0 := hx9.cell1 x0
      replace x1 := hx9.cell1 x1
      replace x2 := hx9.cell1 x2
      replace xl := cell_lt x0
      replace z0 := hx9.cell1 z0
      replace z1 := hx9.cell1 z1
      replace z2 := hx9.cell1 z2
      replace zl := cell_lt z0
      replace hA := mono_ThingR _ _ _ _ hx9.ple hA
      have hw9 := hw8.then hx9
      clear hx9 hw8 y0 y1 y2 yl hs1 hA2 hA3
      go_wp2_with fail
      refine RetV_at hs2.out ?_
      intro w10 hx10
      replace h0 := hx10.cell1 h0
      replace h1 := hx10.cell1 h1
      replace h2 := hx10.cell1 h2
      replace hbl := cell_lt h0
      replace x0 := hx10.cell1 x0
      replace x1 := hx10.cell1 x1
      replace x2 := hx10.cell1 x2
      replace xl := cell_lt x0
      replace hA := mono_ThingR _ _ _ _ hx10.ple hA
      have hw10 := hw9.then hx10
      clear hx10 hw9 z0 z1 z2 zl hs2
      by_cases her : er = 0
      · subst her
        obtain ⟨hf1, hf2, hf3, hf4⟩ := hfi.out rfl
        replace hE := mono_ThingR _ _ _ _ hw10.ple hE
        have hc5 := Lib.hid (normal_c a (ph w10) _ w10 (PLe.refl _) hA (by omega))
        rw [hf2, hf3] at hc5
        have hsz1 := a.size_le_bulk
        have hsz2 := x.size_le_bulk
        replace hf1 := Lib.hid hf1
        replace hf4 := Lib.hid hf4
        clear hf2 hf3 hfi
        go_wp2_with fail
        refine hc5.out.mono ?_
        rintro e w11 ⟨cs, rfl, hD, hx11⟩
        replace hD := mono_ThingR _ _ _ _ (up_ple (PLe.refl _) hx11) hD
        obtain ⟨r4, s4, r5, s5, r6, s6, rfl, -⟩ := hD.form
        replace h0 := hx11.cell1 h0
        replace h1 := hx11.cell1 h1
        replace h2 := hx11.cell1 h2
        replace hbl := cell_lt h0
        replace x0 := hx11.cell1 x0
        replace x1 := hx11.cell1 x1
        replace x2 := hx11.cell1 x2
        replace xl := cell_lt x0
        replace hA := mono_ThingR _ _ _ _ hx11.ple hA
        replace hE := mono_ThingR _ _ _ _ hx11.ple hE
        have hw11 := hw10.then hx11
        clear hx11 hw10 hc5
        go_upto_region 12 with (fail)
        have ho := Proofs.YtnhcplmcddlgnaaGreat.Own.new w11 #[.slice r4 a.cls.length s4, .slice r5 a.vals.length s5, .slice r6 a.parts.length s6] 27
        have e12 : Ext w11 _ := Ext.new w11 (.cells #[.slice r4 a.cls.length s4, .slice r5 a.vals.length s5, .slice r6 a.parts.length s6] 27)
        generalize World.alloc _ _ = w12 at *
        generalize w11.heap.size = gd at *
        have z0 : w12.cell? ⟨gd, 0, none⟩ = some (.slice r4 a.cls.length s4) := ho.facts.1 0
        have z1 : w12.cell? ⟨gd, 1, none⟩ = some (.slice r5 a.vals.length s5) := ho.facts.1 1
        have z2 : w12.cell? ⟨gd, 2, none⟩ = some (.slice r6 a.parts.length s6) := ho.facts.1 2
        have zl := ho.lt
        replace hD := mono_ThingR _ _ _ _ e12.ple hD
        clear ho
        replace h0 := e12.cell1 h0
        replace h1 := e12.cell1 h1
        replace h2 := e12.cell1 h2
        replace hbl := cell_lt h0
        replace x0 := e12.cell1 x0
        replace x1 := e12.cell1 x1
        replace x2 := e12.cell1 x2
        replace xl := cell_lt x0
        replace hA := mono_ThingR _ _ _ _ e12.ple hA
        replace hE := mono_ThingR _ _ _ _ e12.ple hE
        have hw12 := hw11.then e12
        clear e12 hw11
        have hs3 := Lib.hid (fun W (e : Ext w12 W) => rsame_c a a _ _ W (mono_ThingR _ _ _ _ e.ple hD) (mono_ThingR _ _ _ _ e.ple hA) (by omega) (by omega))
        rw [cmpT_self] at hs3
        have hv3 := Lib.hid (fun W (e : Ext w12 W) => valid_c a _ W (mono_ThingR _ _ _ _ e.ple hA) (by omega))
        rw [hf1.out] at hv3
        have hz3 := Lib.hid (fun W (e : Ext w12 W) => size_c a _ W (mono_ThingR _ _ _ _ e.ple hA) (by omega))
        have hz4 := Lib.hid (fun W (e : Ext w12 W) => size_r x _ W (mono_ThingR _ _ _ _ e.ple hE) (by omega))
        rw [hf4.out] at hz3
        clear hD hA hE
        (refine wp_region_I 23 (by kernel_rfl) (by kernel_rfl) ?_; simp only [List.toList_toArray, List.take_succ_cons, List.take_zero, List.drop_succ_cons, List.drop_zero])
        iterate 3 (refine walkI_is (u := ?_) rfl (by simp) rfl ?_ ?_; rotate_left; (focus (intro A w' hS hA K hK; (simp only [List.map_cons, List.map_nil, knows, Is, Op.operands, Call.operands, List.lookup_cons, List.lookup_nil, Nat.reduceBEq, Bool.false_eq_true, if_false, if_true, Act.eval, Array.getD_eq_getD_getElem?, List.getElem?_toArray, List.getElem?_cons_succ, List.getElem?_cons_zero, Option.getD_some, and_true, true_and, List.append_toArray, List.nil_append, List.cons_append, List.toList_toArray, Array.toList_append, Option.toArray, List.append_nil] at hA); first | fail | (obtain ⟨hSc, hSf, hSs⟩ := hS.cells; go_simp; exact hK _ (by first | exact Ext.rfl' _ | exact Ext.new _ _ | assumption)))); (try simp only [List.nil_append, List.cons_append]))
        iterate 2 (refine walkI_yesis (u := ?_) rfl (by simp) rfl rfl rfl ?_ ?_; rotate_left; (focus (intro A w' hS hA K hK; (simp only [List.map_cons, List.map_nil, knows, Is, Op.operands, Call.operands, List.lookup_cons, List.lookup_nil, Nat.reduceBEq, Bool.false_eq_true, if_false, if_true, Act.eval, Array.getD_eq_getD_getElem?, List.getElem?_toArray, List.getElem?_cons_succ, List.getElem?_cons_zero, Option.getD_some, and_true, true_and, List.append_toArray, List.nil_append, List.cons_append, List.toList_toArray, Array.toList_append, Option.toArray, List.append_nil] at hA); first | fail | (obtain ⟨hSc, hSf, hSs⟩ := hS.cells; go_simp; exact hK _ (by first | exact Ext.rfl' _ | exact Ext.new _ _ | assumption)))); (try simp only [List.nil_append, List.cons_append]))
        (refine walkI_yesis (u := ?_) rfl (by simp) rfl rfl rfl ?_ ?_; rotate_left; (focus (intro A w' hS hA K hK; (simp only [List.map_cons, List.map_nil, knows, Is, Op.operands, Call.operands, List.lookup_cons, List.lookup_nil, Nat.reduceBEq, Bool.false_eq_true, if_false, if_true, Act.eval, Array.getD_eq_getD_getElem?, List.getElem?_toArray, List.getElem?_cons_succ, List.getElem?_cons_zero, Option.getD_some, and_true, true_and, List.append_toArray, List.nil_append, List.cons_append, List.toList_toArray, Array.toList_append, Option.toArray, List.append_nil] at hA); first | (go_simp; refine RetV_at (hs3.out _ hS) ?_; intro w'' hx''; exact hK _ hx'') | (obtain ⟨hSc, hSf, hSs⟩ := hS.cells; go_simp; exact hK _ (by first | exact Ext.rfl' _ | exact Ext.new _ _ | assumption)))); (try simp only [List.nil_append, List.cons_append]))
        (refine walkI_yesis (u := ?_) rfl (by simp) rfl rfl rfl ?_ ?_; rotate_left; (focus (intro A w' hS hA K hK; (simp only [List.map_cons, List.map_nil, knows, Is, Op.operands, Call.operands, List.lookup_cons, List.lookup_nil, Nat.reduceBEq, Bool.false_eq_true, if_false, if_true, Act.eval, Array.getD_eq_getD_getElem?, List.getElem?_toArray, List.getElem?_cons_succ, List.getElem?_cons_zero, Option.getD_some, and_true, true_and, List.append_toArray, List.nil_append, List.cons_append, List.toList_toArray, Array.toList_append, Option.toArray, List.append_nil] at hA); first | fail | (obtain ⟨hSc, hSf, hSs⟩ := hS.cells; go_simp; exact hK _ (by first | exact Ext.rfl' _ | exact Ext.new _ _ | assumption)))); (try simp only [List.nil_append, List.cons_append]))
        iterate 2 (refine walkI_is (u := ?_) rfl (by simp) rfl ?_ ?_; rotate_left; (focus (intro A w' hS hA K hK; (simp only [List.map_cons, List.map_nil, knows, Is, Op.operands, Call.operands, List.lookup_cons, List.lookup_nil, Nat.reduceBEq, Bool.false_eq_true, if_false, if_true, Act.eval, Array.getD_eq_getD_getElem?, List.getElem?_toArray, List.getElem?_cons_succ, List.getElem?_cons_zero, Option.getD_some, and_true, true_and, List.append_toArray, List.nil_append, List.cons_append, List.toList_toArray, Array.toList_append, Option.toArray, List.append_nil] at hA); first | fail | (obtain ⟨hSc, hSf, hSs⟩ := hS.cells; go_simp; exact hK _ (by first | exact Ext.rfl' _ | exact Ext.new _ _ | assumption)))); (try simp only [List.nil_append, List.cons_append]))
        (refine walkI_yesis (u := ?_) rfl (by simp) rfl rfl rfl ?_ ?_; rotate_left; (focus (intro A w' hS hA K hK; (simp only [List.map_cons, List.map_nil, knows, Is, Op.operands, Call.operands, List.lookup_cons, List.lookup_nil, Nat.reduceBEq, Bool.false_eq_true, if_false, if_true, Act.eval, Array.getD_eq_getD_getElem?, List.getElem?_toArray, List.getElem?_cons_succ, List.getElem?_cons_zero, Option.getD_some, and_true, true_and, List.append_toArray, List.nil_append, List.cons_append, List.toList_toArray, Array.toList_append, Option.toArray, List.append_nil] at hA); first | fail | (obtain ⟨hSc, hSf, hSs⟩ := hS.cells; go_simp; exact hK _ (by first | exact Ext.rfl' _ | exact Ext.new _ _ | assumption)))); (try simp only [List.nil_append, List.cons_append]))
        (refine walkI_yesis (u := ?_) rfl (by simp) rfl rfl rfl ?_ ?_; rotate_left; (focus (intro A w' hS hA K hK; (simp only [List.map_cons, List.map_nil, knows, Is, Op.operands, Call.operands, List.lookup_cons, List.lookup_nil, Nat.reduceBEq, Bool.false_eq_true, if_false, if_true, Act.eval, Array.getD_eq_getD_getElem?, List.getElem?_toArray, List.getElem?_cons_succ, List.getElem?_cons_zero, Option.getD_some, and_true, true_and, List.append_toArray, List.nil_append, List.cons_append, List.toList_toArray, Array.toList_append, Option.toArray, List.append_nil] at hA); first | (go_simp; refine RetV_at (hv3.out _ hS) ?_; intro w'' hx''; exact hK _ hx'') | (obtain ⟨hSc, hSf, hSs⟩ := hS.cells; go_simp; exact hK _ (by first | exact Ext.rfl' _ | exact Ext.new _ _ | assumption)))); (try simp only [List.nil_append, List.cons_append]))
        (refine walkI_yesis (u := ?_) rfl (by simp) rfl rfl rfl ?_ ?_; rotate_left; (focus (intro A w' hS hA K hK; (simp only [List.map_cons, List.map_nil, knows, Is, Op.operands, Call.operands, List.lookup_cons, List.lookup_nil, Nat.reduceBEq, Bool.false_eq_true, if_false, if_true, Act.eval, Array.getD_eq_getD_getElem?, List.getElem?_toArray, List.getElem?_cons_succ, List.getElem?_cons_zero, Option.getD_some, and_true, true_and, List.append_toArray, List.nil_append, List.cons_append, List.toList_toArray, Array.toList_append, Option.toArray, List.append_nil] at hA); first | fail | (obtain ⟨hSc, hSf, hSs⟩ := hS.cells; go_simp; exact hK _ (by first | exact Ext.rfl' _ | exact Ext.new _ _ | assumption)))); (try simp only [List.nil_append, List.cons_append]))
        iterate 2 (refine walkI_is (u := ?_) rfl (by simp) rfl ?_ ?_; rotate_left; (focus (intro A w' hS hA K hK; (simp only [List.map_cons, List.map_nil, knows, Is, Op.operands, Call.operands, List.lookup_cons, List.lookup_nil, Nat.reduceBEq, Bool.false_eq_true, if_false, if_true, Act.eval, Array.getD_eq_getD_getElem?, List.getElem?_toArray, List.getElem?_cons_succ, List.getElem?_cons_zero, Option.getD_some, and_true, true_and, List.append_toArray, List.nil_append, List.cons_append, List.toList_toArray, Array.toList_append, Option.toArray, List.append_nil] at hA); first | fail | (obtain ⟨hSc, hSf, hSs⟩ := hS.cells; go_simp; exact hK _ (by first | exact Ext.rfl' _ | exact Ext.new _ _ | assumption)))); (try simp only [List.nil_append, List.cons_append]))
        (refine walkI_yesis (u := ?_) rfl (by simp) rfl rfl rfl ?_ ?_; rotate_left; (focus (intro A w' hS hA K hK; (simp only [List.map_cons, List.map_nil, knows, Is, Op.operands, Call.operands, List.lookup_cons, List.lookup_nil, Nat.reduceBEq, Bool.false_eq_true, if_false, if_true, Act.eval, Array.getD_eq_getD_getElem?, List.getElem?_toArray, List.getElem?_cons_succ, List.getElem?_cons_zero, Option.getD_some, and_true, true_and, List.append_toArray, List.nil_append, List.cons_append, List.toList_toArray, Array.toList_append, Option.toArray, List.append_nil] at hA); first | fail | (obtain ⟨hSc, hSf, hSs⟩ := hS.cells; go_simp; exact hK _ (by first | exact Ext.rfl' _ | exact Ext.new _ _ | assumption)))); (try simp only [List.nil_append, List.cons_append]))
        (refine walkI_yesis (u := ?_) rfl (by simp) rfl rfl rfl ?_ ?_; rotate_left; (focus (intro A w' hS hA K hK; (simp only [List.map_cons, List.map_nil, knows, Is, Op.operands, Call.operands, List.lookup_cons, List.lookup_nil, Nat.reduceBEq, Bool.false_eq_true, if_false, if_true, Act.eval, Array.getD_eq_getD_getElem?, List.getElem?_toArray, List.getElem?_cons_succ, List.getElem?_cons_zero, Option.getD_some, and_true, true_and, List.append_toArray, List.nil_append, List.cons_append, List.toList_toArray, Array.toList_append, Option.toArray, List.append_nil] at hA); first | (go_simp; refine RetV_at (hz3.out _ hS) ?_; intro w'' hx''; exact hK _ hx'') | (obtain ⟨hSc, hSf, hSs⟩ := hS.cells; go_simp; exact hK _ (by first | exact Ext.rfl' _ | exact Ext.new _ _ | assumption)))); (try simp only [List.nil_append, List.cons_append]))
        iterate 4 (refine walkI_yesis (u := ?_) rfl (by simp) rfl rfl rfl ?_ ?_; rotate_left; (focus (intro A w' hS hA K hK; (simp only [List.map_cons, List.map_nil, knows, Is, Op.operands, Call.operands, List.lookup_cons, List.lookup_nil, Nat.reduceBEq, Bool.false_eq_true, if_false, if_true, Act.eval, Array.getD_eq_getD_getElem?, List.getElem?_toArray, List.getElem?_cons_succ, List.getElem?_cons_zero, Option.getD_some, and_true, true_and, List.append_toArray, List.nil_append, List.cons_append, List.toList_toArray, Array.toList_append, Option.toArray, List.append_nil] at hA); first | fail | (obtain ⟨hSc, hSf, hSs⟩ := hS.cells; go_simp; exact hK _ (by first | exact Ext.rfl' _ | exact Ext.new _ _ | assumption)))); (try simp only [List.nil_append, List.cons_append]))
        (refine walkI_yesis (u := ?_) rfl (by simp) rfl rfl rfl ?_ ?_; rotate_left; (focus (intro A w' hS hA K hK; (simp only [List.map_cons, List.map_nil, knows, Is, Op.operands, Call.operands, List.lookup_cons, List.lookup_nil, Nat.reduceBEq, Bool.false_eq_true, if_false, if_true, Act.eval, Array.getD_eq_getD_getElem?, List.getElem?_toArray, List.getElem?_cons_succ, List.getElem?_cons_zero, Option.getD_some, and_true, true_and, List.append_toArray, List.nil_append, List.cons_append, List.toList_toArray, Array.toList_append, Option.toArray, List.append_nil] at hA); first | (go_simp; refine RetV_at (hz4.out _ hS) ?_; intro w'' hx''; exact hK _ hx'') | (obtain ⟨hSc, hSf, hSs⟩ := hS.cells; go_simp; exact hK _ (by first | exact Ext.rfl' _ | exact Ext.new _ _ | assumption)))); (try simp only [List.nil_append, List.cons_append]))
        (refine walkI_yesis (u := ?_) rfl (by simp) rfl rfl rfl ?_ ?_; rotate_left; (focus (intro A w' hS hA K hK; (simp only [List.map_cons, List.map_nil, knows, Is, Op.operands, Call.operands, List.lookup_cons, List.lookup_nil, Nat.reduceBEq, Bool.false_eq_true, if_false, if_true, Act.eval, Array.getD_eq_getD_getElem?, List.getElem?_toArray, List.getElem?_cons_succ, List.getElem?_cons_zero, Option.getD_some, and_true, true_and, List.append_toArray, List.nil_append, List.cons_append, List.toList_toArray, Array.toList_append, Option.toArray, List.append_nil] at hA); first | fail | (obtain ⟨hSc, hSf, hSs⟩ := hS.cells; go_simp; exact hK _ (by first | exact Ext.rfl' _ | exact Ext.new _ _ | assumption)))); (try simp only [List.nil_append, List.cons_append]))
        (refine walkI_is (u := ?_) rfl (by simp) rfl ?_ ?_; rotate_left; (focus (intro A w' hS hA K hK; (simp only [List.map_cons, List.map_nil, knows, Is, Op.operands, Call.operands, List.lookup_cons, List.lookup_nil, Nat.reduceBEq, Bool.false_eq_true, if_false, if_true, Act.eval, Array.getD_eq_getD_getElem?, List.getElem?_toArray, List.getElem?_cons_succ, List.getElem?_cons_zero, Option.getD_some, and_true, true_and, List.append_toArray, List.nil_append, List.cons_append, List.toList_toArray, Array.toList_append, Option.toArray, List.append_nil] at hA); first | fail | (obtain ⟨hSc, hSf, hSs⟩ := hS.cells; go_simp; exact hK _ (by first | exact Ext.rfl' _ | exact Ext.new _ _ | assumption)))); (try simp only [List.nil_append, List.cons_append]))
        (refine walkI_nil ?_; simp only [List.nil_append, List.cons_append, fins, Is, forall_eq, Act.put, List.setIfInBounds_toArray, List.set_cons_zero, List.set_cons_succ])
        intro w13 hx13
        have hw13 := (hwr.then hw12).then hx13
        clear x0 x1 x2 xl h0 h1 h2 hbl z0 z1 z2 zl hs3 hv3 hz3 hz4 hx13
        go_wp2_with fail
        go_roundw
        case rel => exact ⟨k + 1, by omega, by go_num, hw13⟩
        case measure => simp [intOf]; omega
      · have her1 : (er == 0) = false := by simpa using her
        replace her := Lib.hid her
        clear hfi hA x0 x1 x2 xl h0 h1 h2 hbl
        go_wp2_with fail
        go_roundw
        case rel => exact ⟨k + 1, by omega, by go_num, hwr.then hw10⟩
        case measure => simp [intOf]; omega
    · clear hR
      go_wp2_with fail
      refine RetV_at (lives_c _) ?_
      intro w3 hb3
      go_wp2_with fail
      go_ret
      exact ⟨rfl, (by with_reducible repeat (first | assumption | exact Ext.rfl' _ | exact Ext.new _ _ | refine Ext.alloc' ?_ _ | refine Ext.drew' ?_ | refine Ext.drewN' ?_ _ | (refine Ext.set' ?_ ?_ _; rotate_left; focus (first | omega | (simp; done) | (simp; omega))) | (refine Ext.then (b := ?_) ?_ ?_; rotate_left; rotate_left; assumption)))⟩
end Go.Proofs.YtnhcplmcddlgnaaGreat
namespace Go.Proofs.YtnhcplmcddlgnaaGreat
open Go.ChangeShapes Go.WideShapes Go.ChangeAt Go.RowKit
set_option linter.unusedVariables false
/-- the row's post, where the call makes at most new blocks and nothing is asked again -/
theorem post_of_ext {H : Type} {enc : TypeId × Value → H} {P : Program} {f : Func} {s : ChangeSpec} {apart fresh handsOn : Bool} {W W' : World} {args : Array Value} {v : Value} {ds gs : List (DataW H)} {before pa pv : List MemPlace}
    (hW : DataW.Whole enc P f.params.toList s.vars apart W args.toList ds gs before)
    (hres : ∀ (b : Nat) (sp : Nat → Bool) (hd : Bool), DataW.TrodAll enc P W' b sp hd f.resultTypes.toList (v.resultList f.resultTypes.size) (s.fn H (ds ++ gs)).results [])
    (hargs : ∀ sp : Nat → Bool, (∀ p ∈ before, sp p.block = true) → DataW.TrodAll enc P W' 0 sp true f.params.toList args.toList (s.fn H (ds ++ gs)).args pa)
    (hvars : ∀ sp : Nat → Bool, (∀ p ∈ before, sp p.block = true) → DataW.TrodVars enc P W' sp s.vars (s.fn H (ds ++ gs)).vars pv)
    (hps : before = pa ++ pv) (he : Ext W W') : s.post enc P f apart fresh handsOn false W args v W' := by
  have hold : ∀ p ∈ before, (fun b => decide (b < W.heap.size)) p.block = true := fun p hp => by simpa using hW.lt p hp
  exact ⟨ds, gs, before, [], pa, pv, hW, hres _ _ _, hargs _ hold, hvars _ hold, he.frame _, fun h => by cases h⟩
theorem wf_i64 {a : Int} (h : (Lit.int .i64 a).wf = true) : I64 a := by
  simpa [Lit.wf, IntKind.min, IntKind.max, IntKind.signed, IntKind.bits, I64] using h
end Go.Proofs.YtnhcplmcddlgnaaGreat
namespace Go.Proofs.YtnhcplmcddlgnaaGreat
open Go.ChangeShapes Go.WideShapes Go.ChangeAt Go.RowKit
set_option linter.unusedVariables false
section
variable {H : Type} {enc : TypeId × Value → H} {P : Program}
theorem trodAll_back (hl : laidOutB P = true) {W W' : World} (hb : Ext W W') : ∀ {ts : List TypeId} {vs : List Value} {ds : List (DataW H)} {ps : List MemPlace}, (∀ t ∈ ts, P.readableRec t = true ∧ t < P.types.size) →
    DataW.TrodAll enc P W 0 (fun _ => true) true ts vs ds ps → (∀ x ∈ ps, x.block < W.heap.size) → DataW.TrodAll enc P W' 0 (fun b => decide (b < W.heap.size)) true ts vs ds ps
  | [], [], [], ps, _, h, _ => h
  | t :: ts, v :: vs, d :: ds, ps, hr, h, hlt => by
    obtain ⟨p, q, h1, h2, rfl⟩ := h
    exact ⟨p, q, Below.trod hl (hr t (by simp)).1 (hr t (by simp)).2 h1 hb (fun x hx => hlt x (by simp [hx])), trodAll_back hl hb (fun t ht => hr t (by simp [ht])) h2 (fun x hx => hlt x (by simp [hx])), rfl⟩
  | [], _ :: _, _, _, _, h, _ => h.elim
  | [], [], _ :: _, _, _, h, _ => h.elim
  | _ :: _, [], _, _, _, h, _ => h.elim
  | _ :: _, _ :: _, [], _, _, h, _ => h.elim
/-- the post of a law: true comes back, and the arguments read as before -/
theorem post_law {f : Func} {s : ChangeSpec} {apart fresh handsOn : Bool} {W W' : World} {args : Array Value} {v : Value} {ds gs : List (DataW H)} {before : List MemPlace}
    (hW : DataW.Whole enc P f.params.toList s.vars apart W args.toList ds gs before) (hv : s.vars = [])
    (hres : ∀ (b : Nat) (sp : Nat → Bool) (hd : Bool), DataW.TrodAll enc P W' b sp hd f.resultTypes.toList (v.resultList f.resultTypes.size) (s.fn H (ds ++ gs)).results [])
    (hargs : (s.fn H (ds ++ gs)).args = ds) (hvs : (s.fn H (ds ++ gs)).vars = []) (hl : laidOutB P = true) (hr : ∀ t ∈ f.params.toList, P.readableRec t = true ∧ t < P.types.size) (he : Ext W W') : s.post enc P f apart fresh handsOn false W args v W' := by
  have hold : ∀ p ∈ before, p.block < W.heap.size := fun p hp => hW.lt p hp
  have hW' := hW
  obtain ⟨p, q, hA, hV, rfl, -, -⟩ := hW
  rw [hv] at hV
  obtain ⟨rfl, rfl⟩ : gs = [] ∧ q = [] := by
    cases gs with
    | nil => exact ⟨rfl, hV⟩
    | cons _ _ => exact hV.elim
  refine ⟨ds, [], p ++ [], [], p, [], hW', hres _ _ _, ?_, ?_, he.frame _, fun h => by cases h⟩
  · rw [hargs]; exact trodAll_back hl he hr hA fun x hx => hold x (by simp [hx])
  · rw [hv, hvs]; rfl
theorem wf_i64m {n : Int} (h : (Lit.int .i64 n).wf = true) : I64 n := wf_i64 h
/-- a []int that came in -/
theorem openI {t e : TypeId} {v : Value} {d : DataW H} {p : List MemPlace} {W : World} {base : Nat} (ht : P.underlying t = some (.slice e)) (he : P.underlying e = some (.int .i64)) (hc : P.cellsOf e = 1) (hby : P.bytesOf e = 8)
    (hval : Value.okWide P W .any base t v) (h : DataW.Trod enc P W 0 (fun _ => true) true t v d p) {ts : List TypeId} {ds : List (DataW H)} (hsz : (DataW.weightsEach P ts ds).all (· ≤ reachBytes) = true) (j : Nat) (hj : ts[j]? = some t) (hd : ds[j]? = some d) :
    ∃ l : List Int, IntsR (ph W) v l ∧ l.length ≤ 17592186043904 := by
  obtain ⟨a0, len, cap, rfl⟩ := okWide_slice ht hval
  obtain ⟨fuel, hf⟩ := h
  rcases open_ints ht he hc hf with ⟨hcs, hx⟩ | ⟨a, len', cap', zs, hcs, _, hl, hm, hz, hx, hcell, hwz⟩
  · simp [Value.cells] at hcs
    obtain ⟨rfl, rfl, rfl⟩ := hcs
    exact ⟨[], SliceRep.nil _ _ _, by simp⟩
  · simp [Value.cells] at hcs
    obtain ⟨rfl, rfl, rfl⟩ := hcs
    simp only [Prod.mk.injEq] at hx
    obtain ⟨rfl, -⟩ := hx
    simp only [if_true] at hz
    have hreach : len * 8 ≤ 140737488351232 := by
      have := sized_slice hsz (j := j) hj hd ht
      rw [hby] at this
      simp only [lits, List.length_map, List.length_take, List.length_drop, reachBytes] at this
      omega
    have hlen : (zs.take len).length = len := by rw [List.length_take]; omega
    refine ⟨zs.take len, ⟨some a, cap, by rw [hlen], by omega, hm, ?_⟩, by omega⟩
    by_cases h0 : len = 0
    · left; rw [h0]; rfl
    · right
      obtain ⟨b, off, spot⟩ := a
      have hspot : spot = none := by simpa [Addr.add] using World.cell?_spot (hcell 0 (by omega))
      subst hspot
      refine ⟨b, off, rfl, RowRep.of fun i hi => ?_⟩
      rw [hlen] at hi
      have h1 := hcell i (by omega)
      have h2 : zs.getD i 0 = (zs.take len)[i]'(by omega) := by
        rw [List.getElem_take]; simp [List.getD, show i < zs.length by omega]
      refine ⟨[.int .i64 ((zs.take len)[i]'(by omega))], rfl, fun j hj => ?_, rfl, wf_i64m (hwz _ ?_)⟩
      · obtain rfl : j = 0 := by omega
        rw [addo, cell_ph, h2] at h1
        simpa using h1
      · rw [List.getElem_take]; exact List.getElem_mem _
theorem wf_u8 {n : Int} (h : (Lit.int .u8 n).wf = true) : 0 ≤ n ∧ n < 256 := by
  have := bounds_u8 h; omega
/-- a []byte that came in -/
theorem openB {t e : TypeId} {v : Value} {d : DataW H} {p : List MemPlace} {W : World} {base : Nat} (ht : P.underlying t = some (.slice e)) (he : P.underlying e = some (.int .u8)) (hc : P.cellsOf e = 1) (hby : P.bytesOf e = 1)
    (hval : Value.okWide P W .any base t v) (h : DataW.Trod enc P W 0 (fun _ => true) true t v d p) {ts : List TypeId} {ds : List (DataW H)} (hsz : (DataW.weightsEach P ts ds).all (· ≤ reachBytes) = true) (j : Nat) (hj : ts[j]? = some t) (hd : ds[j]? = some d) :
    ∃ l : List UInt8, BytesR (ph W) v l ∧ l.length ≤ 140737488351232 := by
  obtain ⟨a0, len, cap, rfl⟩ := okWide_slice ht hval
  obtain ⟨fuel, hf⟩ := h
  rcases open_ints ht he hc hf with ⟨hcs, hx⟩ | ⟨a, len', cap', zs, hcs, _, hl, hm, hz, hx, hcell, hwz⟩
  · simp [Value.cells] at hcs
    obtain ⟨rfl, rfl, rfl⟩ := hcs
    exact ⟨[], SliceRep.nil _ _ _, by simp⟩
  · simp [Value.cells] at hcs
    obtain ⟨rfl, rfl, rfl⟩ := hcs
    simp only [Prod.mk.injEq] at hx
    obtain ⟨rfl, -⟩ := hx
    simp only [if_true] at hz
    have hreach : len * 1 ≤ 140737488351232 := by
      have := sized_slice hsz (j := j) hj hd ht
      rw [hby] at this
      simp only [lits, List.length_map, List.length_take, List.length_drop, reachBytes] at this
      omega
    have hlen : ((zs.take len).map fun n => UInt8.ofNat n.toNat).length = len := by rw [List.length_map, List.length_take]; omega
    refine ⟨(zs.take len).map fun n => UInt8.ofNat n.toNat, ⟨some a, cap, by rw [hlen], by omega, hm, ?_⟩, by omega⟩
    by_cases h0 : len = 0
    · left; rw [h0]; rfl
    · right
      obtain ⟨b, off, spot⟩ := a
      have hspot : spot = none := by simpa [Addr.add] using World.cell?_spot (hcell 0 (by omega))
      subst hspot
      refine ⟨b, off, rfl, RowRep.of fun i hi => ?_⟩
      rw [hlen] at hi
      have h1 := hcell i (by omega)
      have h2 : zs.getD i 0 = zs[i]'(by omega) := by simp [List.getD, show i < zs.length by omega]
      have h3 := wf_u8 (hwz (zs[i]'(by omega)) (List.getElem_mem _))
      refine ⟨[.int .u8 (zs[i]'(by omega))], rfl, fun j hj => ?_, ?_⟩
      · obtain rfl : j = 0 := by omega
        rw [addo, cell_ph, h2] at h1
        simpa using h1
      · simp only [ByteR, List.getElem_map, List.getElem_take, List.cons.injEq, and_true]
        refine val_int ?_
        have h4 : (zs[i]'(by omega)).toNat < 256 := by omega
        rw [UInt8.toNat_ofNat_of_lt' (by simpa using h4)]
        omega
end
end Go.Proofs.YtnhcplmcddlgnaaGreat
