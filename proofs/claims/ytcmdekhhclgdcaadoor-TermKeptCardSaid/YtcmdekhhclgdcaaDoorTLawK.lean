/- TermKept: the walk. -/
import Derived.Test.YtcmdekhhclgdcaaDoorTSome
import Derived.Test.YtcmdekhhclgdcaaDoorTLaw2
namespace Go.Proofs.YtcmdekhhclgdcaaDoor
open Go.RowKit Go.Shelf
set_option linter.unusedSimpArgs false
set_option linter.unusedVariables false
theorem ints_atP {P : Int → Prop} (zs : List Int) (hz : ∀ z ∈ zs, P z) (w : World) : Hid (∀ j : Nat, j < zs.length → ∃ z, (w.alloc (.cells (zs.map (Value.int .i64)).toArray 3)).cell? ⟨w.heap.size, j, none⟩ = some (.int .i64 z) ∧ P z) := by
  intro j hj
  have h := (Proofs.YtcmdekhhclgdcaaDoor.Own.new w (zs.map (Value.int .i64)).toArray 3).facts.1 j
  refine ⟨zs[j], ?_, hz _ (List.getElem_mem hj)⟩
  rw [h]; simp [hj]
set_option maxRecDepth 100000 in
set_option maxHeartbeats 4000000 in
theorem termKept_c (l m : List Int) (vl vm : Value) (from' months span : Int) (w : World) (hl : IntsR (ph w) vl l) (hm : IntsR (ph w) vm m) (hf : I64 from') (hmo : I64 months) (hsp : I64 span) (hV : VL (ph w)) :
    Calls Tryd.prog 8 #[vl, vm, .int .i64 from', .int .i64 months, .int .i64 span] w (RetV w (.bool true)) := by
  have har := fun w => around_c from' 120000 w hf (by omega) (by omega)
  obtain ⟨d0, d1⟩ := aroundV_range (m := 120000) hf (by omega)
  generalize aroundV from' 120000 = d at *
  have har2 := fun w => around_c months 12 w hmo (by omega) (by omega)
  obtain ⟨n0, n1⟩ := aroundV_range (m := 12) hmo (by omega)
  generalize aroundV months 12 = n at *
  have har3 := fun w => around_c span 400 w hsp (by omega) (by omega)
  obtain ⟨s0, s1⟩ := aroundV_range (m := 400) hsp (by omega)
  generalize aroundV span 400 = s at *
  have hac := fun w hm => acts_c m vm d 6 w hm d0 (by omega) (by omega)
  have hso := some_c l vl w hl
  obtain ⟨la, lc, rfl, llen, hl⟩ := hl.form
  obtain ⟨ma, mc, rfl, mlen, hm⟩ := hm.form
  go_enter Tryd.func8, Tryd.ntmps8
  go_wp2_with fail
  refine hso.mono ?_
  rintro e w1 ⟨v, c, rfl, hx1, hc, hcE⟩
  have hown := own_c c v w1 hc
  obtain ⟨a, b, rfl, hW, hH⟩ := id hc
  obtain ⟨wa, wc, rfl, wlen, -⟩ := hW.form
  obtain ⟨ha, hc', rfl, hlen', -⟩ := hH.form
  clear hso hl hW hH
  go_wp2_with fail
  refine RetV_at hown ?_
  intro w2 hx2
  have hx12 := hx1.then hx2
  replace hc := hc.mono hx2.ple
  have hO1 := Proofs.YtcmdekhhclgdcaaDoor.Own.new w2 #[.slice wa c.1.length wc, .slice ha c.2.length hc'] 39
  have hxA := Ext.new w2 (.cells #[.slice wa c.1.length wc, .slice ha c.2.length hc'] 39)
  clear hown
  go_wp2_with fail
  refine RetV_at (har _) ?_
  intro w3 hx3
  go_wp2_with fail
  refine RetV_at (har2 _) ?_
  intro w4 hx4
  have hO1' := ((hO1.keep hx3).keep hx4).alloc (.cells #[.int .i64 d, .int .i64 n] 44)
  have hO2 := Proofs.YtcmdekhhclgdcaaDoor.Own.new w4 #[.int .i64 d, .int .i64 n] 44
  have hx24 := (hxA.then hx3).then hx4
  have hxB := (hx12.then hx24).then (Ext.new w4 (.cells #[.int .i64 d, .int .i64 n] 44))
  replace hc := hc.mono (hx24.then (Ext.new w4 (.cells #[.int .i64 d, .int .i64 n] 44))).ple
  have q0 : _ = some (Value.int .i64 d) := hO2.facts.1 0
  have g1 := hO1'.lt
  have g2 := hO2.lt
  clear har har2 hx24 hx12 hx4 hx3 hx2 hx1 hxA hO1
  go_upto_region 3 with (fail)
  generalize w4.alloc _ = W at *
  go_wp2_with fail
  refine (hac _ (hm.mono mono_IntR hxB.ple)).mono ?_
  rintro e w5 ⟨v1, xs, rfl, hx5, hxl, -, ho⟩
  have hA := ho.rep mono_ActR (noH_le _)
  clear ho hac hm
  obtain ⟨p1, c1, rfl, -⟩ := hA.form
  have hO1 := hO1'.keep hx5
  have hO2' := hO2.keep hx5
  replace hc := hc.mono hx5.ple
  have hxC := hxB.then hx5
  have hxlen : xs.length ≤ 6 := by omega
  replace g1 := Nat.lt_of_lt_of_le g1 hx5.size
  replace g2 := Nat.lt_of_lt_of_le g2 hx5.size
  clear hx5 hxB hO1' hO2 q0 hxl
  obtain ⟨f1, -⟩ := hO1.facts
  obtain ⟨f2, -⟩ := hO2'.facts
  have a0 : _ = some (Value.slice wa c.1.length wc) := f1 0
  have a1 : _ = some (Value.slice ha c.2.length hc') := f1 1
  have b0 : _ = some (Value.int .i64 d) := f2 0
  have b1 : _ = some (Value.int .i64 n) := f2 1
  clear f1 f2
  obtain ⟨e0, ha0, -⟩ := addV_add (d := d) (n := n) d0 n0 (by omega) (by omega)
  have hen := fun w hr hA hV => end_c c xs 0 0 d n (.agg #[.slice wa c.1.length wc, .slice ha c.2.length hc']) (.slice p1 xs.length c1) w hr hA (by omega) hV
  have hke := fun day w hr hA hV => kept_c c xs 0 0 d n day (.agg #[.slice wa c.1.length wc, .slice ha c.2.length hc']) (.slice p1 xs.length c1) w hr hA (by omega) hV
  have her := endE_err (xs := xs) hcE (office := 0) (file := 0) (by omega) (by omega) ha0
  have hok := fun r h => endE_ok (xs := xs) (r := r) hcE (office := 0) (file := 0) (by omega) ha0 h
  replace hke := Lib.hid hke
  generalize endE c xs 0 0 d n = rr at *
  obtain ⟨r, e⟩ := rr
  dsimp only [two] at hen her
  go_wp2_with fail
  refine RetV_at (hen _ hc hA (hV.mono hxC.ple)) ?_
  intro w6 hx6
  have hxD := hxC.then hx6
  by_cases he : e = 0
  · subst he
    obtain ⟨-, r0, r1, r2⟩ := hok r rfl
    obtain ⟨r3, r4, -, -⟩ := nextF_ok _ _ _ r2
    have hrd : d ≤ r := by
      have := (addV_ok (d := d) (n := n) (by rw [ha0])).2.2.2.1
      rw [ha0] at this; dsimp only at this; omega
    clear hok her hen r2 r0 r1 r3
    replace hc := hc.mono hx6.ple
    replace hA := hA.mono mono_ActR hx6.ple
    replace a0 := hx6.cell1 a0
    replace a1 := hx6.cell1 a1
    replace b0 := hx6.cell1 b0
    replace b1 := hx6.cell1 b1
    replace g1 := Nat.lt_of_lt_of_le g1 hx6.size
    replace g2 := Nat.lt_of_lt_of_le g2 hx6.size
    have hwr : IntKind.i64.wrap (d - 1) = d - 1 := by rw [IntKind.wrap_i64]; omega
    have hwr2 : IntKind.i64.wrap (r + 1) = r + 1 := by rw [IntKind.wrap_i64]; omega
    have hwr3 : IntKind.i64.wrap (d + s) = d + s := by rw [IntKind.wrap_i64]; omega
    go_upto_region 7 with (fail)
    (refine wp_region_I 16 (by kernel_rfl) (by kernel_rfl) ?_; simp only [List.toList_toArray, List.take_succ_cons, List.take_zero, List.drop_succ_cons, List.drop_zero])
    (repeat (first | (refine walkI_no rfl (by simp) rfl rfl rfl ?_ ?_; (focus (simp [undef]; done)); (try simp only [List.nil_append, List.cons_append])) | (refine walkI_is (u := ?_) rfl (by simp) rfl ?_ ?_; rotate_left; (focus (intro A w' hS hA K hK; (simp only [List.map_cons, List.map_nil, knows, Is, Op.operands, Call.operands, List.lookup_cons, List.lookup_nil, Nat.reduceBEq, Bool.false_eq_true, if_false, if_true, Act.eval, Array.getD_eq_getD_getElem?, List.getElem?_toArray, List.getElem?_cons_succ, List.getElem?_cons_zero, Option.getD_some, and_true, true_and, List.append_toArray, List.nil_append, List.cons_append, List.toList_toArray, Array.toList_append, Option.toArray, List.append_nil] at hA); first | (go_simp; refine RetV_at (har3 w') ?_; intro w6 hx6; exact hK _ hx6) | (obtain ⟨hSc, hSf, hSs⟩ := hS.cells; go_simp; exact hK _ (by repeat (first | (with_reducible assumption) | (with_reducible exact Ext.rfl' _) | (with_reducible exact Ext.new _ _) | (with_reducible refine Ext.alloc' ?_ _) | (with_reducible refine Ext.drew' ?_) | (with_reducible refine Ext.drewN' ?_ _) | (with_reducible refine Ext.set' ?_ ?_ _; rotate_left; (focus (first | omega | (simp; done) | (simp; omega)))) | (with_reducible refine Ext.then (b := ?_) ?_ ?_; rotate_left; rotate_left; (with_reducible assumption))))))); (try simp only [List.nil_append, List.cons_append])) | (refine walkI_yesis (u := ?_) rfl (by simp) rfl rfl rfl ?_ ?_; rotate_left; (focus (intro A w' hS hA K hK; (simp only [List.map_cons, List.map_nil, knows, Is, Op.operands, Call.operands, List.lookup_cons, List.lookup_nil, Nat.reduceBEq, Bool.false_eq_true, if_false, if_true, Act.eval, Array.getD_eq_getD_getElem?, List.getElem?_toArray, List.getElem?_cons_succ, List.getElem?_cons_zero, Option.getD_some, and_true, true_and, List.append_toArray, List.nil_append, List.cons_append, List.toList_toArray, Array.toList_append, Option.toArray, List.append_nil] at hA); first | (go_simp; refine RetV_at (har3 w') ?_; intro w6 hx6; exact hK _ hx6) | (obtain ⟨hSc, hSf, hSs⟩ := hS.cells; go_simp; exact hK _ (by repeat (first | (with_reducible assumption) | (with_reducible exact Ext.rfl' _) | (with_reducible exact Ext.new _ _) | (with_reducible refine Ext.alloc' ?_ _) | (with_reducible refine Ext.drew' ?_) | (with_reducible refine Ext.drewN' ?_ _) | (with_reducible refine Ext.set' ?_ ?_ _; rotate_left; (focus (first | omega | (simp; done) | (simp; omega)))) | (with_reducible refine Ext.then (b := ?_) ?_ ?_; rotate_left; rotate_left; (with_reducible assumption))))))); (try simp only [List.nil_append, List.cons_append]))))
    (refine walkI_nil ?_; simp only [List.nil_append, List.cons_append, fins, Is, forall_eq, Act.put, List.setIfInBounds_toArray, List.set_cons_zero, List.set_cons_succ])
    intro w7 hx7
    have hzs : Hid (∀ j : Nat, j < 5 → ∃ z, (w7.alloc (.cells #[.int .i64 (max 0 (d - 1)), .int .i64 d, .int .i64 r, .int .i64 (min 131072 (r + 1)), .int .i64 (min 131072 (d + s))] 3)).cell? ⟨w7.heap.size, j, none⟩ = some (.int .i64 z) ∧ (0 ≤ z ∧ z ≤ 131072)) :=
      ints_atP [max 0 (d - 1), d, r, min 131072 (r + 1), min 131072 (d + s)] (by intro z hz; simp at hz; omega) w7
    have hx8 := hx7.then (Ext.new w7 (.cells #[.int .i64 (max 0 (d - 1)), .int .i64 d, .int .i64 r, .int .i64 (min 131072 (r + 1)), .int .i64 (min 131072 (d + s))] 3))
    have g3 : w7.heap.size < (w7.alloc (.cells #[.int .i64 (max 0 (d - 1)), .int .i64 d, .int .i64 r, .int .i64 (min 131072 (r + 1)), .int .i64 (min 131072 (d + s))] 3)).heap.size := by simp
    clear hwr hwr2 hwr3 har3
    go_upto_region 8 with (fail)
    generalize w7.alloc _ = W8 at *
    generalize w7.heap.size = gz at *
    replace hc := hc.mono hx8.ple
    replace hA := hA.mono mono_ActR hx8.ple
    replace a0 := hx8.cell1 a0
    replace a1 := hx8.cell1 a1
    replace b0 := hx8.cell1 b0
    replace b1 := hx8.cell1 b1
    replace g1 := Nat.lt_of_lt_of_le g1 hx8.size
    replace g2 := Nat.lt_of_lt_of_le g2 hx8.size
    have hxE := hxD.then hx8
    have hV8 := hV.mono hxE.ple
    clear hx8 hx7 hxD hxC hV hx6 hO1 hO2'
    go_wp2_with fail
    go_loopw [17] (fun i wr => ∃ k : Nat, k ≤ 5 ∧ i = .int .i64 k ∧ Ext W8 wr) (fun i _ => 5 - (intOf i).toNat)
    case atStart => exact ⟨0, by omega, rfl, Ext.rfl' _⟩
    case round =>
      obtain ⟨k, hk, rfl, hxr⟩ := hrel
      by_cases hlt : k < 5
      · have hlt' : (k : Int) < 5 := by omega
        obtain ⟨z, cz, z0, z1⟩ := hzs.out k hlt
        have hkz := fun w (hx : Ext W8 w) => hke.out z w (hc.mono hx.ple) (hA.mono mono_ActR hx.ple) (hV8.mono hx.ple)
        rw [keptLaw ⟨z0, z1⟩] at hkz
        replace cz := hxr.cell1 cz
        have aa0 := hxr.cell1 a0
        have aa1 := hxr.cell1 a1
        have bb0 := hxr.cell1 b0
        have bb1 := hxr.cell1 b1
        have gg1 := Nat.lt_of_lt_of_le g1 hxr.size
        have gg2 := Nat.lt_of_lt_of_le g2 hxr.size
        have gg3 := Nat.lt_of_lt_of_le g3 hxr.size
        replace hkz := Lib.hid hkz
        clear a0 a1 b0 b1 g1 g2 g3
        have h3 : ∃ q1 q2 : Bool, decide (d ≤ z) = q1 ∧ decide (z ≤ r) = q2 := ⟨_, _, rfl, rfl⟩
        obtain ⟨q1, q2, e1, e2⟩ := h3
        rw [e1, e2] at hkz
        cases q1 <;> cases q2
        all_goals
          dsimp only [Bool.and_true, Bool.and_false, Bool.true_and, Bool.false_and] at hkz
          go_upto_region 11 with (fail)
          (refine wp_region_I 12 (by kernel_rfl) (by kernel_rfl) ?_; simp only [List.toList_toArray, List.take_succ_cons, List.take_zero, List.drop_succ_cons, List.drop_zero])
          (repeat (first | (refine walkI_no rfl (by simp) rfl rfl rfl ?_ ?_; (focus (simp [undef]; done)); (try simp only [List.nil_append, List.cons_append])) | (refine walkI_is (u := ?_) rfl (by simp) rfl ?_ ?_; rotate_left; (focus (intro A w' hS hA K hK; (simp only [List.map_cons, List.map_nil, knows, Is, Op.operands, Call.operands, List.lookup_cons, List.lookup_nil, Nat.reduceBEq, Bool.false_eq_true, if_false, if_true, Act.eval, Array.getD_eq_getD_getElem?, List.getElem?_toArray, List.getElem?_cons_succ, List.getElem?_cons_zero, Option.getD_some, and_true, true_and, List.append_toArray, List.nil_append, List.cons_append, List.toList_toArray, Array.toList_append, Option.toArray, List.append_nil] at hA); first | (go_simp; refine RetV_at (hkz.out w' (hxr.then hS)) ?_; intro w6 hx6; exact hK _ hx6) | (obtain ⟨hSc, hSf, hSs⟩ := hS.cells; go_simp; exact hK _ (by repeat (first | (with_reducible assumption) | (with_reducible exact Ext.rfl' _) | (with_reducible exact Ext.new _ _) | (with_reducible refine Ext.alloc' ?_ _) | (with_reducible refine Ext.drew' ?_) | (with_reducible refine Ext.drewN' ?_ _) | (with_reducible refine Ext.set' ?_ ?_ _; rotate_left; (focus (first | omega | (simp; done) | (simp; omega)))) | (with_reducible refine Ext.then (b := ?_) ?_ ?_; rotate_left; rotate_left; (with_reducible assumption))))))); (try simp only [List.nil_append, List.cons_append])) | (refine walkI_yesis (u := ?_) rfl (by simp) rfl rfl rfl ?_ ?_; rotate_left; (focus (intro A w' hS hA K hK; (simp only [List.map_cons, List.map_nil, knows, Is, Op.operands, Call.operands, List.lookup_cons, List.lookup_nil, Nat.reduceBEq, Bool.false_eq_true, if_false, if_true, Act.eval, Array.getD_eq_getD_getElem?, List.getElem?_toArray, List.getElem?_cons_succ, List.getElem?_cons_zero, Option.getD_some, and_true, true_and, List.append_toArray, List.nil_append, List.cons_append, List.toList_toArray, Array.toList_append, Option.toArray, List.append_nil] at hA); first | (go_simp; refine RetV_at (hkz.out w' (hxr.then hS)) ?_; intro w6 hx6; exact hK _ hx6) | (obtain ⟨hSc, hSf, hSs⟩ := hS.cells; go_simp; exact hK _ (by repeat (first | (with_reducible assumption) | (with_reducible exact Ext.rfl' _) | (with_reducible exact Ext.new _ _) | (with_reducible refine Ext.alloc' ?_ _) | (with_reducible refine Ext.drew' ?_) | (with_reducible refine Ext.drewN' ?_ _) | (with_reducible refine Ext.set' ?_ ?_ _; rotate_left; (focus (first | omega | (simp; done) | (simp; omega)))) | (with_reducible refine Ext.then (b := ?_) ?_ ?_; rotate_left; rotate_left; (with_reducible assumption))))))); (try simp only [List.nil_append, List.cons_append]))))
          (refine walkI_nil ?_; simp only [List.nil_append, List.cons_append, fins, Is, forall_eq, Act.put, List.setIfInBounds_toArray, List.set_cons_zero, List.set_cons_succ])
          intro w9 hx9
          replace cz := hx9.cell1 cz
          replace bb0 := hx9.cell1 bb0
          replace bb1 := hx9.cell1 bb1
          replace gg2 := Nat.lt_of_lt_of_le gg2 hx9.size
          replace gg3 := Nat.lt_of_lt_of_le gg3 hx9.size
          clear hkz aa0 aa1 gg1 hc hA
          go_upto_region 12 with (fail)
          (refine wp_region_I 20 (by kernel_rfl) (by kernel_rfl) ?_; simp only [List.toList_toArray, List.take_succ_cons, List.take_zero, List.drop_succ_cons, List.drop_zero])
          (repeat (first | (refine walkI_no rfl (by simp) rfl rfl rfl ?_ ?_; (focus (simp [undef]; done)); (try simp only [List.nil_append, List.cons_append])) | (refine walkI_is (u := ?_) rfl (by simp) rfl ?_ ?_; rotate_left; (focus (intro A w' hS hA K hK; (simp only [List.map_cons, List.map_nil, knows, Is, Op.operands, Call.operands, List.lookup_cons, List.lookup_nil, Nat.reduceBEq, Bool.false_eq_true, if_false, if_true, Act.eval, Array.getD_eq_getD_getElem?, List.getElem?_toArray, List.getElem?_cons_succ, List.getElem?_cons_zero, Option.getD_some, and_true, true_and, List.append_toArray, List.nil_append, List.cons_append, List.toList_toArray, Array.toList_append, Option.toArray, List.append_nil] at hA); first | fail | (obtain ⟨hSc, hSf, hSs⟩ := hS.cells; go_simp; exact hK _ (by repeat (first | (with_reducible assumption) | (with_reducible exact Ext.rfl' _) | (with_reducible exact Ext.new _ _) | (with_reducible refine Ext.alloc' ?_ _) | (with_reducible refine Ext.drew' ?_) | (with_reducible refine Ext.drewN' ?_ _) | (with_reducible refine Ext.set' ?_ ?_ _; rotate_left; (focus (first | omega | (simp; done) | (simp; omega)))) | (with_reducible refine Ext.then (b := ?_) ?_ ?_; rotate_left; rotate_left; (with_reducible assumption))))))); (try simp only [List.nil_append, List.cons_append])) | (refine walkI_yesis (u := ?_) rfl (by simp) rfl rfl rfl ?_ ?_; rotate_left; (focus (intro A w' hS hA K hK; (simp only [List.map_cons, List.map_nil, knows, Is, Op.operands, Call.operands, List.lookup_cons, List.lookup_nil, Nat.reduceBEq, Bool.false_eq_true, if_false, if_true, Act.eval, Array.getD_eq_getD_getElem?, List.getElem?_toArray, List.getElem?_cons_succ, List.getElem?_cons_zero, Option.getD_some, and_true, true_and, List.append_toArray, List.nil_append, List.cons_append, List.toList_toArray, Array.toList_append, Option.toArray, List.append_nil] at hA); first | fail | (obtain ⟨hSc, hSf, hSs⟩ := hS.cells; go_simp; exact hK _ (by repeat (first | (with_reducible assumption) | (with_reducible exact Ext.rfl' _) | (with_reducible exact Ext.new _ _) | (with_reducible refine Ext.alloc' ?_ _) | (with_reducible refine Ext.drew' ?_) | (with_reducible refine Ext.drewN' ?_ _) | (with_reducible refine Ext.set' ?_ ?_ _; rotate_left; (focus (first | omega | (simp; done) | (simp; omega)))) | (with_reducible refine Ext.then (b := ?_) ?_ ?_; rotate_left; rotate_left; (with_reducible assumption))))))); (try simp only [List.nil_append, List.cons_append]))))
          (refine walkI_nil ?_; simp only [List.nil_append, List.cons_append, fins, Is, forall_eq, Act.put, List.setIfInBounds_toArray, List.set_cons_zero, List.set_cons_succ])
          intro w10 hx10
          go_wp2_with fail
          go_roundw
          case rel => exact ⟨k + 1, by omega, rfl, (hxr.then hx9).then hx10⟩
          case measure => simp [intOf]; omega
      · have hlt' : ¬ (k : Int) < 5 := by omega
        have hlv := lives_c wr (hV8.mono hxr.ple)
        go_wp2_with fail
        refine RetV_at hlv ?_
        intro w9 hx9
        go_wp2_with fail
        go_ret
        exact ⟨rfl, (hxE.then hxr).then hx9⟩
  · have heb : (e != 0) = true := by rw [bne_iff_ne]; exact he
    have hlv := fun w hV => lives_c w hV
    replace her : e = 4 ∨ e = 5 := by omega
    clear hok hen hke he
    rcases her with rfl | rfl
    all_goals
      go_wp2_with fail
      refine RetV_at (hlv _ (hV.mono hxD.ple)) ?_
      intro w9 hx9
      go_wp2_with fail
      go_ret
      exact ⟨rfl, hxD.then hx9⟩
theorem termKeptLaw (vl vm : Value) (l m : List Int) (from' months span : Int) (w : World) (hl : IntsR (ph w) vl l) (hm : IntsR (ph w) vm m) (_ : l.length ≤ 140737488355328) (_ : m.length ≤ 140737488355328) (hf : I64 from') (hmo : I64 months) (hsp : I64 span) (hV : VL (ph w)) :
    Calls Tryd.prog 8 #[vl, vm, .int .i64 from', .int .i64 months, .int .i64 span] w (RetV w (.bool true)) := termKept_c l m vl vm from' months span w hl hm hf hmo hsp hV
end Go.Proofs.YtcmdekhhclgdcaaDoor
