/- the law ClaimsAlts: the walk. -/
import Derived.Test.YtcbmgajaaechjaaGreatFHA
namespace Go.Proofs.YtcbmgajaaechjaaGreat
open Go.RowKit Go.Shelf
set_option linter.unusedSimpArgs false
set_option linter.unusedVariables false
theorem altsE_some {l : List Cl} (hv : validC l = 0) {i : Int} (h0 : 0 ≤ i) (hi : i < l.length) {f : List Fm} (hf : altC l i.toNat = some f) : altsE l i = (f, 0) := by
  unfold altsE
  rw [checkC_inN hv h0 hi]; simp [hf]
theorem altsE_none {l : List Cl} (hv : validC l = 0) {i : Int} (h0 : 0 ≤ i) (hi : i < l.length) (hf : altC l i.toNat = none) : altsE l i = ([], 4) := by
  unfold altsE
  rw [checkC_inN hv h0 hi]; simp [hf]
set_option maxRecDepth 100000 in
set_option maxHeartbeats 8000000 in
theorem claimsAlts_c (vl vm vk : Value) (l m k : List Int) (w : World) (hl : IntsR (ph w) vl l) (hm : IntsR (ph w) vm m) (hk : IntsR (ph w) vk k) (hml : m.length ≤ 140737488355328) :
    Calls Tryz.prog 3 #[vl, vm, vk] w (RetV w (.bool true)) := by
  have hl0 := hl
  have hm0 := hm
  have hk0 := hk
  obtain ⟨xa, xc, rfl, -, hl⟩ := hl.form
  obtain ⟨ya, yc, rfl, -, hm⟩ := hm.form
  obtain ⟨za, zc, rfl, -, hk⟩ := hk.form
  go_enter Tryz.func3, Tryz.ntmps3
  go_wp2_with fail
  refine (parents_c k _ 5 w hk0 (by omega) (by omega)).mono ?_
  rintro e w1 ⟨vp, ps, rk, rfl, hps, ok, hpm, hx1⟩
  obtain ⟨pa, pc, rfl, -, hps'⟩ := hps.form
  clear hps'
  have hn0 := ok.pos
  have hn := ok.le
  go_wp2_with fail
  refine (newTx_c ok _ w1 hps).mono ?_
  rintro e w2 ⟨B, rfl, hx2, hT⟩
  have hx := hx1.then hx2
  clear hps hx1 hx2 ok hpm
  go_wp2_with fail
  refine (some11_n l _ (ps.length : Int) w2 (hl0.mono mono_IntR hx.ple) (by omega) (by omega)).mono ?_
  rintro e w3 ⟨v1, L, rfl, hL, hl5, hall, hx3⟩
  obtain ⟨p1, q1, rfl, -, hL'⟩ := hL.form
  clear hL'
  go_wp2_with fail
  refine (someT_c m _ (ps.length : Int) 3 w3 hml (by omega) (by omega) (hm0.mono mono_IntR (hx.then hx3).ple) (by omega) (by omega)).mono ?_
  rintro e w4 ⟨ds, rfl, ⟨t, hD, htb, hok⟩, hx4⟩
  replace hD : ThingR (ph w4) ds t := mono_ThingR _ _ _ _ (fun k o hk => by
    unfold up at hk
    split at hk
    · cases hk
    · exact hk) hD
  have ht0 := okT_valid hok
  have htn := hok.2.1
  have htb' : t.bulk ≤ 1000000 := by omega
  clear htb hok
  obtain ⟨b1, d1, b2, d2, b3, d3, rfl, -⟩ := hD.form
  replace hT := (hT.keep hx3).keep hx4
  replace hL := hL.mono mono_ClR hx4.ple
  replace hx := (hx.then hx3).then hx4
  have hv : validC L = 0 := some_validN (by omega) fun i x h => (hall i x h).1
  have hw : ∀ c ∈ L, wholeN (ps.length : Int) c.body = true := fun c hc => by
    obtain ⟨j, hj, e⟩ := List.getElem_of_mem hc
    exact (hall j c (by rw [List.getElem?_eq_getElem hj, e])).2
  have hbl : ∀ c ∈ L, c.body.bulk ≤ 900000 := fun c hc => by
    obtain ⟨j, hj, e⟩ := List.getElem_of_mem hc
    have := some_bulkN (hall j c (by rw [List.getElem?_eq_getElem hj, e])).1 (by omega)
    omega
  have hbv : ∀ c ∈ L, validF c.body = 0 := fun c hc => by
    obtain ⟨j, hj, e⟩ := List.getElem_of_mem hc
    rw [← e]; exact ((validC_0 hv).2 j hj).2.2
  clear hx3 hx4 hall hl hl0 hm hm0 hk hk0
  go_upto_region 7 with (fail)
  have e5 := Ext.new w4 (.cells #[.slice b1 t.cls.length d1, .slice b2 t.vals.length d2, .slice b3 t.parts.length d3] 34)
  have o11 := Own.new w4 #[.slice b1 t.cls.length d1, .slice b2 t.vals.length d2, .slice b3 t.parts.length d3] 34
  replace hT := hT.keep e5
  replace hL := hL.mono mono_ClR e5.ple
  replace hD := mono_ThingR _ _ _ _ e5.ple hD
  replace hx := hx.then e5
  generalize w4.alloc _ = w5 at *
  generalize w4.heap.size = g11 at *
  clear e5
  go_wp2_with fail
  go_loopw [12] (fun vi wr => ∃ i : Nat, i ≤ L.length ∧ vi = .int .i64 i ∧ Ext w5 wr) (fun vi _ => L.length - (intOf vi).toNat)
  case atStart => exact ⟨0, by omega, rfl, Ext.rfl' _⟩
  case round =>
    obtain ⟨i, hi, rfl, hr⟩ := hrel
    by_cases hil : i < L.length
    · have b9 : decide ((i : Int) < L.length) = true := by simp; omega
      have b9' : (i : Int) < L.length := by omega
      replace o11 := o11.keep hr
      have u0 : wr.cell? ⟨g11, 0, none⟩ = some (.slice b1 t.cls.length d1) := o11.facts.1 0
      have u1 : wr.cell? ⟨g11, 1, none⟩ = some (.slice b2 t.vals.length d2) := o11.facts.1 1
      have u2 : wr.cell? ⟨g11, 2, none⟩ = some (.slice b3 t.parts.length d3) := o11.facts.1 2
      have ul := o11.lt
      have hLr := hL.mono mono_ClR hr.ple
      have hTr := hT.keep hr
      have hDr := mono_ThingR _ _ _ _ hr.ple hD
      have hc := meaning_c _ L i wr hLr hbl
      have hcA := fun W (e : Ext wr W) => alts_c _ L i W (hLr.mono mono_ClR e.ple) hbl
      cases hmc : meanC L i with
      | none =>
        rw [meaningE_none hv (by omega) b9' (by rw [Int.toNat_natCast]; exact hmc)] at hc
        cases hac : altC L i with
        | none =>
          rw [altsE_none hv (by omega) b9' (by rw [Int.toNat_natCast]; exact hac)] at hcA
          replace hcA := Lib.hid hcA
          clear hmc hac
          go_wp2_with fail
          refine hc.mono ?_
          rintro e w6 ⟨f3, g3, f4, g4, rfl, hx6, -⟩
          go_wp2_with fail
          refine (hcA.out _ (hx6.then (by repeat (first | (with_reducible assumption) | (with_reducible exact Ext.rfl' _) | (with_reducible exact Ext.new _ _) | (with_reducible refine Ext.alloc' ?_ _) | (with_reducible refine Ext.drew' ?_) | (with_reducible refine Ext.drewN' ?_ _) | (with_reducible refine Ext.set' ?_ ?_ _; rotate_left; (focus (first | omega | (simp; done) | (simp; omega)))) | (with_reducible refine Ext.then (b := ?_) ?_ ?_; rotate_left; rotate_left; (with_reducible assumption)))))).mono ?_
          rintro e w7 ⟨v7, rfl, hx7, -⟩
          have n1 : ((4 : Int) != 0) = true := rfl
          have n2 : ((4 : Int) != 4) = false := rfl
          have n3 : ((0 : Int) != 0) = false := rfl
          go_wp2_with fail
          go_roundw
          case rel => exact ⟨i + 1, by omega, by go_num, (hr.then (hx6.then (by repeat (first | (with_reducible assumption) | (with_reducible exact Ext.rfl' _) | (with_reducible exact Ext.new _ _) | (with_reducible refine Ext.alloc' ?_ _) | (with_reducible refine Ext.drew' ?_) | (with_reducible refine Ext.drewN' ?_ _) | (with_reducible refine Ext.set' ?_ ?_ _; rotate_left; (focus (first | omega | (simp; done) | (simp; omega)))) | (with_reducible refine Ext.then (b := ?_) ?_ ?_; rotate_left; rotate_left; (with_reducible assumption)))))).then hx7⟩
          case measure => simp [intOf]; omega
        | some fs =>
          rw [altsE_some hv (by omega) b9' (by rw [Int.toNat_natCast]; exact hac)] at hcA
          replace hcA := Lib.hid hcA
          clear hmc hac
          go_wp2_with fail
          refine hc.mono ?_
          rintro e w6 ⟨f3, g3, f4, g4, rfl, hx6, -⟩
          go_wp2_with fail
          refine (hcA.out _ (hx6.then (by repeat (first | (with_reducible assumption) | (with_reducible exact Ext.rfl' _) | (with_reducible exact Ext.new _ _) | (with_reducible refine Ext.alloc' ?_ _) | (with_reducible refine Ext.drew' ?_) | (with_reducible refine Ext.drewN' ?_ _) | (with_reducible refine Ext.set' ?_ ?_ _; rotate_left; (focus (first | omega | (simp; done) | (simp; omega)))) | (with_reducible refine Ext.then (b := ?_) ?_ ?_; rotate_left; rotate_left; (with_reducible assumption)))))).mono ?_
          rintro e w7 ⟨v7, rfl, hx7, -⟩
          have n1 : ((4 : Int) != 0) = true := rfl
          have n2 : ((4 : Int) != 4) = false := rfl
          have n3 : ((0 : Int) != 0) = false := rfl
          go_wp2_with fail
          go_roundw
          case rel => exact ⟨i + 1, by omega, by go_num, (hr.then (hx6.then (by repeat (first | (with_reducible assumption) | (with_reducible exact Ext.rfl' _) | (with_reducible exact Ext.new _ _) | (with_reducible refine Ext.alloc' ?_ _) | (with_reducible refine Ext.drew' ?_) | (with_reducible refine Ext.drewN' ?_ _) | (with_reducible refine Ext.set' ?_ ?_ _; rotate_left; (focus (first | omega | (simp; done) | (simp; omega)))) | (with_reducible refine Ext.then (b := ?_) ?_ ?_; rotate_left; rotate_left; (with_reducible assumption)))))).then hx7⟩
          case measure => simp [intOf]; omega
      | some f =>
        rw [meaningE_some hv (by omega) b9' (by rw [Int.toNat_natCast]; exact hmc)] at hc
        cases hac : altC L i with
        | none =>
          rw [altsE_none hv (by omega) b9' (by rw [Int.toNat_natCast]; exact hac)] at hcA
          replace hcA := Lib.hid hcA
          clear hmc hac
          go_wp2_with fail
          refine hc.mono ?_
          rintro e w6 ⟨f3, g3, f4, g4, rfl, hx6, -⟩
          go_wp2_with fail
          refine (hcA.out _ (hx6.then (by repeat (first | (with_reducible assumption) | (with_reducible exact Ext.rfl' _) | (with_reducible exact Ext.new _ _) | (with_reducible refine Ext.alloc' ?_ _) | (with_reducible refine Ext.drew' ?_) | (with_reducible refine Ext.drewN' ?_ _) | (with_reducible refine Ext.set' ?_ ?_ _; rotate_left; (focus (first | omega | (simp; done) | (simp; omega)))) | (with_reducible refine Ext.then (b := ?_) ?_ ?_; rotate_left; rotate_left; (with_reducible assumption)))))).mono ?_
          rintro e w7 ⟨v7, rfl, hx7, -⟩
          have n1 : ((4 : Int) != 0) = true := rfl
          have n2 : ((4 : Int) != 4) = false := rfl
          have n3 : ((0 : Int) != 0) = false := rfl
          go_wp2_with fail
          go_roundw
          case rel => exact ⟨i + 1, by omega, by go_num, (hr.then (hx6.then (by repeat (first | (with_reducible assumption) | (with_reducible exact Ext.rfl' _) | (with_reducible exact Ext.new _ _) | (with_reducible refine Ext.alloc' ?_ _) | (with_reducible refine Ext.drew' ?_) | (with_reducible refine Ext.drewN' ?_ _) | (with_reducible refine Ext.set' ?_ ?_ _; rotate_left; (focus (first | omega | (simp; done) | (simp; omega)))) | (with_reducible refine Ext.then (b := ?_) ?_ ?_; rotate_left; rotate_left; (with_reducible assumption)))))).then hx7⟩
          case measure => simp [intOf]; omega
        | some fs =>
          rw [altsE_some hv (by omega) b9' (by rw [Int.toNat_natCast]; exact hac)] at hcA
          replace hcA := Lib.hid hcA
          have hlaw := Lib.hid (alts_hold (ps := ps) (t := t) hv i hil hmc hac)
          have hfv := meanC_valid hv i hil hmc
          have hfw := mean_whole hv hw i hil hmc
          have hav := altC_valid hv i hil hac
          have haw := alt_whole hv hw i hil hac
          clear hmc hac
          go_wp2_with fail
          refine hc.mono ?_
          rintro e w6 ⟨f3, g3, f4, g4, rfl, hx6, hF⟩
          dsimp only at hF
          go_upto_region 11 with (fail)
          have e7 := Ext.new w6 (.cells #[.int .i64 f.op, .int .i64 f.n, .slice f3 f.inn.length g3, .slice f4 f.kids.length g4] 39)
          have o13 := Proofs.YtcbmgajaaechjaaGreat.Own.new w6 #[.int .i64 f.op, .int .i64 f.n, .slice f3 f.inn.length g3, .slice f4 f.kids.length g4] 39
          replace hF := mono_FmR _ _ _ _ e7.ple hF
          have hz := hx6.then e7
          generalize w6.alloc _ = w7 at *
          generalize w6.heap.size = g13 at *
          clear e7 hx6 hc
          go_wp2_with fail
          refine (hcA.out _ hz).mono ?_
          rintro e w8 ⟨v8, rfl, hx8, hA⟩
          dsimp only at hA
          replace o13 := o13.keep hx8
          replace hF := mono_FmR _ _ _ _ hx8.ple hF
          replace hz := hz.then hx8
          have y0 : w8.cell? ⟨g13, 0, none⟩ = some (.int .i64 f.op) := o13.facts.1 0
          have y1 : w8.cell? ⟨g13, 1, none⟩ = some (.int .i64 f.n) := o13.facts.1 1
          have y2 : w8.cell? ⟨g13, 2, none⟩ = some (.slice f3 f.inn.length g3) := o13.facts.1 2
          have y3 : w8.cell? ⟨g13, 3, none⟩ = some (.slice f4 f.kids.length g4) := o13.facts.1 3
          have yl := o13.lt
          replace u0 := hz.cell1 u0
          replace u1 := hz.cell1 u1
          replace u2 := hz.cell1 u2
          replace ul := cell_lt u0
          have n3 : ((0 : Int) != 0) = false := rfl
          obtain ⟨p8, q8, rfl, hfl, hA⟩ := hA.form
          clear hx8 hcA o13
          go_wp2_with fail
          refine (fholds_c hn B f t (fmC f f3 g3 f4 g4) _ w8 (hTr.keep hz) hF (mono_ThingR _ _ _ _ hz.ple hDr) hfv hfw ht0 htn htb').mono ?_
          rintro e w9 ⟨rfl, hx9⟩
          generalize hold ps f t = HF at *
          replace hz := hz.then hx9
          replace hA := hA.mono mono_FmR hx9.ple
          replace u0 := hx9.cell1 u0
          replace u1 := hx9.cell1 u1
          replace u2 := hx9.cell1 u2
          replace ul := cell_lt u0
          clear y0 y1 y2 y3 yl hF hx9 hfv hfw
          go_wp2_with fail
          go_loopw [19, 20] (fun vs vr wx => ∃ (j : Nat) (b : Bool), j ≤ fs.length ∧ vs = .bool b ∧ vr = .int .i64 j ∧ Hid (b = (fs.take j).any fun g => hold ps g t) ∧ Ext w9 wx) (fun _ vr _ => fs.length - (intOf vr).toNat)
          case atStart => exact ⟨0, false, by omega, rfl, rfl, Lib.hid (by simp), Ext.rfl' _⟩
          case round =>
            obtain ⟨j, b, hj, rfl, rfl, hbq, hr2⟩ := hrel
            replace u0 := hr2.cell1 u0
            replace u1 := hr2.cell1 u1
            replace u2 := hr2.cell1 u2
            replace ul := cell_lt u0
            by_cases hjl : j < fs.length
            · have b8 : decide ((j : Int) < fs.length) = true := by simp; omega
              have b8' : (j : Int) < fs.length := by omega
              obtain ⟨kb, ko, k3, m3, k4, m4, ek, z0, z1, z2, z3, hE, zl⟩ := FmsR.at (hA.mono mono_FmR hr2.ple) j hjl
              cases ek
              have htk := List.take_succ_eq_append_getElem hjl
              have hgv := hav _ (List.getElem_mem hjl)
              have hgw := haw _ (List.getElem_mem hjl)
              generalize fs[j] = g at *
              have hnext : Hid (((fs.take (j + 1)).any fun g => hold ps g t) = (b || hold ps g t)) := by
                show _ = _
                rw [htk, List.any_append, hbq.out]; simp
              have hzz := hz.then hr2
              have hcB := fun W (e : Ext wr W) => fholds_c hn B g t (fmC g k3 m3 k4 m4) _ W ((hTr.keep hzz).keep e) (mono_FmR _ _ _ _ e.ple hE) (mono_ThingR _ _ _ _ (hzz.then e).ple hDr) hgv hgw ht0 htn htb'
              replace hcB := Lib.hid hcB
              generalize hold ps g t = hg' at *
              clear htk hgv hgw hE
              go_upto_region 22 with (fail)
              (refine wp_region_I 12 (by kernel_rfl) (by kernel_rfl) ?_; simp only [List.toList_toArray, List.take_succ_cons, List.take_zero, List.drop_succ_cons, List.drop_zero])
              (refine walkI_is (u := ?_) rfl (by simp) rfl ?_ ?_; rotate_left; (focus (intro A w' hS hA K hK; (simp only [List.map_cons, List.map_nil, knows, Is, Op.operands, Call.operands, List.lookup_cons, List.lookup_nil, Nat.reduceBEq, Bool.false_eq_true, if_false, if_true, Act.eval, Array.getD_eq_getD_getElem?, List.getElem?_toArray, List.getElem?_cons_succ, List.getElem?_cons_zero, Option.getD_some, and_true, true_and, List.append_toArray, List.nil_append, List.cons_append, List.toList_toArray, Array.toList_append, Option.toArray, List.append_nil] at hA); first | fail | (obtain ⟨hSc, hSf, hSs⟩ := hS.cells; go_simp; exact hK _ (by first | exact Ext.rfl' _ | exact Ext.new _ _ | assumption)))); (try simp only [List.nil_append, List.cons_append]))
              (refine walkI_is (u := ?_) rfl (by simp) rfl ?_ ?_; rotate_left; (focus (intro A w' hS hA K hK; (simp only [List.map_cons, List.map_nil, knows, Is, Op.operands, Call.operands, List.lookup_cons, List.lookup_nil, Nat.reduceBEq, Bool.false_eq_true, if_false, if_true, Act.eval, Array.getD_eq_getD_getElem?, List.getElem?_toArray, List.getElem?_cons_succ, List.getElem?_cons_zero, Option.getD_some, and_true, true_and, List.append_toArray, List.nil_append, List.cons_append, List.toList_toArray, Array.toList_append, Option.toArray, List.append_nil] at hA); first | fail | (obtain ⟨hSc, hSf, hSs⟩ := hS.cells; go_simp; exact hK _ (by first | exact Ext.rfl' _ | exact Ext.new _ _ | assumption)))); (try simp only [List.nil_append, List.cons_append]))
              (refine walkI_is (u := ?_) rfl (by simp) rfl ?_ ?_; rotate_left; (focus (intro A w' hS hA K hK; (simp only [List.map_cons, List.map_nil, knows, Is, Op.operands, Call.operands, List.lookup_cons, List.lookup_nil, Nat.reduceBEq, Bool.false_eq_true, if_false, if_true, Act.eval, Array.getD_eq_getD_getElem?, List.getElem?_toArray, List.getElem?_cons_succ, List.getElem?_cons_zero, Option.getD_some, and_true, true_and, List.append_toArray, List.nil_append, List.cons_append, List.toList_toArray, Array.toList_append, Option.toArray, List.append_nil] at hA); first | fail | (obtain ⟨hSc, hSf, hSs⟩ := hS.cells; go_simp; exact hK _ (by first | exact Ext.rfl' _ | exact Ext.new _ _ | assumption)))); (try simp only [List.nil_append, List.cons_append]))
              (refine walkI_is (u := ?_) rfl (by simp) rfl ?_ ?_; rotate_left; (focus (intro A w' hS hA K hK; (simp only [List.map_cons, List.map_nil, knows, Is, Op.operands, Call.operands, List.lookup_cons, List.lookup_nil, Nat.reduceBEq, Bool.false_eq_true, if_false, if_true, Act.eval, Array.getD_eq_getD_getElem?, List.getElem?_toArray, List.getElem?_cons_succ, List.getElem?_cons_zero, Option.getD_some, and_true, true_and, List.append_toArray, List.nil_append, List.cons_append, List.toList_toArray, Array.toList_append, Option.toArray, List.append_nil] at hA); first | fail | (obtain ⟨hSc, hSf, hSs⟩ := hS.cells; go_simp; exact hK _ (by first | exact Ext.rfl' _ | exact Ext.new _ _ | assumption)))); (try simp only [List.nil_append, List.cons_append]))
              (refine walkI_is (u := ?_) rfl (by simp) rfl ?_ ?_; rotate_left; (focus (intro A w' hS hA K hK; (simp only [List.map_cons, List.map_nil, knows, Is, Op.operands, Call.operands, List.lookup_cons, List.lookup_nil, Nat.reduceBEq, Bool.false_eq_true, if_false, if_true, Act.eval, Array.getD_eq_getD_getElem?, List.getElem?_toArray, List.getElem?_cons_succ, List.getElem?_cons_zero, Option.getD_some, and_true, true_and, List.append_toArray, List.nil_append, List.cons_append, List.toList_toArray, Array.toList_append, Option.toArray, List.append_nil] at hA); first | fail | (obtain ⟨hSc, hSf, hSs⟩ := hS.cells; go_simp; exact hK _ (by first | exact Ext.rfl' _ | exact Ext.new _ _ | assumption)))); (try simp only [List.nil_append, List.cons_append]))
              (refine walkI_is (u := ?_) rfl (by simp) rfl ?_ ?_; rotate_left; (focus (intro A w' hS hA K hK; (simp only [List.map_cons, List.map_nil, knows, Is, Op.operands, Call.operands, List.lookup_cons, List.lookup_nil, Nat.reduceBEq, Bool.false_eq_true, if_false, if_true, Act.eval, Array.getD_eq_getD_getElem?, List.getElem?_toArray, List.getElem?_cons_succ, List.getElem?_cons_zero, Option.getD_some, and_true, true_and, List.append_toArray, List.nil_append, List.cons_append, List.toList_toArray, Array.toList_append, Option.toArray, List.append_nil] at hA); first | fail | (obtain ⟨hSc, hSf, hSs⟩ := hS.cells; go_simp; exact hK _ (by first | exact Ext.rfl' _ | exact Ext.new _ _ | assumption)))); (try simp only [List.nil_append, List.cons_append]))
              (refine walkI_is (u := ?_) rfl (by simp) rfl ?_ ?_; rotate_left; (focus (intro A w' hS hA K hK; (simp only [List.map_cons, List.map_nil, knows, Is, Op.operands, Call.operands, List.lookup_cons, List.lookup_nil, Nat.reduceBEq, Bool.false_eq_true, if_false, if_true, Act.eval, Array.getD_eq_getD_getElem?, List.getElem?_toArray, List.getElem?_cons_succ, List.getElem?_cons_zero, Option.getD_some, and_true, true_and, List.append_toArray, List.nil_append, List.cons_append, List.toList_toArray, Array.toList_append, Option.toArray, List.append_nil] at hA); first | (go_simp; refine (hcB.out _ hS).mono ?_; rintro e w9 ⟨rfl, hx9⟩; exact hK _ hx9) | (obtain ⟨hSc, hSf, hSs⟩ := hS.cells; go_simp; exact hK _ (by first | exact Ext.rfl' _ | exact Ext.new _ _ | assumption)))); (try simp only [List.nil_append, List.cons_append]))
              (refine walkI_is (u := ?_) rfl (by simp) rfl ?_ ?_; rotate_left; (focus (intro A w' hS hA K hK; (simp only [List.map_cons, List.map_nil, knows, Is, Op.operands, Call.operands, List.lookup_cons, List.lookup_nil, Nat.reduceBEq, Bool.false_eq_true, if_false, if_true, Act.eval, Array.getD_eq_getD_getElem?, List.getElem?_toArray, List.getElem?_cons_succ, List.getElem?_cons_zero, Option.getD_some, and_true, true_and, List.append_toArray, List.nil_append, List.cons_append, List.toList_toArray, Array.toList_append, Option.toArray, List.append_nil] at hA); first | fail | (obtain ⟨hSc, hSf, hSs⟩ := hS.cells; go_simp; exact hK _ (by first | exact Ext.rfl' _ | exact Ext.new _ _ | assumption)))); (try simp only [List.nil_append, List.cons_append]))
              (refine walkI_is (u := ?_) rfl (by simp) rfl ?_ ?_; rotate_left; (focus (intro A w' hS hA K hK; (simp only [List.map_cons, List.map_nil, knows, Is, Op.operands, Call.operands, List.lookup_cons, List.lookup_nil, Nat.reduceBEq, Bool.false_eq_true, if_false, if_true, Act.eval, Array.getD_eq_getD_getElem?, List.getElem?_toArray, List.getElem?_cons_succ, List.getElem?_cons_zero, Option.getD_some, and_true, true_and, List.append_toArray, List.nil_append, List.cons_append, List.toList_toArray, Array.toList_append, Option.toArray, List.append_nil] at hA); first | fail | (obtain ⟨hSc, hSf, hSs⟩ := hS.cells; go_simp; exact hK _ (by first | exact Ext.rfl' _ | exact Ext.new _ _ | assumption)))); (try simp only [List.nil_append, List.cons_append]))
              (refine walkI_is (u := ?_) rfl (by simp) rfl ?_ ?_; rotate_left; (focus (intro A w' hS hA K hK; (simp only [List.map_cons, List.map_nil, knows, Is, Op.operands, Call.operands, List.lookup_cons, List.lookup_nil, Nat.reduceBEq, Bool.false_eq_true, if_false, if_true, Act.eval, Array.getD_eq_getD_getElem?, List.getElem?_toArray, List.getElem?_cons_succ, List.getElem?_cons_zero, Option.getD_some, and_true, true_and, List.append_toArray, List.nil_append, List.cons_append, List.toList_toArray, Array.toList_append, Option.toArray, List.append_nil] at hA); first | fail | (obtain ⟨hSc, hSf, hSs⟩ := hS.cells; go_simp; exact hK _ (by first | exact Ext.rfl' _ | exact Ext.new _ _ | assumption)))); (try simp only [List.nil_append, List.cons_append]))
              (refine walkI_is (u := ?_) rfl (by simp) rfl ?_ ?_; rotate_left; (focus (intro A w' hS hA K hK; (simp only [List.map_cons, List.map_nil, knows, Is, Op.operands, Call.operands, List.lookup_cons, List.lookup_nil, Nat.reduceBEq, Bool.false_eq_true, if_false, if_true, Act.eval, Array.getD_eq_getD_getElem?, List.getElem?_toArray, List.getElem?_cons_succ, List.getElem?_cons_zero, Option.getD_some, and_true, true_and, List.append_toArray, List.nil_append, List.cons_append, List.toList_toArray, Array.toList_append, Option.toArray, List.append_nil] at hA); first | fail | (obtain ⟨hSc, hSf, hSs⟩ := hS.cells; go_simp; exact hK _ (by first | exact Ext.rfl' _ | exact Ext.new _ _ | assumption)))); (try simp only [List.nil_append, List.cons_append]))
              (refine walkI_is (u := ?_) rfl (by simp) rfl ?_ ?_; rotate_left; (focus (intro A w' hS hA K hK; (simp only [List.map_cons, List.map_nil, knows, Is, Op.operands, Call.operands, List.lookup_cons, List.lookup_nil, Nat.reduceBEq, Bool.false_eq_true, if_false, if_true, Act.eval, Array.getD_eq_getD_getElem?, List.getElem?_toArray, List.getElem?_cons_succ, List.getElem?_cons_zero, Option.getD_some, and_true, true_and, List.append_toArray, List.nil_append, List.cons_append, List.toList_toArray, Array.toList_append, Option.toArray, List.append_nil] at hA); first | fail | (obtain ⟨hSc, hSf, hSs⟩ := hS.cells; go_simp; exact hK _ (by first | exact Ext.rfl' _ | exact Ext.new _ _ | assumption)))); (try simp only [List.nil_append, List.cons_append]))
              (refine walkI_nil ?_; simp only [List.nil_append, List.cons_append, fins, Is, forall_eq, Act.put, List.setIfInBounds_toArray, List.set_cons_zero, List.set_cons_succ])
              intro w12 hx12
              clear hcB z0 z1 z2 z3 zl u0 u1 u2 ul
              cases b
              all_goals
                go_wp2_with fail
                go_roundw
                case rel => exact ⟨j + 1, _, by omega, rfl, by go_num, Lib.hid (by rw [hnext.out]; simp), hr2.then hx12⟩
                case measure => simp [intOf]; omega
            · obtain rfl : j = fs.length := by omega
              have b8 : decide (fs.length < fs.length) = false := by simp
              have hfin : Hid (HF = b) := by
                show _ = _
                rw [← hlaw.out, hbq.out, List.take_length]
              have hHF := hfin.out
              subst hHF
              have n1 : (HF != HF) = false := by simp
              clear hfin hbq hlaw
              go_wp2_with fail
              go_roundw
              case rel => exact ⟨i + 1, by omega, by go_num, (hr.then hz).then hr2⟩
              case measure => simp [intOf]; omega
    · obtain rfl : i = L.length := by omega
      have b9 : decide (L.length < L.length) = false := by simp
      go_wp2_with fail
      refine RetV_at (lives_c _) ?_
      intro w9 hx9
      go_wp2_with fail
      go_ret
      exact ⟨rfl, (hx.then hr).then hx9⟩
theorem claimsAltsLaw (vl vm vk : Value) (l m k : List Int) (w : World) (hl : IntsR (ph w) vl l) (hm : IntsR (ph w) vm m) (hk : IntsR (ph w) vk k) (_ : l.length ≤ 140737488355328) (hml : m.length ≤ 140737488355328) (_ : k.length ≤ 140737488355328) :
    Calls Tryz.prog 3 #[vl, vm, vk] w (RetV w (.bool true)) := claimsAlts_c vl vm vk l m k w hl hm hk hml
end Go.Proofs.YtcbmgajaaechjaaGreat
