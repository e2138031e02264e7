/- the law ClaimsNarrower: the walk. -/
import Derived.Test.YtcbmgajaaechjaaGreatFHA
namespace Go.Proofs.YtcbmgajaaechjaaGreat
open Go.RowKit Go.Shelf
set_option linter.unusedSimpArgs false
set_option linter.unusedVariables false
set_option maxRecDepth 100000 in
set_option maxHeartbeats 8000000 in
theorem claimsNarrower_c (vl vm vk : Value) (l m k : List Int) (w : World) (hl : IntsR (ph w) vl l) (hm : IntsR (ph w) vm m) (hk : IntsR (ph w) vk k) (hml : m.length ≤ 140737488355328) :
    Calls Tryz.prog 4 #[vl, vm, vk] w (RetV w (.bool true)) := by
  have hl0 := hl
  have hm0 := hm
  have hk0 := hk
  obtain ⟨xa, xc, rfl, -, hl⟩ := hl.form
  obtain ⟨ya, yc, rfl, -, hm⟩ := hm.form
  obtain ⟨za, zc, rfl, -, hk⟩ := hk.form
  go_enter Tryz.func4, Tryz.ntmps4
  go_wp2_with fail
  refine (parents_c k _ 5 w hk0 (by omega) (by omega)).mono ?_
  rintro e w1 ⟨vp, ps, rk, rfl, hps, ok, hpm, hx1⟩
  obtain ⟨pa, pc, rfl, -, hps'⟩ := hps.form
  clear hps'
  have hn0 := ok.pos
  have hn := ok.le
  go_wp2_with fail
  refine (newTx_c ok _ w1 hps).mono ?_
  rintro e w2 ⟨B, rfl, hx2, hT⟩
  have hx := hx1.then hx2
  clear hps hx1 hx2 ok hpm
  go_wp2_with fail
  refine (some11_n l _ (ps.length : Int) w2 (hl0.mono mono_IntR hx.ple) (by omega) (by omega)).mono ?_
  rintro e w3 ⟨v1, L, rfl, hL, hl5, hall, hx3⟩
  obtain ⟨p1, q1, rfl, -, hL'⟩ := hL.form
  clear hL'
  go_wp2_with fail
  refine (someT_c m _ (ps.length : Int) 3 w3 hml (by omega) (by omega) (hm0.mono mono_IntR (hx.then hx3).ple) (by omega) (by omega)).mono ?_
  rintro e w4 ⟨ds, rfl, ⟨t, hD, htb, hok⟩, hx4⟩
  replace hD : ThingR (ph w4) ds t := mono_ThingR _ _ _ _ (fun k o hk => by
    unfold up at hk
    split at hk
    · cases hk
    · exact hk) hD
  have ht0 := okT_valid hok
  have htn := hok.2.1
  have htb' : t.bulk ≤ 1000000 := by omega
  clear htb hok
  obtain ⟨b1, d1, b2, d2, b3, d3, rfl, -⟩ := hD.form
  replace hT := (hT.keep hx3).keep hx4
  replace hL := hL.mono mono_ClR hx4.ple
  replace hx := (hx.then hx3).then hx4
  have hv : validC L = 0 := some_validN (by omega) fun i x h => (hall i x h).1
  have hw : ∀ c ∈ L, wholeN (ps.length : Int) c.body = true := fun c hc => by
    obtain ⟨j, hj, e⟩ := List.getElem_of_mem hc
    exact (hall j c (by rw [List.getElem?_eq_getElem hj, e])).2
  have hbl : ∀ c ∈ L, c.body.bulk ≤ 900000 := fun c hc => by
    obtain ⟨j, hj, e⟩ := List.getElem_of_mem hc
    have := some_bulkN (hall j c (by rw [List.getElem?_eq_getElem hj, e])).1 (by omega)
    omega
  have hbv : ∀ c ∈ L, validF c.body = 0 := fun c hc => by
    obtain ⟨j, hj, e⟩ := List.getElem_of_mem hc
    rw [← e]; exact ((validC_0 hv).2 j hj).2.2
  clear hx3 hx4 hall hl hl0 hm hm0 hk hk0
  go_upto_region 7 with (fail)
  have e5 := Ext.new w4 (.cells #[.slice b1 t.cls.length d1, .slice b2 t.vals.length d2, .slice b3 t.parts.length d3] 34)
  have o11 := Own.new w4 #[.slice b1 t.cls.length d1, .slice b2 t.vals.length d2, .slice b3 t.parts.length d3] 34
  replace hT := hT.keep e5
  replace hL := hL.mono mono_ClR e5.ple
  replace hD := mono_ThingR _ _ _ _ e5.ple hD
  replace hx := hx.then e5
  generalize w4.alloc _ = w5 at *
  generalize w4.heap.size = g11 at *
  clear e5
  go_wp2_with fail
  go_loopw [12] (fun vi wr => ∃ i : Nat, i ≤ L.length ∧ vi = .int .i64 i ∧ Ext w5 wr) (fun vi _ => L.length - (intOf vi).toNat)
  case atStart => exact ⟨0, by omega, rfl, Ext.rfl' _⟩
  case round =>
    obtain ⟨i, hi, rfl, hr⟩ := hrel
    by_cases hil : i < L.length
    · have b9 : decide ((i : Int) < L.length) = true := by simp; omega
      have b9' : (i : Int) < L.length := by omega
      replace o11 := o11.keep hr
      have u0 : wr.cell? ⟨g11, 0, none⟩ = some (.slice b1 t.cls.length d1) := o11.facts.1 0
      have u1 : wr.cell? ⟨g11, 1, none⟩ = some (.slice b2 t.vals.length d2) := o11.facts.1 1
      have u2 : wr.cell? ⟨g11, 2, none⟩ = some (.slice b3 t.parts.length d3) := o11.facts.1 2
      have ul := o11.lt
      have hLr := hL.mono mono_ClR hr.ple
      have hTr := hT.keep hr
      have hDr := mono_ThingR _ _ _ _ hr.ple hD
      have hcM := fun (x : Int) W (e : Ext wr W) => meaning_c _ L x W (hLr.mono mono_ClR e.ple) hbl
      cases hmc : meanC L i with
      | none =>
        have hc := hcM i wr (Ext.rfl' _)
        rw [meaningE_none hv (by omega) b9' (by rw [Int.toNat_natCast]; exact hmc)] at hc
        clear hcM
        go_wp2_with fail
        refine hc.mono ?_
        rintro e w6 ⟨f3, g3, f4, g4, rfl, hx6, -⟩
        go_wp2_with fail
        go_roundw
        case rel => exact ⟨i + 1, by omega, by go_num, (hr.then hx6).then (by repeat (first | (with_reducible assumption) | (with_reducible exact Ext.rfl' _) | (with_reducible exact Ext.new _ _) | (with_reducible refine Ext.alloc' ?_ _) | (with_reducible refine Ext.drew' ?_) | (with_reducible refine Ext.drewN' ?_ _) | (with_reducible refine Ext.set' ?_ ?_ _; rotate_left; (focus (first | omega | (simp; done) | (simp; omega)))) | (with_reducible refine Ext.then (b := ?_) ?_ ?_; rotate_left; rotate_left; (with_reducible assumption))))⟩
        case measure => simp [intOf]; omega
      | some f =>
        have hc := hcM i wr (Ext.rfl' _)
        rw [meaningE_some hv (by omega) b9' (by rw [Int.toNat_natCast]; exact hmc)] at hc
        have hlaw := Lib.hid (mean_hold (ps := ps) (t := t) hv hil hmc)
        have hfv := meanC_valid hv i hil hmc
        have hfw := mean_whole hv hw i hil hmc
        have hrm := refs_mean hv hil hmc
        go_wp2_with fail
        refine hc.mono ?_
        rintro e w6 ⟨f3, g3, f4, g4, rfl, hx6, hF⟩
        dsimp only at hF
        go_upto_region 11 with (fail)
        have e7 := Ext.new w6 (.cells #[.int .i64 f.op, .int .i64 f.n, .slice f3 f.inn.length g3, .slice f4 f.kids.length g4] 39)
        have o13 := Proofs.YtcbmgajaaechjaaGreat.Own.new w6 #[.int .i64 f.op, .int .i64 f.n, .slice f3 f.inn.length g3, .slice f4 f.kids.length g4] 39
        replace hF := mono_FmR _ _ _ _ e7.ple hF
        have hz := hx6.then e7
        generalize w6.alloc _ = w7 at *
        generalize w6.heap.size = g13 at *
        have y0 : w7.cell? ⟨g13, 0, none⟩ = some (.int .i64 f.op) := o13.facts.1 0
        have y1 : w7.cell? ⟨g13, 1, none⟩ = some (.int .i64 f.n) := o13.facts.1 1
        have y2 : w7.cell? ⟨g13, 2, none⟩ = some (.slice f3 f.inn.length g3) := o13.facts.1 2
        have y3 : w7.cell? ⟨g13, 3, none⟩ = some (.slice f4 f.kids.length g4) := o13.facts.1 3
        have yl := o13.lt
        replace u0 := hz.cell1 u0
        replace u1 := hz.cell1 u1
        replace u2 := hz.cell1 u2
        replace ul := cell_lt u0
        clear e7 hx6 hc o13
        go_wp2_with fail
        refine (fholds_c hn B f t (fmC f f3 g3 f4 g4) _ w7 (hTr.keep hz) hF (mono_ThingR _ _ _ _ hz.ple hDr) hfv hfw ht0 htn htb').mono ?_
        rintro e w8 ⟨rfl, hx8⟩
        replace hz := hz.then hx8
        replace u0 := hx8.cell1 u0
        replace u1 := hx8.cell1 u1
        replace u2 := hx8.cell1 u2
        replace ul := cell_lt u0
        clear y0 y1 y2 y3 yl hF hx8
        have hbi := hbv _ (List.getElem_mem hil)
        have hwi := hw _ (List.getElem_mem hil)
        obtain ⟨cb, co, k1, j1, k3, j3, k4, j4, ek, z0, z1, z2, z3, z4, zl, zr, hI, hE⟩ := ClsR.atH hLr hz.ple i hil
        cases ek
        generalize hHF : hold ps f t = HF at *
        generalize L[i] = C at *
        have hB8 := mono_FmR _ _ _ _ hz.ple hE
        have hcB := fun W (e : Ext w8 W) => fholds_c hn B C.body t (fmC C.body k3 j3 k4 j4) _ W ((hTr.keep hz).keep e) (mono_FmR _ _ _ _ e.ple hB8) (mono_ThingR _ _ _ _ (hz.then e).ple hDr) hbi hwi ht0 htn htb'
        replace hcB := Lib.hid hcB
        generalize hold ps C.body t = HB at *
        clear hHF hE hfv hfw hmc hbi hwi
        go_upto_region 15 with (fail)
        (refine wp_region_I 13 (by kernel_rfl) (by kernel_rfl) ?_; simp only [List.toList_toArray, List.take_succ_cons, List.take_zero, List.drop_succ_cons, List.drop_zero])
        (refine walkI_is (u := ?_) rfl (by simp) rfl ?_ ?_; rotate_left; (focus (intro A w' hS hA K hK; (simp only [List.map_cons, List.map_nil, knows, Is, Op.operands, Call.operands, List.lookup_cons, List.lookup_nil, Nat.reduceBEq, Bool.false_eq_true, if_false, if_true, Act.eval, Array.getD_eq_getD_getElem?, List.getElem?_toArray, List.getElem?_cons_succ, List.getElem?_cons_zero, Option.getD_some, and_true, true_and, List.append_toArray, List.nil_append, List.cons_append, List.toList_toArray, Array.toList_append, Option.toArray, List.append_nil] at hA); first | fail | (obtain ⟨hSc, hSf, hSs⟩ := hS.cells; go_simp; exact hK _ (by first | exact Ext.rfl' _ | exact Ext.new _ _ | assumption)))); (try simp only [List.nil_append, List.cons_append]))
        (refine walkI_is (u := ?_) rfl (by simp) rfl ?_ ?_; rotate_left; (focus (intro A w' hS hA K hK; (simp only [List.map_cons, List.map_nil, knows, Is, Op.operands, Call.operands, List.lookup_cons, List.lookup_nil, Nat.reduceBEq, Bool.false_eq_true, if_false, if_true, Act.eval, Array.getD_eq_getD_getElem?, List.getElem?_toArray, List.getElem?_cons_succ, List.getElem?_cons_zero, Option.getD_some, and_true, true_and, List.append_toArray, List.nil_append, List.cons_append, List.toList_toArray, Array.toList_append, Option.toArray, List.append_nil] at hA); first | fail | (obtain ⟨hSc, hSf, hSs⟩ := hS.cells; go_simp; exact hK _ (by first | exact Ext.rfl' _ | exact Ext.new _ _ | assumption)))); (try simp only [List.nil_append, List.cons_append]))
        (refine walkI_is (u := ?_) rfl (by simp) rfl ?_ ?_; rotate_left; (focus (intro A w' hS hA K hK; (simp only [List.map_cons, List.map_nil, knows, Is, Op.operands, Call.operands, List.lookup_cons, List.lookup_nil, Nat.reduceBEq, Bool.false_eq_true, if_false, if_true, Act.eval, Array.getD_eq_getD_getElem?, List.getElem?_toArray, List.getElem?_cons_succ, List.getElem?_cons_zero, Option.getD_some, and_true, true_and, List.append_toArray, List.nil_append, List.cons_append, List.toList_toArray, Array.toList_append, Option.toArray, List.append_nil] at hA); first | fail | (obtain ⟨hSc, hSf, hSs⟩ := hS.cells; go_simp; exact hK _ (by first | exact Ext.rfl' _ | exact Ext.new _ _ | assumption)))); (try simp only [List.nil_append, List.cons_append]))
        (refine walkI_is (u := ?_) rfl (by simp) rfl ?_ ?_; rotate_left; (focus (intro A w' hS hA K hK; (simp only [List.map_cons, List.map_nil, knows, Is, Op.operands, Call.operands, List.lookup_cons, List.lookup_nil, Nat.reduceBEq, Bool.false_eq_true, if_false, if_true, Act.eval, Array.getD_eq_getD_getElem?, List.getElem?_toArray, List.getElem?_cons_succ, List.getElem?_cons_zero, Option.getD_some, and_true, true_and, List.append_toArray, List.nil_append, List.cons_append, List.toList_toArray, Array.toList_append, Option.toArray, List.append_nil] at hA); first | fail | (obtain ⟨hSc, hSf, hSs⟩ := hS.cells; go_simp; exact hK _ (by first | exact Ext.rfl' _ | exact Ext.new _ _ | assumption)))); (try simp only [List.nil_append, List.cons_append]))
        (refine walkI_is (u := ?_) rfl (by simp) rfl ?_ ?_; rotate_left; (focus (intro A w' hS hA K hK; (simp only [List.map_cons, List.map_nil, knows, Is, Op.operands, Call.operands, List.lookup_cons, List.lookup_nil, Nat.reduceBEq, Bool.false_eq_true, if_false, if_true, Act.eval, Array.getD_eq_getD_getElem?, List.getElem?_toArray, List.getElem?_cons_succ, List.getElem?_cons_zero, Option.getD_some, and_true, true_and, List.append_toArray, List.nil_append, List.cons_append, List.toList_toArray, Array.toList_append, Option.toArray, List.append_nil] at hA); first | fail | (obtain ⟨hSc, hSf, hSs⟩ := hS.cells; go_simp; exact hK _ (by first | exact Ext.rfl' _ | exact Ext.new _ _ | assumption)))); (try simp only [List.nil_append, List.cons_append]))
        (refine walkI_is (u := ?_) rfl (by simp) rfl ?_ ?_; rotate_left; (focus (intro A w' hS hA K hK; (simp only [List.map_cons, List.map_nil, knows, Is, Op.operands, Call.operands, List.lookup_cons, List.lookup_nil, Nat.reduceBEq, Bool.false_eq_true, if_false, if_true, Act.eval, Array.getD_eq_getD_getElem?, List.getElem?_toArray, List.getElem?_cons_succ, List.getElem?_cons_zero, Option.getD_some, and_true, true_and, List.append_toArray, List.nil_append, List.cons_append, List.toList_toArray, Array.toList_append, Option.toArray, List.append_nil] at hA); first | fail | (obtain ⟨hSc, hSf, hSs⟩ := hS.cells; go_simp; exact hK _ (by first | exact Ext.rfl' _ | exact Ext.new _ _ | assumption)))); (try simp only [List.nil_append, List.cons_append]))
        (refine walkI_is (u := ?_) rfl (by simp) rfl ?_ ?_; rotate_left; (focus (intro A w' hS hA K hK; (simp only [List.map_cons, List.map_nil, knows, Is, Op.operands, Call.operands, List.lookup_cons, List.lookup_nil, Nat.reduceBEq, Bool.false_eq_true, if_false, if_true, Act.eval, Array.getD_eq_getD_getElem?, List.getElem?_toArray, List.getElem?_cons_succ, List.getElem?_cons_zero, Option.getD_some, and_true, true_and, List.append_toArray, List.nil_append, List.cons_append, List.toList_toArray, Array.toList_append, Option.toArray, List.append_nil] at hA); first | fail | (obtain ⟨hSc, hSf, hSs⟩ := hS.cells; go_simp; exact hK _ (by first | exact Ext.rfl' _ | exact Ext.new _ _ | assumption)))); (try simp only [List.nil_append, List.cons_append]))
        (refine walkI_is (u := ?_) rfl (by simp) rfl ?_ ?_; rotate_left; (focus (intro A w' hS hA K hK; (simp only [List.map_cons, List.map_nil, knows, Is, Op.operands, Call.operands, List.lookup_cons, List.lookup_nil, Nat.reduceBEq, Bool.false_eq_true, if_false, if_true, Act.eval, Array.getD_eq_getD_getElem?, List.getElem?_toArray, List.getElem?_cons_succ, List.getElem?_cons_zero, Option.getD_some, and_true, true_and, List.append_toArray, List.nil_append, List.cons_append, List.toList_toArray, Array.toList_append, Option.toArray, List.append_nil] at hA); first | (go_simp; refine (hcB.out _ hS).mono ?_; rintro e w9 ⟨rfl, hx9⟩; exact hK _ hx9) | (obtain ⟨hSc, hSf, hSs⟩ := hS.cells; go_simp; exact hK _ (by first | exact Ext.rfl' _ | exact Ext.new _ _ | assumption)))); (try simp only [List.nil_append, List.cons_append]))
        (refine walkI_is (u := ?_) rfl (by simp) rfl ?_ ?_; rotate_left; (focus (intro A w' hS hA K hK; (simp only [List.map_cons, List.map_nil, knows, Is, Op.operands, Call.operands, List.lookup_cons, List.lookup_nil, Nat.reduceBEq, Bool.false_eq_true, if_false, if_true, Act.eval, Array.getD_eq_getD_getElem?, List.getElem?_toArray, List.getElem?_cons_succ, List.getElem?_cons_zero, Option.getD_some, and_true, true_and, List.append_toArray, List.nil_append, List.cons_append, List.toList_toArray, Array.toList_append, Option.toArray, List.append_nil] at hA); first | fail | (obtain ⟨hSc, hSf, hSs⟩ := hS.cells; go_simp; exact hK _ (by first | exact Ext.rfl' _ | exact Ext.new _ _ | assumption)))); (try simp only [List.nil_append, List.cons_append]))
        (refine walkI_is (u := ?_) rfl (by simp) rfl ?_ ?_; rotate_left; (focus (intro A w' hS hA K hK; (simp only [List.map_cons, List.map_nil, knows, Is, Op.operands, Call.operands, List.lookup_cons, List.lookup_nil, Nat.reduceBEq, Bool.false_eq_true, if_false, if_true, Act.eval, Array.getD_eq_getD_getElem?, List.getElem?_toArray, List.getElem?_cons_succ, List.getElem?_cons_zero, Option.getD_some, and_true, true_and, List.append_toArray, List.nil_append, List.cons_append, List.toList_toArray, Array.toList_append, Option.toArray, List.append_nil] at hA); first | fail | (obtain ⟨hSc, hSf, hSs⟩ := hS.cells; go_simp; exact hK _ (by first | exact Ext.rfl' _ | exact Ext.new _ _ | assumption)))); (try simp only [List.nil_append, List.cons_append]))
        (refine walkI_is (u := ?_) rfl (by simp) rfl ?_ ?_; rotate_left; (focus (intro A w' hS hA K hK; (simp only [List.map_cons, List.map_nil, knows, Is, Op.operands, Call.operands, List.lookup_cons, List.lookup_nil, Nat.reduceBEq, Bool.false_eq_true, if_false, if_true, Act.eval, Array.getD_eq_getD_getElem?, List.getElem?_toArray, List.getElem?_cons_succ, List.getElem?_cons_zero, Option.getD_some, and_true, true_and, List.append_toArray, List.nil_append, List.cons_append, List.toList_toArray, Array.toList_append, Option.toArray, List.append_nil] at hA); first | fail | (obtain ⟨hSc, hSf, hSs⟩ := hS.cells; go_simp; exact hK _ (by first | exact Ext.rfl' _ | exact Ext.new _ _ | assumption)))); (try simp only [List.nil_append, List.cons_append]))
        (refine walkI_is (u := ?_) rfl (by simp) rfl ?_ ?_; rotate_left; (focus (intro A w' hS hA K hK; (simp only [List.map_cons, List.map_nil, knows, Is, Op.operands, Call.operands, List.lookup_cons, List.lookup_nil, Nat.reduceBEq, Bool.false_eq_true, if_false, if_true, Act.eval, Array.getD_eq_getD_getElem?, List.getElem?_toArray, List.getElem?_cons_succ, List.getElem?_cons_zero, Option.getD_some, and_true, true_and, List.append_toArray, List.nil_append, List.cons_append, List.toList_toArray, Array.toList_append, Option.toArray, List.append_nil] at hA); first | fail | (obtain ⟨hSc, hSf, hSs⟩ := hS.cells; go_simp; exact hK _ (by first | exact Ext.rfl' _ | exact Ext.new _ _ | assumption)))); (try simp only [List.nil_append, List.cons_append]))
        (refine walkI_is (u := ?_) rfl (by simp) rfl ?_ ?_; rotate_left; (focus (intro A w' hS hA K hK; (simp only [List.map_cons, List.map_nil, knows, Is, Op.operands, Call.operands, List.lookup_cons, List.lookup_nil, Nat.reduceBEq, Bool.false_eq_true, if_false, if_true, Act.eval, Array.getD_eq_getD_getElem?, List.getElem?_toArray, List.getElem?_cons_succ, List.getElem?_cons_zero, Option.getD_some, and_true, true_and, List.append_toArray, List.nil_append, List.cons_append, List.toList_toArray, Array.toList_append, Option.toArray, List.append_nil] at hA); first | fail | (obtain ⟨hSc, hSf, hSs⟩ := hS.cells; go_simp; exact hK _ (by first | exact Ext.rfl' _ | exact Ext.new _ _ | assumption)))); (try simp only [List.nil_append, List.cons_append]))
        (refine walkI_nil ?_; simp only [List.nil_append, List.cons_append, fins, Is, forall_eq, Act.put, List.setIfInBounds_toArray, List.set_cons_zero, List.set_cons_succ])
        intro w9 hx9
        replace hz := hz.then hx9
        replace u0 := hx9.cell1 u0
        replace u1 := hx9.cell1 u1
        replace u2 := hx9.cell1 u2
        replace ul := cell_lt u0
        replace z0 := hx9.cell1 z0
        replace zl := cell_lt z0
        clear z1 z2 z3 z4 hB8 hcB hx9
        obtain ⟨b0, hb0⟩ : ∃ b0 : Bool, ((C.refs.length : Int) == 0) = b0 := ⟨_, rfl⟩
        have hb0' : Hid (b0 = decide (C.refs = [])) := by
          show _ = _
          rw [← hb0, Bool.eq_iff_iff]; simp
        generalize hq : (fun r : Int => hold ps ((meanC L r.toNat).getD noF) t) = q at *
        have hq' := fun r => congrFun hq r
        replace hq' := Lib.hid hq'
        replace hrm := Lib.hid hrm
        replace hcM := Lib.hid hcM
        clear hq
        go_wp2_with fail
        go_loopw [19, 20] (fun vs vr wx => ∃ (j : Nat) (b : Bool), j ≤ C.refs.length ∧ vs = .bool b ∧ vr = .int .i64 j ∧ Hid (b = (decide (C.refs = []) || (C.refs.take j).any q)) ∧ Ext w9 wx) (fun _ vr _ => C.refs.length - (intOf vr).toNat)
        case atStart => exact ⟨0, b0, by omega, rfl, rfl, Lib.hid (by rw [hb0'.out]; simp), Ext.rfl' _⟩
        case round =>
          obtain ⟨j, b, hj, rfl, rfl, hbq, hr2⟩ := hrel
          replace u0 := hr2.cell1 u0
          replace u1 := hr2.cell1 u1
          replace u2 := hr2.cell1 u2
          replace ul := cell_lt u0
          replace z0 := hr2.cell1 z0
          replace zl := cell_lt z0
          by_cases hjl : j < C.refs.length
          · have b8 : decide ((j : Int) < C.refs.length) = true := by simp; omega
            have b8' : (j : Int) < C.refs.length := by omega
            obtain ⟨rb, ro, rfl, rg, ri, rl⟩ := IntsR.at (hI.mono mono_IntR (hz.then hr2).ple) j hjl
            obtain ⟨r0, r1, g, hg⟩ := hrm.out _ (List.getElem_mem hjl)
            have htk := List.take_succ_eq_append_getElem hjl
            have hqg := hq'.out C.refs[j]
            generalize C.refs[j] = r at *
            have hrL : r < L.length := by omega
            have hqr : q r = hold ps g t := by rw [← hqg, hg]; rfl
            have hnext : Hid ((decide (C.refs = []) || (C.refs.take (j + 1)).any q) = (b || hold ps g t)) := by
              show _ = _
              rw [htk, List.any_append, hbq.out, ← hqr]; simp [Bool.or_assoc]
            have hgv := meanC_valid hv r.toNat (by omega) hg
            have hgw := mean_whole hv hw r.toNat (by omega) hg
            have hc2 := hcM.out r wr (hz.then hr2)
            rw [meaningE_some hv r0 hrL hg] at hc2
            clear htk hqg hqr hg r0 r1 hrL
            go_wp2_with fail
            refine hc2.mono ?_
            rintro e w10 ⟨h3, m3, h4, m4, rfl, hx10, hG⟩
            dsimp only at hG
            go_upto_region 23 with (fail)
            have e7 := Ext.new w10 (.cells #[.int .i64 g.op, .int .i64 g.n, .slice h3 g.inn.length m3, .slice h4 g.kids.length m4] 39)
            have o21 := Proofs.YtcbmgajaaechjaaGreat.Own.new w10 #[.int .i64 g.op, .int .i64 g.n, .slice h3 g.inn.length m3, .slice h4 g.kids.length m4] 39
            replace hG := mono_FmR _ _ _ _ e7.ple hG
            have hy := hx10.then e7
            generalize w10.alloc _ = w11 at *
            generalize w10.heap.size = g21 at *
            have y0 : w11.cell? ⟨g21, 0, none⟩ = some (.int .i64 g.op) := o21.facts.1 0
            have y1 : w11.cell? ⟨g21, 1, none⟩ = some (.int .i64 g.n) := o21.facts.1 1
            have y2 : w11.cell? ⟨g21, 2, none⟩ = some (.slice h3 g.inn.length m3) := o21.facts.1 2
            have y3 : w11.cell? ⟨g21, 3, none⟩ = some (.slice h4 g.kids.length m4) := o21.facts.1 3
            have yl := o21.lt
            replace u0 := hy.cell1 u0
            replace u1 := hy.cell1 u1
            replace u2 := hy.cell1 u2
            replace ul := cell_lt u0
            have hzy := (hz.then hr2).then hy
            clear e7 hx10 hc2 o21 z0 zl rg ri rl
            go_wp2_with fail
            refine (fholds_c hn B g t (fmC g h3 m3 h4 m4) _ w11 (hTr.keep hzy) hG (mono_ThingR _ _ _ _ hzy.ple hDr) hgv hgw ht0 htn htb').mono ?_
            rintro e w12 ⟨rfl, hx12⟩
            generalize hold ps g t = hg' at *
            clear y0 y1 y2 y3 yl hG u0 u1 u2 ul
            cases b
            all_goals
              go_wp2_with fail
              go_roundw
              case rel => exact ⟨j + 1, _, by omega, rfl, by go_num, Lib.hid (by rw [hnext.out]; simp), (hr2.then hy).then hx12⟩
              case measure => simp [intOf]; omega
          · obtain rfl : j = C.refs.length := by omega
            have b8 : decide (C.refs.length < C.refs.length) = false := by simp
            have hfin : Hid (HF = (HB && b)) := by
              show _ = _
              rw [hlaw.out, hbq.out, List.take_length]
            cases HB <;> cases b
            all_goals
              have hHF := hfin.out
              simp only [Bool.and_true, Bool.and_false, Bool.true_and, Bool.false_and] at hHF
              subst hHF
              clear hfin hbq hlaw hb0'
              have n1 : (false != false) = false := rfl
              have n2 : (true != true) = false := rfl
              go_wp2_with fail
              go_roundw
              case rel => exact ⟨i + 1, by omega, by go_num, (hr.then hz).then hr2⟩
              case measure => simp [intOf]; omega
    · obtain rfl : i = L.length := by omega
      have b9 : decide (L.length < L.length) = false := by simp
      go_wp2_with fail
      refine RetV_at (lives_c _) ?_
      intro w9 hx9
      go_wp2_with fail
      go_ret
      exact ⟨rfl, (hx.then hr).then hx9⟩
theorem claimsNarrowerLaw (vl vm vk : Value) (l m k : List Int) (w : World) (hl : IntsR (ph w) vl l) (hm : IntsR (ph w) vm m) (hk : IntsR (ph w) vk k) (_ : l.length ≤ 140737488355328) (hml : m.length ≤ 140737488355328) (_ : k.length ≤ 140737488355328) :
    Calls Tryz.prog 4 #[vl, vm, vk] w (RetV w (.bool true)) := claimsNarrower_c vl vm vk l m k w hl hm hk hml
end Go.Proofs.YtcbmgajaaechjaaGreat
