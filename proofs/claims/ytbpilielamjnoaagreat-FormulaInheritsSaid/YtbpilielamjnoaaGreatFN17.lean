/- the law FormulaInherits: the walk.; From a walk to a row's post.; From a walk to a row's post, where the arguments may lie in memory. -/
import Derived.Test.YtbpilielamjnoaaGreatRows
import Derived.ProofKit
import Derived.OpenShut
import Derived.Carry
import Derived.SizedLaws
import Derived.Test.YtbpilielamjnoaaGreatFN00
import Derived.Test.YtbpilielamjnoaaGreatFN16
namespace Go.Proofs.YtbpilielamjnoaaGreat
open Go.RowKit Go.Shelf
set_option linter.unusedSimpArgs false
set_option linter.unusedVariables false
def ThingW (w : World) (cl : Int) (e : Ending) (w' : World) : Prop := ∃ t b1 d1 b2 d2 b3 d3, e = .returned (.agg #[.slice b1 t.cls.length d1, .slice b2 t.vals.length d2, .slice b3 t.parts.length d3]) ∧ Ext w w' ∧
  ThingR (ph w') [.slice b1 t.cls.length d1, .slice b2 t.vals.length d2, .slice b3 t.parts.length d3] t ∧ validV t = 0 ∧ t.formed ∧ t.clsLt cl ∧ t.bulk ≤ 20000 ∧ ThingR (up noH w w') [.slice b1 t.cls.length d1, .slice b2 t.vals.length d2, .slice b3 t.parts.length d3] t
theorem thingW_c (l : List Int) (vl : Value) (cl : Int) (d : Nat) (D : Int) (w : World) (hD : (d : Int) = D) (hd1 : 1 ≤ d) (hd : d ≤ 4) (hlen : l.length ≤ 140737488355328) (hl : IntsR (ph w) vl l) (hc0 : 0 ≤ cl) (hc1 : cl ≤ 64) :
    Calls Tryz.prog 20 #[vl, .int .i64 cl, .int .i64 D] w (ThingW w cl) := by
  subst hD
  refine (someT_c l vl cl d w hlen hd hd1 hl hc0 hc1).mono ?_
  rintro e w4 ⟨ds, rfl, ⟨t, hD, htb, hok⟩, hx4⟩
  have hD0 := hD
  replace hD : ThingR (ph w4) ds t := mono_ThingR _ _ _ _ (fun k o hk => by
    unfold up at hk
    split at hk
    · cases hk
    · exact hk) hD
  obtain ⟨b1, d1, b2, d2, b3, d3, rfl, -⟩ := hD.form
  obtain ⟨h1, h2, h3, h4⟩ := hok
  have hp : 4 ^ (d - 1) ≤ 64 ∧ 68 * 4 ^ d ≤ 20000 := by
    have : d = 1 ∨ d = 2 ∨ d = 3 ∨ d = 4 := by omega
    rcases this with rfl | rfl | rfl | rfl <;> decide
  have hv : validV t = 0 := by
    unfold validV
    rw [if_pos ⟨by omega, by omega⟩]
    exact if_pos h1
  exact ⟨t, b1, d1, b2, d2, b3, d3, rfl, hx4, hD, hv, h1, h2, by omega, hD0⟩
def ClsI (t : Thing) (d : Int) (old : Option Int) (k : Nat) (xs : List Int) : Prop := (∀ y ∈ xs, 0 ≤ y ∧ y < k) ∧ (∀ y : Int, 0 ≤ y → y < k → (y = d ∨ (some y ≠ old ∧ y ∈ t.cls)) → y ∈ xs) ∧ xs.length ≤ k
theorem ClsI.skip {t : Thing} {d : Int} {old : Option Int} {k : Nat} {xs : List Int} (h : ClsI t d old k xs) (h1 : (k : Int) ≠ d) (h2 : ¬ (some (k : Int) ≠ old ∧ (k : Int) ∈ t.cls)) : ClsI t d old (k + 1) xs := by
  refine ⟨fun y hy => by have := h.1 y hy; omega, fun y h3 h4 h5 => ?_, by have := h.2.2; omega⟩
  by_cases e : y < k
  · exact h.2.1 y h3 e h5
  · have : y = k := by omega
    subst this
    rcases h5 with h5 | h5
    · exact absurd h5 h1
    · exact absurd h5 h2
theorem ClsI.put {t : Thing} {d : Int} {old : Option Int} {k : Nat} {xs : List Int} (h : ClsI t d old k xs) : ClsI t d old (k + 1) (xs ++ [(k : Int)]) := by
  refine ⟨fun y hy => ?_, fun y h3 h4 h5 => ?_, by have := h.2.2; simp; omega⟩
  · rcases List.mem_append.1 hy with hy | hy
    · have := h.1 y hy; omega
    · rw [List.mem_singleton.1 hy]; omega
  · by_cases e : y < k
    · exact List.mem_append_left _ (h.2.1 y h3 e h5)
    · have : y = k := by omega
      subst this; simp
theorem quoK_I {x : Int} (h : I64 x) : I64 (x.tdiv 7) ∧ IntKind.i64.wrap (x.tdiv 7) = x.tdiv 7 := by
  unfold I64 at *
  have h1 : -9223372036854775808 ≤ x.tdiv 7 ∧ x.tdiv 7 ≤ 9223372036854775807 := by
    rcases Int.le_total 0 x with h0 | h0
    · have := Int.tdiv_eq_ediv_of_nonneg (b := 7) h0; omega
    · have e : x.tdiv 7 = -((-x).tdiv 7) := by rw [Int.neg_tdiv, Int.neg_neg]
      have := Int.tdiv_eq_ediv_of_nonneg (a := -x) (b := 7) (by omega); omega
  exact ⟨h1, by rw [IntKind.wrap_i64]; omega⟩
theorem thing_reps {h : PH} {t : Thing} {b1 b2 b3 : Option Addr} {d1 d2 d3 : Nat} (hr : ThingR h [.slice b1 t.cls.length d1, .slice b2 t.vals.length d2, .slice b3 t.parts.length d3] t) :
    IntsR h (.slice b1 t.cls.length d1) t.cls ∧ ValsR h (.slice b2 t.vals.length d2) t.vals ∧ ThingsR h (.slice b3 t.parts.length d3) t.parts := by
  rw [thingR_iff] at hr
  obtain ⟨v1, v2, v3, e, h1, h2, h3⟩ := hr
  simp only [List.cons.injEq, and_true] at e
  obtain ⟨rfl, rfl, rfl⟩ := e
  exact ⟨h1, h2, h3⟩
theorem things3 {w : World} {g : Nat} {T : TypeId} {v0 v1 v2 v3 v4 v5 v6 v7 v8 : Value} {a b c : Thing} (ho : Own w g #[v0, v1, v2, v3, v4, v5, v6, v7, v8] T) (h1 : ThingR (ph w) [v0, v1, v2] a) (h2 : ThingR (ph w) [v3, v4, v5] b) (h3 : ThingR (ph w) [v6, v7, v8] c) : ThingsR (ph w) (.slice (some ⟨g, 0, none⟩) 3 3) [a, b, c] := by
  refine ⟨_, 3, rfl, Nat.le_refl _, by simp [maxLen], .inr ⟨g, 0, rfl, ⟨[v0, v1, v2], rfl, fun j hj => ?_, h1⟩, ⟨[v3, v4, v5], rfl, fun j hj => ?_, h2⟩, ⟨[v6, v7, v8], rfl, fun j hj => ?_, h3⟩, trivial⟩⟩
  all_goals
    rw [← cell_ph, ho.facts.1]
    rcases j with _ | _ | _ | j <;> first | rfl | omega
theorem up_cls {ps : List (List Int)} {t : Thing} {n d : Int} {xs : List Int} {old : Option Int} (hP : ∀ y ∈ t.cls, 0 ≤ y ∧ y < n) (h : ClsI t d old n.toNat xs) (ho : ∀ o, old = some o → isTx ps d o) (hd0 : 0 ≤ d) (hd1 : d < n) : Up ps t (.mk xs t.vals t.parts) := by
  refine ⟨fun c hc m hm => ?_, rfl, fun p hp => hp⟩
  obtain ⟨h1, h2⟩ := hP c hc
  by_cases e : some c = old
  · exact ⟨d, h.2.1 d hd0 (by omega) (.inl rfl), isTx_trans (ho c e.symm) hm⟩
  · exact ⟨c, h.2.1 c h1 (by omega) (.inr ⟨e, hc⟩), hm⟩
theorem bulk_up {xs : List Int} {t : Thing} : (Thing.mk xs t.vals t.parts).bulk ≤ t.bulk + xs.length := by
  rw [Thing.bulk_eq, t.bulk_eq]; simp only [Thing.cls, Thing.vals, Thing.parts]; omega
theorem cls_up {xs : List Int} {t : Thing} {n : Int} (h : ∀ x ∈ xs, x < n) (ht : t.clsLt n) : (Thing.mk xs t.vals t.parts).clsLt n :=
  (Thing.clsLt_iff _ _).2 ⟨h, ((Thing.clsLt_iff _ _).1 ht).2⟩
set_option maxRecDepth 100000 in
set_option maxHeartbeats 16000000 in
theorem formulaInheritsLaw (vl vm vn vk : Value) (l m n k : List Int) (c : Int) (w : World) (hl : IntsR (ph w) vl l) (hm : IntsR (ph w) vm m) (hn' : IntsR (ph w) vn n) (hk : IntsR (ph w) vk k) (_ : l.length ≤ 140737488355328) (hml : m.length ≤ 140737488355328) (hnl : n.length ≤ 140737488355328) (_ : k.length ≤ 140737488355328) (ic : I64 c) :
    Calls Tryz.prog 9 #[vl, vm, vn, vk, .int .i64 c] w (RetV w (.bool true)) := by
  have hl0 := hl
  have hn1 := hn'
  have hm0 := hm
  have hk0 := hk
  obtain ⟨xa, xc, rfl, -, -⟩ := hl.form
  obtain ⟨qa, qc, rfl, -, -⟩ := hn'.form
  obtain ⟨ya, yc, rfl, -, -⟩ := hm.form
  obtain ⟨za, zc, rfl, -, -⟩ := hk.form
  clear hl hm hk hn'
  obtain ⟨iq, wq⟩ := quoK_I ic
  go_enter Tryz.func9, Tryz.ntmps9
  go_wp2_with fail
  refine (world7_c k _ w hk0).mono ?_
  rintro e w1 ⟨B, v, ps, rk, rfl, hx, hps, ok, hp6, hT⟩
  obtain ⟨pa, pc, rfl, -, -⟩ := hps.form
  have hn0 := ok.pos
  have hn := ok.le
  clear hps ok hk0
  have hs := some07_q l _ (ps.length : Int) 14 5 6 w1 rfl (hl0.mono mono_IntR hx.ple) (by omega) (by omega) (by omega) (by omega) (by omega)
  go_wp2_with fail
  refine hs.mono ?_
  rintro e w2 ⟨f0, a3, c3, a4, c4, rfl, hx2, hF0, hw0, -, -, hv0⟩
  have hb0 := valid_bulk hv0
  replace hx := hx.then hx2
  replace hT := hT.keep hx2
  clear hs hx2 hl0
  have hpl := plain_c f0 (ph w2) _ w2 (fun _ _ h => h) hF0 (wholeN_B hw0) (by omega)
  have hwF := plain_whole f0 hw0
  have hnF := plain_no f0 hw0
  have hzF := plain_size f0
  have hvF : validF (plainF f0) = 0 := by
    obtain ⟨h1, h2, -⟩ := validF_0 hv0
    exact validF_of (by omega) (by omega) (wholeN_B hwF)
  generalize plainF f0 = F at *
  clear hv0 hw0 hF0
  go_wp2_with fail
  refine hpl.mono ?_
  rintro e w3 ⟨p3, qq3, p4, q4, rfl, hx3, hF⟩
  replace hF := mono_FmR _ _ _ _ (up_ple (fun _ _ h => h) hx3) hF
  have e3 := Ext.new w3 (.cells #[.int .i64 (F).op, .int .i64 (F).n, .slice p3 (F).inn.length qq3, .slice p4 (F).kids.length q4] 29)
  have o13 := Proofs.YtbpilielamjnoaaGreat.Own.new w3 #[.int .i64 (F).op, .int .i64 (F).n, .slice p3 (F).inn.length qq3, .slice p4 (F).kids.length q4] 29
  replace hF := mono_FmR _ _ _ _ e3.ple hF
  replace hx3 := hx3.then e3
  replace hx := hx.then hx3
  replace hT := hT.keep hx3
  clear hpl hzF hb0
  go_upto_region 5 with (fail)
  generalize w3.alloc _ = w4 at *
  generalize w3.heap.size = g13 at *
  clear e3 hx3
  have hth := thingW_c m _ (ps.length : Int) 3 3 w4 rfl (by omega) (by omega) hml (hm0.mono mono_IntR hx.ple) (by omega) (by omega)
  go_wp2_with fail
  refine hth.mono ?_
  rintro e w5 ⟨t, b1, d1, b2, d2, b3, d3, rfl, hx5, hD, ht0, htf, htn, htb, -⟩
  have e5 := Ext.new w5 (.cells #[.slice b1 t.cls.length d1, .slice b2 t.vals.length d2, .slice b3 t.parts.length d3] 41)
  have o14 := Own.new w5 #[.slice b1 t.cls.length d1, .slice b2 t.vals.length d2, .slice b3 t.parts.length d3] 41
  replace hx5 := hx5.then e5
  replace hF := mono_FmR _ _ _ _ hx5.ple hF
  replace hD := mono_ThingR _ _ _ _ e5.ple hD
  replace hT := hT.keep hx5
  replace o13 := o13.keep hx5
  replace hx := hx.then hx5
  clear hth hm0
  go_upto_region 6 with (fail)
  generalize w5.alloc _ = w6 at *
  generalize w5.heap.size = g14 at *
  clear e5 hx5
  have u0 : (w6).cell? ⟨g13, 0, none⟩ = some (.int .i64 (F).op) := (o13).facts.1 0
  have u1 : (w6).cell? ⟨g13, 1, none⟩ = some (.int .i64 (F).n) := (o13).facts.1 1
  have u2 : (w6).cell? ⟨g13, 2, none⟩ = some (.slice p3 (F).inn.length qq3) := (o13).facts.1 2
  have u3 : (w6).cell? ⟨g13, 3, none⟩ = some (.slice p4 (F).kids.length q4) := (o13).facts.1 3
  have ul := (o13).lt
  have y0 : (w6).cell? ⟨g14, 0, none⟩ = some (.slice b1 t.cls.length d1) := (o14).facts.1 0
  have y1 : (w6).cell? ⟨g14, 1, none⟩ = some (.slice b2 t.vals.length d2) := (o14).facts.1 1
  have y2 : (w6).cell? ⟨g14, 2, none⟩ = some (.slice b3 t.parts.length d3) := (o14).facts.1 2
  have yl := (o14).lt
  have hh := fholds_c hn B F t _ _ w6 hT hF hD hvF hwF ht0 htn (by omega)
  obtain ⟨HF, hHF⟩ : ∃ b, hold ps F t = b := ⟨_, rfl⟩
  rw [hHF] at hh
  replace hHF := Lib.hid hHF
  have n0 : ((0 : Int) != 0) = false := rfl
  go_wp2_with fail
  refine hh.mono ?_
  rintro e w7 ⟨rfl, hx7⟩
  replace hF := mono_FmR _ _ _ _ hx7.ple hF
  replace hD := mono_ThingR _ _ _ _ hx7.ple hD
  replace hT := hT.keep hx7
  replace o13 := o13.keep hx7
  replace o14 := o14.keep hx7
  replace hx := hx.then hx7
  clear hh hx7 u0 u1 u2 u3 ul y0 y1 y2 yl
  have y0 : (w7).cell? ⟨g14, 0, none⟩ = some (.slice b1 t.cls.length d1) := (o14).facts.1 0
  have y1 : (w7).cell? ⟨g14, 1, none⟩ = some (.slice b2 t.vals.length d2) := (o14).facts.1 1
  have y2 : (w7).cell? ⟨g14, 2, none⟩ = some (.slice b3 t.parts.length d3) := (o14).facts.1 2
  have yl := (o14).lt
  have hM := (Mem.start w7 (ph w7) (fun _ _ h => h)).new' #[.slice b1 t.cls.length d1, .slice b2 t.vals.length d2, .slice b3 t.parts.length d3, .slice b1 t.cls.length d1, .slice b2 t.vals.length d2, .slice b3 t.parts.length d3, .slice b1 t.cls.length d1, .slice b2 t.vals.length d2, .slice b3 t.parts.length d3] 41 (n := w7.heap.size) rfl
  simp only [List.nil_append] at hM
  go_upto_region 10 with (fail)
  generalize w7.alloc _ = w8 at *
  generalize hgM : w7.heap.size = gM at *
  have hP : Hid (∀ y ∈ t.cls, 0 ≤ y ∧ y < ps.length) := by
    show ∀ y ∈ t.cls, 0 ≤ y ∧ y < (ps.length : Int)
    intro y hy
    refine ⟨?_, ((Thing.clsLt_iff _ _).1 htn).1 y hy⟩
    obtain ⟨j, hj, rfl⟩ := List.mem_iff_getElem.1 hy
    exact (((Thing.formed_iff t).1 htf).2.1 j hj).1
  obtain ⟨ar0, ar1⟩ := aroundV_range (m := (ps.length : Int)) ic (by omega)
  have hAr := around_c c (ps.length : Int) w8 ic (by omega) (by omega)
  generalize aroundV c (ps.length : Int) = dd at *
  go_wp2_with fail
  refine RetV_at hAr ?_
  intro w9 hx9
  replace hM := hM.ext hx9
  clear hAr hx9 y0 y1 y2 yl
  have m0 : _ = some (Value.slice b1 t.cls.length d1) := (hM.box 0 rfl).facts.1 0
  have mf := (hM.box 0 rfl).facts.2 0
  have ml := (hM.box 0 rfl).lt
  have hM1 := (hM.set 0 rfl 0 (.slice none 0 0)).nil mono_IntR 1 3
  simp only [List.set_cons_zero, List.setIfInBounds_toArray, List.cons_append, List.nil_append] at hM1
  clear hM
  go_upto_region 12 with (fail)
  generalize World.setCell _ _ _ = w10 at *
  clear m0 mf ml
  obtain ⟨hDc, hDv, hDp⟩ := thing_reps hD
  go_wp2_with fail
  go_loopw [19] (fun i wr => ∃ (k : Nat) (xs : List Int) (v : Value) (H' : PH), k ≤ ps.length ∧ i = .int .i64 k ∧ Mem w7 (ph w7) [box gM #[v, .slice b2 t.vals.length d2, .slice b3 t.parts.length d3, .slice b1 t.cls.length d1, .slice b2 t.vals.length d2, .slice b3 t.parts.length d3, .slice b1 t.cls.length d1, .slice b2 t.vals.length d2, .slice b3 t.parts.length d3] 41, own mono_IntR 1 3 v xs] H' wr ∧ Hid (ClsI t dd none k xs) ∧ xs.length ≤ k) (fun i _ => ps.length - (intOf i).toNat)
  case atStart => exact ⟨0, [], _, _, by omega, rfl, hM1, Lib.hid ⟨by simp, fun y h1 h2 => by omega, by simp⟩, by simp⟩
  case round =>
    clear hM1
    obtain ⟨k, xs, v, H', hk, rfl, hM, hI, hxl⟩ := hrel
    obtain ⟨va, vc, rfl, -⟩ := hM.form 1 rfl
    have o14r := o14.keep hM.ex
    have y0 : (wr).cell? ⟨g14, 0, none⟩ = some (.slice b1 t.cls.length d1) := (o14r).facts.1 0
    have y1 : (wr).cell? ⟨g14, 1, none⟩ = some (.slice b2 t.vals.length d2) := (o14r).facts.1 1
    have y2 : (wr).cell? ⟨g14, 2, none⟩ = some (.slice b3 t.parts.length d3) := (o14r).facts.1 2
    have yl := (o14r).lt
    by_cases hlt : k < ps.length
    · have hd1 : decide (k < ps.length) = true := decide_eq_true hlt
      have hc := rhas1_c t.cls _ (k : Int) wr (hDc.mono mono_IntR hM.ex.ple)
      by_cases hkd : (k : Int) = dd
      · have bk : ((k : Int) == dd) = true := by simpa using hkd
        have hI2 := Lib.hid hI.out.put
        clear hkd hc hI
        have hM4 := hM
        clear hM
        generalize wr = wx at *
        have ik : I64 (k : Int) := by unfold I64; omega
        have hM5 := hM4.ext (Ext.new wx (.cells #[.int .i64 k] 3))
        have hS := Src.lit1 (H := H') (E := IntR) (sz := 1) (w := wx.alloc (.cells #[.int .i64 k] 3)) (b := wx.heap.size) (x := (k : Int)) (cs := [.int .i64 k]) ⟨rfl, ik⟩ rfl (fun j => by rw [(Proofs.YtbpilielamjnoaaGreat.Own.new wx #[.int .i64 k] 3).facts.1 j]; simp)
        have m0 : _ = some (Value.slice va xs.length vc) := (hM4.box 0 rfl).facts.1 0
        have ml := (hM4.box 0 rfl).lt
        clear hM4
        go_wp2_with (first | (at_builtin; refine wpList_append_M 1 rfl _ _ 22 rfl Tryz.underlying22 infoInt rfl rfl rfl hM5 rfl hS one_IntR (by simp; omega) (by simp; omega) ?c5))
        case c5 =>
        intro v' w' hM6
        try simp only [List.set_cons_zero, List.set_cons_succ] at hM6
        clear hM5 hS m0 ml
        obtain ⟨xs2, hxs2⟩ : ∃ z, Hid (xs ++ [(k : Int)] = z) := ⟨_, rfl⟩
        rw [hxs2.out] at hM6 hI2
        have hxl2 : xs2.length ≤ k + 1 := by rw [← hxs2.out]; simp; omega
        clear hxs2
        obtain ⟨na, nc, rfl, -⟩ := hM6.form 1 rfl
        have m0 : _ = some (Value.slice va xs.length vc) := (hM6.box 0 rfl).facts.1 0
        have mf := (hM6.box 0 rfl).facts.2 0
        have ml := (hM6.box 0 rfl).lt
        have hM7 := hM6.set 0 rfl 0 (.slice na xs2.length nc)
        simp only [List.set_cons_zero, List.setIfInBounds_toArray, List.set_cons_succ] at hM7
        clear hM6
        go_wp2_with fail
        go_roundw
        case rel => exact ⟨k + 1, xs2, _, H', by omega, by go_num, hM7, hI2, hxl2⟩
        case measure => simp [intOf]; omega
      have bk : ((k : Int) == dd) = false := by simpa using hkd
      by_cases hmem : (k : Int) ∈ t.cls
      · have hI2 := Lib.hid hI.out.put
        rw [decide_eq_true hmem] at hc
        clear hkd hI hmem
        go_upto_region 16 with (fail)
        refine RetV_at hc ?_
        intro wx hx5
        have hM4 := hM.ext hx5
        clear hM hc hx5 y0 y1 y2 yl o14r
        go_upto_region 16 with (fail)
        have ik : I64 (k : Int) := by unfold I64; omega
        have hM5 := hM4.ext (Ext.new wx (.cells #[.int .i64 k] 3))
        have hS := Src.lit1 (H := H') (E := IntR) (sz := 1) (w := wx.alloc (.cells #[.int .i64 k] 3)) (b := wx.heap.size) (x := (k : Int)) (cs := [.int .i64 k]) ⟨rfl, ik⟩ rfl (fun j => by rw [(Proofs.YtbpilielamjnoaaGreat.Own.new wx #[.int .i64 k] 3).facts.1 j]; simp)
        have m0 : _ = some (Value.slice va xs.length vc) := (hM4.box 0 rfl).facts.1 0
        have ml := (hM4.box 0 rfl).lt
        clear hM4
        go_wp2_with (first | (at_builtin; refine wpList_append_M 1 rfl _ _ 22 rfl Tryz.underlying22 infoInt rfl rfl rfl hM5 rfl hS one_IntR (by simp; omega) (by simp; omega) ?d5))
        case d5 =>
        intro v' w' hM6
        try simp only [List.set_cons_zero, List.set_cons_succ] at hM6
        clear hM5 hS m0 ml
        obtain ⟨xs2, hxs2⟩ : ∃ z, Hid (xs ++ [(k : Int)] = z) := ⟨_, rfl⟩
        rw [hxs2.out] at hM6 hI2
        have hxl2 : xs2.length ≤ k + 1 := by rw [← hxs2.out]; simp; omega
        clear hxs2
        obtain ⟨na, nc, rfl, -⟩ := hM6.form 1 rfl
        have m0 : _ = some (Value.slice va xs.length vc) := (hM6.box 0 rfl).facts.1 0
        have mf := (hM6.box 0 rfl).facts.2 0
        have ml := (hM6.box 0 rfl).lt
        have hM7 := hM6.set 0 rfl 0 (.slice na xs2.length nc)
        simp only [List.set_cons_zero, List.setIfInBounds_toArray, List.set_cons_succ] at hM7
        clear hM6
        go_wp2_with fail
        go_roundw
        case rel => exact ⟨k + 1, xs2, _, H', by omega, by go_num, hM7, hI2, hxl2⟩
        case measure => simp [intOf]; omega
      · have hI2 := Lib.hid (hI.out.skip hkd (fun h => hmem h.2))
        rw [decide_eq_false hmem] at hc
        clear hkd hI hmem
        go_wp2_with fail
        refine RetV_at hc ?_
        intro wx hx5
        have hM4 := hM.ext hx5
        clear hM hc hx5 y0 y1 y2 yl o14r
        go_wp2_with fail
        go_roundw
        case rel => exact ⟨k + 1, xs, _, H', by omega, by go_num, hM4, hI2, by omega⟩
        case measure => simp [intOf]; omega
    · obtain rfl : k = ps.length := by omega
      have hd1 : decide (ps.length < ps.length) = false := by simp
      have hMe := (hM.new #[] 41).asOwn 2 rfl mono_ThingR (sz := 3) (xs := ([] : List Thing)) (n := 0) (by simp) (by decide) rfl rfl
      simp only [List.cons_append, List.nil_append, List.set_cons_succ, List.set_cons_zero] at hMe
      have hS := Src.ofRep (w := wr.alloc (.cells #[] 41)) (hDp.mono mono_ThingR hM.le) (hM.ple.trans (Ext.new _ _).ple)
      have hpb := t.parts_le
      clear hM hd1
      go_wp2_with (first | (at_builtin; refine wpList_append_M 2 rfl _ _ 39 rfl Tryz.underlying39 infoThing rfl rfl rfl hMe rfl hS one_ThingR (by simp; omega) (by simp; omega) ?f5))
      case f5 =>
      intro v' w11 hM6
      try simp only [List.set_cons_zero, List.set_cons_succ, List.nil_append] at hM6
      clear hMe hS y0 y1 y2 yl o14r
      obtain ⟨ea, ec, rfl, -⟩ := hM6.form 2 rfl
      have hth := thingW_c n _ (ps.length : Int) 2 2 w11 rfl (by omega) (by omega) hnl (hn1.mono mono_IntR (hx.then hM6.ex).ple) (by omega) (by omega)
      go_wp2_with fail
      refine hth.mono ?_
      rintro e w12 ⟨u, e1, i1, e2, i2, e3, i3, rfl, hx12, -, hu0, huf, hun, hub, hQ⟩
      have hM7 := hM6.up hx12
      replace hQ := mono_ThingR _ _ _ _ (up_mono (noH_le H')) hQ
      generalize up H' w11 w12 = H2 at *
      clear hM6 hx12 hth hn1
      have hM8 := hM7.ext (Ext.new w12 (.cells #[.slice e1 u.cls.length i1, .slice e2 u.vals.length i2, .slice e3 u.parts.length i3] 41))
      have hS := Src.lit1 (E := ThingR) (H := H2) (w := w12.alloc (.cells #[.slice e1 u.cls.length i1, .slice e2 u.vals.length i2, .slice e3 u.parts.length i3] 41)) (b := w12.heap.size) (sz := 3) hQ rfl (fun j => by rw [(Proofs.YtbpilielamjnoaaGreat.Own.new w12 #[.slice e1 u.cls.length i1, .slice e2 u.vals.length i2, .slice e3 u.parts.length i3] 41).facts.1 j]; simp)
      clear hM7
      go_wp2_with (first | (at_builtin; refine wpList_append_M 2 rfl _ _ 39 rfl Tryz.underlying39 infoThing rfl rfl rfl hM8 rfl hS one_ThingR (by simp; omega) (by simp; omega) ?g5))
      case g5 =>
      intro v' w13 hM9
      try simp only [List.set_cons_zero, List.set_cons_succ] at hM9
      clear hM8 hS
      obtain ⟨tp, htp⟩ : ∃ z, Hid (t.parts ++ [u] = z) := ⟨_, rfl⟩
      rw [htp.out] at hM9
      obtain ⟨ea, ec, rfl, -⟩ := hM9.form 2 rfl
      have m5 : _ = some (Value.slice b3 t.parts.length d3) := (hM9.box 0 rfl).facts.1 5
      have mf := (hM9.box 0 rfl).facts.2 5
      have ml := (hM9.box 0 rfl).lt
      have hMA := hM9.set 0 rfl 5 (.slice ea tp.length ec)
      simp only [List.set_cons_zero, List.setIfInBounds_toArray, List.set_cons_succ] at hMA
      have o14r := o14.keep hMA.ex
      clear hM9
      go_upto_region 18 with (fail)
      generalize World.setCell _ _ _ = w14 at *
      clear m5 mf ml
      have hxm : ∀ y ∈ xs, y < (ps.length : Int) := fun y hy => (hI.out.1 y hy).2
      have hup0 : Up ps t (.mk xs t.vals t.parts) := up_cls (n := (ps.length : Int)) (d := dd) (old := none) hP.out (by simpa using hI.out) (fun o h => by cases h) ar0 ar1
      have hup1 : Up ps t (.mk t.cls t.vals tp) := ⟨fun c hc m hm => ⟨c, hc, hm⟩, rfl, fun p hp => by rw [← htp.out]; exact List.mem_append_left _ hp⟩
      have hcl1 : (Thing.mk t.cls t.vals tp).clsLt ps.length := by
        refine (Thing.clsLt_iff _ _).2 ⟨((Thing.clsLt_iff _ _).1 htn).1, fun p hp => ?_⟩
        have hp' : p ∈ tp := hp
        rw [← htp.out] at hp'
        rcases List.mem_append.1 hp' with h | h
        · exact ((Thing.clsLt_iff _ _).1 htn).2 p h
        · rw [List.mem_singleton.1 h]; exact hun
      have hbk1 : (Thing.mk t.cls t.vals tp).bulk ≤ 50000 := by
        have h1 := t.bulk_eq
        have h2 : (Thing.mk t.cls t.vals tp).bulk = 1 + t.cls.length + t.vals.length + sumN Thing.bulk tp := Thing.bulk_eq _
        rw [h2, ← htp.out, sumN_two]
        simp only [sumN]; omega
      have hbk0 := bulk_up (xs := xs) (t := t)
      have hcl0 := cls_up (t := t) hxm htn
      by_cases hcl : t.cls = []
      · have g0 : decide (0 < t.cls.length) = false := by rw [hcl]; rfl
        have g0' : decide ((0 : Int) < (t.cls.length : Int)) = false := by rw [hcl]; rfl
        have y0 : (w14).cell? ⟨g14, 0, none⟩ = some (.slice b1 t.cls.length d1) := (o14r).facts.1 0
        have y1 : (w14).cell? ⟨g14, 1, none⟩ = some (.slice b2 t.vals.length d2) := (o14r).facts.1 1
        have y2 : (w14).cell? ⟨g14, 2, none⟩ = some (.slice b3 t.parts.length d3) := (o14r).facts.1 2
        have yl := (o14r).lt
        have hU := things3 (hMA.box 0 rfl) (a := .mk xs t.vals t.parts) (b := .mk t.cls t.vals tp) (c := t)
          (thingR_iff.2 ⟨_, _, _, rfl, hMA.rep 1 rfl, hDv.mono mono_ValR hMA.ex.ple, hDp.mono mono_ThingR hMA.ex.ple⟩)
          (thingR_iff.2 ⟨_, _, _, rfl, hDc.mono mono_IntR hMA.ex.ple, hDv.mono mono_ValR hMA.ex.ple, hMA.rep 2 rfl⟩)
          (mono_ThingR _ _ _ _ hMA.ex.ple hD)
        have hus : Hid (∀ x ∈ [Thing.mk xs t.vals t.parts, .mk t.cls t.vals tp, t], x.clsLt ps.length ∧ x.bulk ≤ 999999 ∧ Up ps t x) := by
          show ∀ x ∈ [Thing.mk xs t.vals t.parts, .mk t.cls t.vals tp, t], x.clsLt ps.length ∧ x.bulk ≤ 999999 ∧ Up ps t x
          intro x hx
          simp only [List.mem_cons, List.not_mem_nil, or_false] at hx
          rcases hx with rfl | rfl | rfl
          · exact ⟨hcl0, by omega, hup0⟩
          · exact ⟨hcl1, by omega, hup1⟩
          · exact ⟨htn, by omega, fun c hc m hm => ⟨c, hc, hm⟩, rfl, fun p hp => hp⟩
        obtain ⟨us, hus0⟩ : ∃ z, [Thing.mk xs t.vals t.parts, .mk t.cls t.vals tp, t] = z := ⟨_, rfl⟩
        have hus3 : Hid (us.length = 3) := by show _ = _; rw [← hus0]; rfl
        rw [hus0] at hU hus
        have hxz := hMA.ex
        clear hus0 hMA hup0 hup1 hcl0 hcl1 hbk0 hbk1 hxm hI htp hcl
        go_upto_region 30 with (fail)
        go_wp2_with fail
        go_loopw [25] (fun i wr => ∃ k : Nat, k ≤ 3 ∧ i = .int .i64 k ∧ Ext w14 wr) (fun i _ => 3 - (intOf i).toNat)
        case atStart => exact ⟨0, by omega, rfl, Ext.rfl' _⟩
        case round =>
          obtain ⟨k, hk, rfl, hr⟩ := hrel
          by_cases hlt : k < 3
          · have b3' : decide ((k : Int) < 3) = true := by simp; omega
            have hlt' : k < us.length := by rw [hus3.out]; exact hlt
            obtain ⟨ub, uo, r1, s1, r2, s2, r3, s3, ek, z0, z1, z2, hE, zl⟩ := ThingsR.at (hU.mono mono_ThingR hr.ple) k hlt'
            cases ek
            simp only [Nat.zero_add] at z0 z1 z2
            obtain ⟨q1, q2, q3⟩ := hus.out _ (List.getElem_mem hlt')
            generalize us[k] = x at *
            have hv := valid_r x _ wr hE q2
            have hE0 := hE
            by_cases hz : validV x = 0
            · rw [hz] at hv
              have hh := Lib.hid (fun W (e : Ext wr W) => fholds_c hn B F x _ _ W (hT.keep ((hxz.then hr).then e)) (mono_FmR _ _ _ _ ((hxz.then hr).then e).ple hF) (mono_ThingR _ _ _ _ e.ple hE0) hvF hwF hz q1 (by omega))
              have himp : HF = true → hold ps F x = true := fun h => hold_up q3 F hnF (by rw [hHF.out]; exact h)
              generalize hold ps F x = HX at *
              have o13r := o13.keep (hxz.then hr)
              have u0 : wr.cell? ⟨g13, 0, none⟩ = some (.int .i64 F.op) := o13r.facts.1 0
              have u1 : wr.cell? ⟨g13, 1, none⟩ = some (.int .i64 F.n) := o13r.facts.1 1
              have u2 : wr.cell? ⟨g13, 2, none⟩ = some (.slice p3 F.inn.length qq3) := o13r.facts.1 2
              have u3 : wr.cell? ⟨g13, 3, none⟩ = some (.slice p4 F.kids.length q4) := o13r.facts.1 3
              have ul := o13r.lt
              clear hE hz q1 q2 q3
              unfold fmC at hh
              go_wp2_with fail
              refine RetV_at hv ?_
              intro w20 hx20
              replace u0 := hx20.cell1 u0
              replace u1 := hx20.cell1 u1
              replace u2 := hx20.cell1 u2
              replace u3 := hx20.cell1 u3
              replace ul := cell_lt u0
              replace z0 := hx20.cell1 z0
              replace z1 := hx20.cell1 z1
              replace z2 := hx20.cell1 z2
              replace zl := cell_lt z0
              replace hh := Lib.hid (fun W (e : Ext w20 W) => hh.out W (hx20.then e))
              replace hr := hr.then hx20
              clear hv hx20 o13r
              go_upto_region 34 with (fail)
              (refine wp_region_I 12 (by kernel_rfl) (by kernel_rfl) ?_; simp only [List.toList_toArray, List.take_succ_cons, List.take_zero, List.drop_succ_cons, List.drop_zero])
              iterate 4 (refine walkI_is (u := ?_) rfl (by simp) rfl ?_ ?_; rotate_left; (focus (intro A w' hS hA K hK; (simp only [List.map_cons, List.map_nil, knows, Is, Op.operands, Call.operands, List.lookup_cons, List.lookup_nil, Nat.reduceBEq, Bool.false_eq_true, if_false, if_true, Act.eval, Array.getD_eq_getD_getElem?, List.getElem?_toArray, List.getElem?_cons_succ, List.getElem?_cons_zero, Option.getD_some, and_true, true_and, List.append_toArray, List.nil_append, List.cons_append, List.toList_toArray, Array.toList_append, Option.toArray, List.append_nil] at hA); (obtain ⟨hSc, hSf, hSs⟩ := hS.cells; go_simp; exact hK _ (by first | exact Ext.rfl' _ | exact Ext.new _ _ | assumption)))); (try simp only [List.nil_append, List.cons_append]))
              (refine walkI_is (u := ?_) rfl (by simp) rfl ?_ ?_; rotate_left; (focus (intro A w' hS hA K hK; (simp only [List.map_cons, List.map_nil, knows, Is, Op.operands, Call.operands, List.lookup_cons, List.lookup_nil, Nat.reduceBEq, Bool.false_eq_true, if_false, if_true, Act.eval, Array.getD_eq_getD_getElem?, List.getElem?_toArray, List.getElem?_cons_succ, List.getElem?_cons_zero, Option.getD_some, and_true, true_and, List.append_toArray, List.nil_append, List.cons_append, List.toList_toArray, Array.toList_append, Option.toArray, List.append_nil] at hA); first | (go_simp; rw [if_pos (show (k : Int) < 3 by omega)]; exact hK _ (Ext.rfl' _)) | (obtain ⟨hSc, hSf, hSs⟩ := hS.cells; go_simp; exact hK _ (by first | exact Ext.rfl' _ | exact Ext.new _ _ | assumption)))); (try simp only [List.nil_append, List.cons_append]))
              (refine walkI_is (u := ?_) rfl (by simp) rfl ?_ ?_; rotate_left; (focus (intro A w' hS hA K hK; (simp only [List.map_cons, List.map_nil, knows, Is, Op.operands, Call.operands, List.lookup_cons, List.lookup_nil, Nat.reduceBEq, Bool.false_eq_true, if_false, if_true, Act.eval, Array.getD_eq_getD_getElem?, List.getElem?_toArray, List.getElem?_cons_succ, List.getElem?_cons_zero, Option.getD_some, and_true, true_and, List.append_toArray, List.nil_append, List.cons_append, List.toList_toArray, Array.toList_append, Option.toArray, List.append_nil] at hA); (obtain ⟨hSc, hSf, hSs⟩ := hS.cells; go_simp; exact hK _ (by first | exact Ext.rfl' _ | exact Ext.new _ _ | assumption)))); (try simp only [List.nil_append, List.cons_append]))
              (refine walkI_is (u := ?_) rfl (by simp) rfl ?_ ?_; rotate_left; (focus (intro A w' hS hA K hK; (simp only [List.map_cons, List.map_nil, knows, Is, Op.operands, Call.operands, List.lookup_cons, List.lookup_nil, Nat.reduceBEq, Bool.false_eq_true, if_false, if_true, Act.eval, Array.getD_eq_getD_getElem?, List.getElem?_toArray, List.getElem?_cons_succ, List.getElem?_cons_zero, Option.getD_some, and_true, true_and, List.append_toArray, List.nil_append, List.cons_append, List.toList_toArray, Array.toList_append, Option.toArray, List.append_nil] at hA); first | (go_simp; refine (hh.out _ hS).mono ?_; rintro e w9 ⟨rfl, hx9⟩; exact hK _ hx9) | (obtain ⟨hSc, hSf, hSs⟩ := hS.cells; go_simp; exact hK _ (by first | exact Ext.rfl' _ | exact Ext.new _ _ | assumption)))); (try simp only [List.nil_append, List.cons_append]))
              iterate 5 (refine walkI_is (u := ?_) rfl (by simp) rfl ?_ ?_; rotate_left; (focus (intro A w' hS hA K hK; (simp only [List.map_cons, List.map_nil, knows, Is, Op.operands, Call.operands, List.lookup_cons, List.lookup_nil, Nat.reduceBEq, Bool.false_eq_true, if_false, if_true, Act.eval, Array.getD_eq_getD_getElem?, List.getElem?_toArray, List.getElem?_cons_succ, List.getElem?_cons_zero, Option.getD_some, and_true, true_and, List.append_toArray, List.nil_append, List.cons_append, List.toList_toArray, Array.toList_append, Option.toArray, List.append_nil] at hA); (obtain ⟨hSc, hSf, hSs⟩ := hS.cells; go_simp; exact hK _ (by first | exact Ext.rfl' _ | exact Ext.new _ _ | assumption)))); (try simp only [List.nil_append, List.cons_append]))
              (refine walkI_nil ?_; simp only [List.nil_append, List.cons_append, fins, Is, forall_eq, Act.put, List.setIfInBounds_toArray, List.set_cons_zero, List.set_cons_succ])
              intro w21 hx21
              clear u0 u1 u2 u3 ul z0 z1 z2 zl hh
              cases HF with
              | true =>
                obtain rfl := himp rfl
                go_wp2_with fail
                go_roundw
                case rel => exact ⟨k + 1, by omega, by go_num, hr.then hx21⟩
                case measure => simp [intOf]; omega
              | false =>
                go_wp2_with fail
                go_roundw
                case rel => exact ⟨k + 1, by omega, by go_num, hr.then hx21⟩
                case measure => simp [intOf]; omega
            · have bz : (validV x != 0) = true := by simpa using hz
              generalize validV x = z at *
              clear hE hE0 hz
              go_wp2_with fail
              refine RetV_at hv ?_
              intro w20 hx20
              clear hv z0 z1 z2 zl
              go_wp2_with fail
              go_roundw
              case rel => exact ⟨k + 1, by omega, by go_num, hr.then hx20⟩
              case measure => simp [intOf]; omega
          · obtain rfl : k = 3 := by omega
            have b3' : decide (((3 : Nat) : Int) < 3) = false := by simp
            go_wp2_with fail
            refine RetV_at (lives07_c _) ?_
            intro w22 hx22
            go_wp2_with fail
            go_ret
            exact ⟨rfl, ((hx.then hxz).then hr).then hx22⟩
      · have hpos : 0 < t.cls.length := List.length_pos_iff.2 hcl
        have g0 : decide (0 < t.cls.length) = true := decide_eq_true hpos
        have g0' : decide ((0 : Int) < (t.cls.length : Int)) = true := by simp; omega
        clear hcl
        have y0 : (w14).cell? ⟨g14, 0, none⟩ = some (.slice b1 t.cls.length d1) := (o14r).facts.1 0
        have y1 : (w14).cell? ⟨g14, 1, none⟩ = some (.slice b2 t.vals.length d2) := (o14r).facts.1 1
        have y2 : (w14).cell? ⟨g14, 2, none⟩ = some (.slice b3 t.parts.length d3) := (o14r).facts.1 2
        have yl := (o14r).lt
        obtain ⟨j0, j1⟩ := aroundV_range (m := (t.cls.length : Int)) iq (by omega)
        have hclen : t.cls.length ≤ 64 := by
          have h1 := t.bulk_eq
          have h2 := ((Thing.formed_iff t).1 htf).2.1
          rcases Nat.lt_or_ge 64 t.cls.length with h | h
          · exfalso
            have hk : ∀ j, (hj : j < t.cls.length) → (j : Int) ≤ t.cls[j] := by
              intro j
              induction j with
              | zero => intro hj; exact (h2 0 hj).1
              | succ j ih =>
                intro hj
                have h3 := ih (by omega)
                have h4 := (h2 (j + 1) hj).2.2 (by omega)
                have : t.cls[j + 1 - 1]'(by omega) = t.cls[j]'(by omega) := rfl
                rw [this] at h4
                omega
            have h3 := hk 64 h
            have h4 := (h2 64 h).2.1
            omega
          · exact h
        have hAr := fun W => around_c (c.tdiv 7) (t.cls.length : Int) W iq (by omega) (by omega)
        obtain ⟨jn, hjn⟩ : ∃ jn : Nat, aroundV (c.tdiv 7) (t.cls.length : Int) = (jn : Int) := ⟨_, (Int.toNat_of_nonneg j0).symm⟩
        rw [hjn] at j1
        simp only [hjn] at hAr
        have hjl : jn < t.cls.length := by omega
        obtain ⟨tb, tf0, eb, h0, io, hbl⟩ := IntsR.at (hDc.mono mono_IntR hMA.ex.ple) jn hjl
        cases eb
        obtain ⟨ob0, ob1⟩ := hP.out _ (List.getElem_mem hjl)
        have hjI : (jn : Int) < (t.cls.length : Int) := by omega
        generalize t.cls[jn] = old at *
        replace hAr := Lib.hid hAr
        clear hjn j0 j1
        go_upto_region 19 with (fail)
        (refine wp_region_I 11 (by kernel_rfl) (by kernel_rfl) ?_; simp only [List.toList_toArray, List.take_succ_cons, List.take_zero, List.drop_succ_cons, List.drop_zero])
        iterate 7 (refine walkI_is (u := ?_) rfl (by simp) rfl ?_ ?_; rotate_left; (focus (intro A w' hS hA K hK; (simp only [List.map_cons, List.map_nil, knows, Is, Op.operands, Call.operands, List.lookup_cons, List.lookup_nil, Nat.reduceBEq, Bool.false_eq_true, if_false, if_true, Act.eval, Array.getD_eq_getD_getElem?, List.getElem?_toArray, List.getElem?_cons_succ, List.getElem?_cons_zero, Option.getD_some, and_true, true_and, List.append_toArray, List.nil_append, List.cons_append, List.toList_toArray, Array.toList_append, Option.toArray, List.append_nil] at hA); (obtain ⟨hSc, hSf, hSs⟩ := hS.cells; go_simp; exact hK _ (by first | exact Ext.rfl' _ | exact Ext.new _ _ | assumption)))); (try simp only [List.nil_append, List.cons_append]))
        (refine walkI_is (u := ?_) rfl (by simp) rfl ?_ ?_; rotate_left; (focus (intro A w' hS hA K hK; (simp only [List.map_cons, List.map_nil, knows, Is, Op.operands, Call.operands, List.lookup_cons, List.lookup_nil, Nat.reduceBEq, Bool.false_eq_true, if_false, if_true, Act.eval, Array.getD_eq_getD_getElem?, List.getElem?_toArray, List.getElem?_cons_succ, List.getElem?_cons_zero, Option.getD_some, and_true, true_and, List.append_toArray, List.nil_append, List.cons_append, List.toList_toArray, Array.toList_append, Option.toArray, List.append_nil] at hA); first | (go_simp; refine RetV_at (hAr.out _) ?_; intro w'' hx''; exact hK _ hx'') | (obtain ⟨hSc, hSf, hSs⟩ := hS.cells; go_simp; exact hK _ (by first | exact Ext.rfl' _ | exact Ext.new _ _ | assumption)))); (try simp only [List.nil_append, List.cons_append]))
        iterate 3 (refine walkI_is (u := ?_) rfl (by simp) rfl ?_ ?_; rotate_left; (focus (intro A w' hS hA K hK; (simp only [List.map_cons, List.map_nil, knows, Is, Op.operands, Call.operands, List.lookup_cons, List.lookup_nil, Nat.reduceBEq, Bool.false_eq_true, if_false, if_true, Act.eval, Array.getD_eq_getD_getElem?, List.getElem?_toArray, List.getElem?_cons_succ, List.getElem?_cons_zero, Option.getD_some, and_true, true_and, List.append_toArray, List.nil_append, List.cons_append, List.toList_toArray, Array.toList_append, Option.toArray, List.append_nil] at hA); (obtain ⟨hSc, hSf, hSs⟩ := hS.cells; go_simp; exact hK _ (by first | exact Ext.rfl' _ | exact Ext.new _ _ | assumption)))); (try simp only [List.nil_append, List.cons_append]))
        (refine walkI_nil ?_; simp only [List.nil_append, List.cons_append, fins, Is, forall_eq, Act.put, List.setIfInBounds_toArray, List.set_cons_zero, List.set_cons_succ])
        intro w15 hx15
        replace hMA := hMA.ext hx15
        replace o14r := o14r.keep hx15
        clear hx15 hAr y0 y1 y2 yl h0 hbl
        have hdn := down_c hn (hT.keep hMA.ex) old ob0 ob1
        go_wp2_with fail
        refine hdn.mono ?_
        rintro e w16 ⟨dv, dl, rfl, hx16, hdl, hdne, hdall⟩
        replace hMA := hMA.ext hx16
        replace o14r := o14r.keep hx16
        clear hdn hx16
        obtain ⟨da, dc, rfl, hdlen, hdl⟩ := hdl.form
        have hdpos : 0 < dl.length := List.length_pos_iff.2 hdne
        have gd : ((dl.length : Int) == 0) = false := by rw [beq_eq_false_iff_ne]; omega
        obtain ⟨j0, j1⟩ := aroundV_range (m := (dl.length : Int)) ic (by omega)
        have hAr := fun W => around_c c (dl.length : Int) W ic (by omega) (by omega)
        obtain ⟨jm, hjm⟩ : ∃ jm : Nat, aroundV c (dl.length : Int) = (jm : Int) := ⟨_, (Int.toNat_of_nonneg j0).symm⟩
        rw [hjm] at j1
        simp only [hjm] at hAr
        have hjl2 : jm < dl.length := by omega
        have hjI2 : (jm : Int) < (dl.length : Int) := by omega
        have hfr := hdall _ (List.getElem_mem hjl2)
        replace hAr := Lib.hid hAr
        clear hjm j0 j1 hdall hdne
        go_wp2_with fail
        refine RetV_at (hAr.out _) ?_
        intro w17 hx17
        replace hMA := hMA.ext hx17
        replace o14r := o14r.keep hx17
        obtain ⟨tb2, tf2, eb, h0, io2, hbl⟩ := IntsR.at (hdl.mono mono_IntR hx17.ple) jm hjl2
        cases eb
        generalize dl[jm] = fresh at *
        clear hAr hx17 hdl
        have m6 : _ = some (Value.slice (some ⟨tb, tf0, none⟩) t.cls.length d1) := (hMA.box 0 rfl).facts.1 6
        have mf := (hMA.box 0 rfl).facts.2 6
        have ml := (hMA.box 0 rfl).lt
        have hM1 := (hMA.set 0 rfl 6 (.slice none 0 0)).nil mono_IntR 1 3
        simp only [List.set_cons_zero, List.set_cons_succ, List.setIfInBounds_toArray, List.cons_append, List.nil_append] at hM1
        have o14s := o14.keep hM1.ex
        clear hMA o14r
        go_upto_region 25 with (fail)
        generalize World.setCell _ _ _ = w18 at *
        clear m6 mf ml h0 hbl
        go_wp2_with fail
        go_loopw [24] (fun i wr => ∃ (k : Nat) (xs3 : List Int) (v : Value) (H' : PH), k ≤ ps.length ∧ i = .int .i64 k ∧ Mem w7 (ph w7) [box gM #[.slice va xs.length vc, .slice b2 t.vals.length d2, .slice b3 t.parts.length d3, .slice (some ⟨tb, tf0, none⟩) t.cls.length d1, .slice b2 t.vals.length d2, .slice ea tp.length ec, v, .slice b2 t.vals.length d2, .slice b3 t.parts.length d3] 41, own mono_IntR 1 3 (.slice va xs.length vc) xs, own mono_ThingR 3 41 (.slice ea tp.length ec) tp, own mono_IntR 1 3 v xs3] H' wr ∧ Hid (ClsI t fresh (some old) k xs3) ∧ xs3.length ≤ k) (fun i _ => ps.length - (intOf i).toNat)
        case atStart => exact ⟨0, [], _, _, by omega, rfl, hM1, Lib.hid ⟨by simp, fun y h1 h2 => by omega, by simp⟩, by simp⟩
        case round =>
          clear hM1 o14s
          obtain ⟨k, xs3, v, H', hk, rfl, hM, hI3, hxl3⟩ := hrel
          obtain ⟨va3, vc3, rfl, -⟩ := hM.form 3 rfl
          have o14r := o14.keep hM.ex
          have y0 : wr.cell? ⟨g14, 0, none⟩ = some (.slice (some ⟨tb, tf0, none⟩) t.cls.length d1) := o14r.facts.1 0
          have yl := o14r.lt
          by_cases hlt : k < ps.length
          · have hd1 : decide (k < ps.length) = true := decide_eq_true hlt
            have hc := rhas1_c t.cls _ (k : Int) wr (hDc.mono mono_IntR hM.ex.ple)
            by_cases hkd : (k : Int) = fresh
            · have bk : ((k : Int) == fresh) = true := by simpa using hkd
              have hI2 := Lib.hid hI3.out.put
              clear hkd hc hI3
              have hM4 := hM
              clear hM
              generalize wr = wx at *
              have ik : I64 (k : Int) := by unfold I64; omega
              have hM5 := hM4.ext (Ext.new wx (.cells #[.int .i64 k] 3))
              have hS := Src.lit1 (H := H') (E := IntR) (sz := 1) (w := wx.alloc (.cells #[.int .i64 k] 3)) (b := wx.heap.size) (x := (k : Int)) (cs := [.int .i64 k]) ⟨rfl, ik⟩ rfl (fun j => by rw [(Proofs.YtbpilielamjnoaaGreat.Own.new wx #[.int .i64 k] 3).facts.1 j]; simp)
              have m0 : _ = some (Value.slice va3 xs3.length vc3) := (hM4.box 0 rfl).facts.1 6
              have ml := (hM4.box 0 rfl).lt
              clear hM4
              go_wp2_with (first | (at_builtin; refine wpList_append_M 3 rfl _ _ 22 rfl Tryz.underlying22 infoInt rfl rfl rfl hM5 rfl hS one_IntR (by simp; omega) (by simp; omega) ?h5))
              case h5 =>
              intro v' w' hM6
              try simp only [List.set_cons_zero, List.set_cons_succ] at hM6
              clear hM5 hS m0 ml
              obtain ⟨xs2, hxs2⟩ : ∃ z, Hid (xs3 ++ [(k : Int)] = z) := ⟨_, rfl⟩
              rw [hxs2.out] at hM6 hI2
              have hxl2 : xs2.length ≤ k + 1 := by rw [← hxs2.out]; simp; omega
              clear hxs2
              obtain ⟨na, nc, rfl, -⟩ := hM6.form 3 rfl
              have m0 : _ = some (Value.slice va3 xs3.length vc3) := (hM6.box 0 rfl).facts.1 6
              have mf := (hM6.box 0 rfl).facts.2 6
              have ml := (hM6.box 0 rfl).lt
              have hM7 := hM6.set 0 rfl 6 (.slice na xs2.length nc)
              simp only [List.set_cons_zero, List.setIfInBounds_toArray, List.set_cons_succ] at hM7
              clear hM6
              go_wp2_with fail
              go_roundw
              case rel => exact ⟨k + 1, xs2, _, H', by omega, by go_num, hM7, hI2, hxl2⟩
              case measure => simp [intOf]; omega
            have bk : ((k : Int) == fresh) = false := by simpa using hkd
            by_cases hko : (k : Int) = old
            · have bo : ((k : Int) != old) = false := by simpa using hko
              have hI2 := Lib.hid (hI3.out.skip hkd (fun h => h.1 (by rw [hko])))
              clear hkd hko hI3 hc
              go_wp2_with fail
              go_roundw
              case rel => exact ⟨k + 1, xs3, _, H', by omega, by go_num, hM, hI2, by omega⟩
              case measure => simp [intOf]; omega
            have bo : ((k : Int) != old) = true := by simpa using hko
            by_cases hmem : (k : Int) ∈ t.cls
            · have hI2 := Lib.hid hI3.out.put
              rw [decide_eq_true hmem] at hc
              clear hkd hI3 hmem hko
              go_upto_region 29 with (fail)
              refine RetV_at hc ?_
              intro wx hx5
              have hM4 := hM.ext hx5
              clear hM hc hx5 y0 yl o14r
              go_upto_region 29 with (fail)
              have ik : I64 (k : Int) := by unfold I64; omega
              have hM5 := hM4.ext (Ext.new wx (.cells #[.int .i64 k] 3))
              have hS := Src.lit1 (H := H') (E := IntR) (sz := 1) (w := wx.alloc (.cells #[.int .i64 k] 3)) (b := wx.heap.size) (x := (k : Int)) (cs := [.int .i64 k]) ⟨rfl, ik⟩ rfl (fun j => by rw [(Proofs.YtbpilielamjnoaaGreat.Own.new wx #[.int .i64 k] 3).facts.1 j]; simp)
              have m0 : _ = some (Value.slice va3 xs3.length vc3) := (hM4.box 0 rfl).facts.1 6
              have ml := (hM4.box 0 rfl).lt
              clear hM4
              go_wp2_with (first | (at_builtin; refine wpList_append_M 3 rfl _ _ 22 rfl Tryz.underlying22 infoInt rfl rfl rfl hM5 rfl hS one_IntR (by simp; omega) (by simp; omega) ?j5))
              case j5 =>
              intro v' w' hM6
              try simp only [List.set_cons_zero, List.set_cons_succ] at hM6
              clear hM5 hS m0 ml
              obtain ⟨xs2, hxs2⟩ : ∃ z, Hid (xs3 ++ [(k : Int)] = z) := ⟨_, rfl⟩
              rw [hxs2.out] at hM6 hI2
              have hxl2 : xs2.length ≤ k + 1 := by rw [← hxs2.out]; simp; omega
              clear hxs2
              obtain ⟨na, nc, rfl, -⟩ := hM6.form 3 rfl
              have m0 : _ = some (Value.slice va3 xs3.length vc3) := (hM6.box 0 rfl).facts.1 6
              have mf := (hM6.box 0 rfl).facts.2 6
              have ml := (hM6.box 0 rfl).lt
              have hM7 := hM6.set 0 rfl 6 (.slice na xs2.length nc)
              simp only [List.set_cons_zero, List.setIfInBounds_toArray, List.set_cons_succ] at hM7
              clear hM6
              go_wp2_with fail
              go_roundw
              case rel => exact ⟨k + 1, xs2, _, H', by omega, by go_num, hM7, hI2, hxl2⟩
              case measure => simp [intOf]; omega
            · have hI2 := Lib.hid (hI3.out.skip hkd (fun h => hmem h.2))
              rw [decide_eq_false hmem] at hc
              clear hkd hI3 hmem hko
              go_wp2_with fail
              refine RetV_at hc ?_
              intro wx hx5
              have hM4 := hM.ext hx5
              clear hM hc hx5 y0 yl o14r
              go_wp2_with fail
              go_roundw
              case rel => exact ⟨k + 1, xs3, _, H', by omega, by go_num, hM4, hI2, by omega⟩
              case measure => simp [intOf]; omega
          · obtain rfl : k = ps.length := by omega
            have hd1 : decide (ps.length < ps.length) = false := by simp
            have hxm3 : ∀ y ∈ xs3, y < (ps.length : Int) := fun y hy => (hI3.out.1 y hy).2
            have hup2 : Up ps t (.mk xs3 t.vals t.parts) := up_cls (n := (ps.length : Int)) (d := fresh) (old := some old) hP.out (by simpa using hI3.out) (fun o h => by cases h; exact hfr) hfr.1 hfr.2.1
            have hcl2 := cls_up (t := t) hxm3 htn
            have hbk2 := bulk_up (xs := xs3) (t := t)
            have hU := things3 (hM.box 0 rfl) (a := .mk xs t.vals t.parts) (b := .mk t.cls t.vals tp) (c := .mk xs3 t.vals t.parts)
              (thingR_iff.2 ⟨_, _, _, rfl, hM.rep 1 rfl, hDv.mono mono_ValR hM.ex.ple, hDp.mono mono_ThingR hM.ex.ple⟩)
              (thingR_iff.2 ⟨_, _, _, rfl, hDc.mono mono_IntR hM.ex.ple, hDv.mono mono_ValR hM.ex.ple, hM.rep 2 rfl⟩)
              (thingR_iff.2 ⟨_, _, _, rfl, hM.rep 3 rfl, hDv.mono mono_ValR hM.ex.ple, hDp.mono mono_ThingR hM.ex.ple⟩)
            have hus : Hid (∀ x ∈ [Thing.mk xs t.vals t.parts, .mk t.cls t.vals tp, .mk xs3 t.vals t.parts], x.clsLt ps.length ∧ x.bulk ≤ 999999 ∧ Up ps t x) := by
              show ∀ x ∈ [Thing.mk xs t.vals t.parts, .mk t.cls t.vals tp, .mk xs3 t.vals t.parts], x.clsLt ps.length ∧ x.bulk ≤ 999999 ∧ Up ps t x
              intro x hx
              simp only [List.mem_cons, List.not_mem_nil, or_false] at hx
              rcases hx with rfl | rfl | rfl
              · exact ⟨hcl0, by omega, hup0⟩
              · exact ⟨hcl1, by omega, hup1⟩
              · exact ⟨hcl2, by omega, hup2⟩
            obtain ⟨us, hus0⟩ : ∃ z, [Thing.mk xs t.vals t.parts, .mk t.cls t.vals tp, .mk xs3 t.vals t.parts] = z := ⟨_, rfl⟩
            have hus3 : Hid (us.length = 3) := by show _ = _; rw [← hus0]; rfl
            rw [hus0] at hU hus
            have hxz := hM.ex
            clear hus0 hM hup0 hup1 hcl0 hcl1 hbk0 hbk1 hxm hI htp hxm3 hup2 hcl2 hbk2 hI3 y0 yl o14r
            generalize wr = wz at *
            go_upto_region 30 with (fail)
            go_wp2_with fail
            go_loopw [25] (fun i wr => ∃ k : Nat, k ≤ 3 ∧ i = .int .i64 k ∧ Ext wz wr) (fun i _ => 3 - (intOf i).toNat)
            case atStart => exact ⟨0, by omega, rfl, Ext.rfl' _⟩
            case round =>
              obtain ⟨k, hk, rfl, hr⟩ := hrel
              by_cases hlt : k < 3
              · have b3' : decide ((k : Int) < 3) = true := by simp; omega
                have hlt' : k < us.length := by rw [hus3.out]; exact hlt
                obtain ⟨ub, uo, r1, s1, r2, s2, r3, s3, ek, z0, z1, z2, hE, zl⟩ := ThingsR.at (hU.mono mono_ThingR hr.ple) k hlt'
                cases ek
                simp only [Nat.zero_add] at z0 z1 z2
                obtain ⟨q1, q2, q3⟩ := hus.out _ (List.getElem_mem hlt')
                generalize us[k] = x at *
                have hv := valid_r x _ wr hE q2
                have hE0 := hE
                by_cases hz : validV x = 0
                · rw [hz] at hv
                  have hh := Lib.hid (fun W (e : Ext wr W) => fholds_c hn B F x _ _ W (hT.keep ((hxz.then hr).then e)) (mono_FmR _ _ _ _ ((hxz.then hr).then e).ple hF) (mono_ThingR _ _ _ _ e.ple hE0) hvF hwF hz q1 (by omega))
                  have himp : HF = true → hold ps F x = true := fun h => hold_up q3 F hnF (by rw [hHF.out]; exact h)
                  generalize hold ps F x = HX at *
                  have o13r := o13.keep (hxz.then hr)
                  have u0 : wr.cell? ⟨g13, 0, none⟩ = some (.int .i64 F.op) := o13r.facts.1 0
                  have u1 : wr.cell? ⟨g13, 1, none⟩ = some (.int .i64 F.n) := o13r.facts.1 1
                  have u2 : wr.cell? ⟨g13, 2, none⟩ = some (.slice p3 F.inn.length qq3) := o13r.facts.1 2
                  have u3 : wr.cell? ⟨g13, 3, none⟩ = some (.slice p4 F.kids.length q4) := o13r.facts.1 3
                  have ul := o13r.lt
                  clear hE hz q1 q2 q3
                  unfold fmC at hh
                  go_wp2_with fail
                  refine RetV_at hv ?_
                  intro w20 hx20
                  replace u0 := hx20.cell1 u0
                  replace u1 := hx20.cell1 u1
                  replace u2 := hx20.cell1 u2
                  replace u3 := hx20.cell1 u3
                  replace ul := cell_lt u0
                  replace z0 := hx20.cell1 z0
                  replace z1 := hx20.cell1 z1
                  replace z2 := hx20.cell1 z2
                  replace zl := cell_lt z0
                  replace hh := Lib.hid (fun W (e : Ext w20 W) => hh.out W (hx20.then e))
                  replace hr := hr.then hx20
                  clear hv hx20 o13r
                  go_upto_region 34 with (fail)
                  (refine wp_region_I 12 (by kernel_rfl) (by kernel_rfl) ?_; simp only [List.toList_toArray, List.take_succ_cons, List.take_zero, List.drop_succ_cons, List.drop_zero])
                  iterate 4 (refine walkI_is (u := ?_) rfl (by simp) rfl ?_ ?_; rotate_left; (focus (intro A w' hS hA K hK; (simp only [List.map_cons, List.map_nil, knows, Is, Op.operands, Call.operands, List.lookup_cons, List.lookup_nil, Nat.reduceBEq, Bool.false_eq_true, if_false, if_true, Act.eval, Array.getD_eq_getD_getElem?, List.getElem?_toArray, List.getElem?_cons_succ, List.getElem?_cons_zero, Option.getD_some, and_true, true_and, List.append_toArray, List.nil_append, List.cons_append, List.toList_toArray, Array.toList_append, Option.toArray, List.append_nil] at hA); (obtain ⟨hSc, hSf, hSs⟩ := hS.cells; go_simp; exact hK _ (by first | exact Ext.rfl' _ | exact Ext.new _ _ | assumption)))); (try simp only [List.nil_append, List.cons_append]))
                  (refine walkI_is (u := ?_) rfl (by simp) rfl ?_ ?_; rotate_left; (focus (intro A w' hS hA K hK; (simp only [List.map_cons, List.map_nil, knows, Is, Op.operands, Call.operands, List.lookup_cons, List.lookup_nil, Nat.reduceBEq, Bool.false_eq_true, if_false, if_true, Act.eval, Array.getD_eq_getD_getElem?, List.getElem?_toArray, List.getElem?_cons_succ, List.getElem?_cons_zero, Option.getD_some, and_true, true_and, List.append_toArray, List.nil_append, List.cons_append, List.toList_toArray, Array.toList_append, Option.toArray, List.append_nil] at hA); first | (go_simp; rw [if_pos (show (k : Int) < 3 by omega)]; exact hK _ (Ext.rfl' _)) | (obtain ⟨hSc, hSf, hSs⟩ := hS.cells; go_simp; exact hK _ (by first | exact Ext.rfl' _ | exact Ext.new _ _ | assumption)))); (try simp only [List.nil_append, List.cons_append]))
                  (refine walkI_is (u := ?_) rfl (by simp) rfl ?_ ?_; rotate_left; (focus (intro A w' hS hA K hK; (simp only [List.map_cons, List.map_nil, knows, Is, Op.operands, Call.operands, List.lookup_cons, List.lookup_nil, Nat.reduceBEq, Bool.false_eq_true, if_false, if_true, Act.eval, Array.getD_eq_getD_getElem?, List.getElem?_toArray, List.getElem?_cons_succ, List.getElem?_cons_zero, Option.getD_some, and_true, true_and, List.append_toArray, List.nil_append, List.cons_append, List.toList_toArray, Array.toList_append, Option.toArray, List.append_nil] at hA); (obtain ⟨hSc, hSf, hSs⟩ := hS.cells; go_simp; exact hK _ (by first | exact Ext.rfl' _ | exact Ext.new _ _ | assumption)))); (try simp only [List.nil_append, List.cons_append]))
                  (refine walkI_is (u := ?_) rfl (by simp) rfl ?_ ?_; rotate_left; (focus (intro A w' hS hA K hK; (simp only [List.map_cons, List.map_nil, knows, Is, Op.operands, Call.operands, List.lookup_cons, List.lookup_nil, Nat.reduceBEq, Bool.false_eq_true, if_false, if_true, Act.eval, Array.getD_eq_getD_getElem?, List.getElem?_toArray, List.getElem?_cons_succ, List.getElem?_cons_zero, Option.getD_some, and_true, true_and, List.append_toArray, List.nil_append, List.cons_append, List.toList_toArray, Array.toList_append, Option.toArray, List.append_nil] at hA); first | (go_simp; refine (hh.out _ hS).mono ?_; rintro e w9 ⟨rfl, hx9⟩; exact hK _ hx9) | (obtain ⟨hSc, hSf, hSs⟩ := hS.cells; go_simp; exact hK _ (by first | exact Ext.rfl' _ | exact Ext.new _ _ | assumption)))); (try simp only [List.nil_append, List.cons_append]))
                  iterate 5 (refine walkI_is (u := ?_) rfl (by simp) rfl ?_ ?_; rotate_left; (focus (intro A w' hS hA K hK; (simp only [List.map_cons, List.map_nil, knows, Is, Op.operands, Call.operands, List.lookup_cons, List.lookup_nil, Nat.reduceBEq, Bool.false_eq_true, if_false, if_true, Act.eval, Array.getD_eq_getD_getElem?, List.getElem?_toArray, List.getElem?_cons_succ, List.getElem?_cons_zero, Option.getD_some, and_true, true_and, List.append_toArray, List.nil_append, List.cons_append, List.toList_toArray, Array.toList_append, Option.toArray, List.append_nil] at hA); (obtain ⟨hSc, hSf, hSs⟩ := hS.cells; go_simp; exact hK _ (by first | exact Ext.rfl' _ | exact Ext.new _ _ | assumption)))); (try simp only [List.nil_append, List.cons_append]))
                  (refine walkI_nil ?_; simp only [List.nil_append, List.cons_append, fins, Is, forall_eq, Act.put, List.setIfInBounds_toArray, List.set_cons_zero, List.set_cons_succ])
                  intro w21 hx21
                  clear u0 u1 u2 u3 ul z0 z1 z2 zl hh
                  cases HF with
                  | true =>
                    obtain rfl := himp rfl
                    go_wp2_with fail
                    go_roundw
                    case rel => exact ⟨k + 1, by omega, by go_num, hr.then hx21⟩
                    case measure => simp [intOf]; omega
                  | false =>
                    go_wp2_with fail
                    go_roundw
                    case rel => exact ⟨k + 1, by omega, by go_num, hr.then hx21⟩
                    case measure => simp [intOf]; omega
                · have bz : (validV x != 0) = true := by simpa using hz
                  generalize validV x = z at *
                  clear hE hE0 hz
                  go_wp2_with fail
                  refine RetV_at hv ?_
                  intro w20 hx20
                  clear hv z0 z1 z2 zl
                  go_wp2_with fail
                  go_roundw
                  case rel => exact ⟨k + 1, by omega, by go_num, hr.then hx20⟩
                  case measure => simp [intOf]; omega
              · obtain rfl : k = 3 := by omega
                have b3' : decide (((3 : Nat) : Int) < 3) = false := by simp
                go_wp2_with fail
                refine RetV_at (lives07_c _) ?_
                intro w22 hx22
                go_wp2_with fail
                go_ret
                exact ⟨rfl, ((hx.then hxz).then hr).then hx22⟩
end Go.Proofs.YtbpilielamjnoaaGreat
namespace Go.Proofs.YtbpilielamjnoaaGreat
open Go.ChangeShapes Go.WideShapes Go.ChangeAt Go.RowKit
set_option linter.unusedVariables false
theorem post_of_ext {H : Type} {enc : TypeId × Value → H} {P : Program} {f : Func} {s : ChangeSpec} {apart fresh handsOn : Bool} {W W' : World} {args : Array Value} {v : Value} {ds gs : List (DataW H)} {before pa pv : List MemPlace}
    (hW : DataW.Whole enc P f.params.toList s.vars apart W args.toList ds gs before)
    (hres : ∀ (b : Nat) (sp : Nat → Bool) (hd : Bool), DataW.TrodAll enc P W' b sp hd f.resultTypes.toList (v.resultList f.resultTypes.size) (s.fn H (ds ++ gs)).results [])
    (hargs : ∀ sp : Nat → Bool, (∀ p ∈ before, sp p.block = true) → DataW.TrodAll enc P W' 0 sp true f.params.toList args.toList (s.fn H (ds ++ gs)).args pa)
    (hvars : ∀ sp : Nat → Bool, (∀ p ∈ before, sp p.block = true) → DataW.TrodVars enc P W' sp s.vars (s.fn H (ds ++ gs)).vars pv)
    (hps : before = pa ++ pv) (he : Ext W W') : s.post enc P f apart fresh handsOn false W args v W' := by
  have hold : ∀ p ∈ before, (fun b => decide (b < W.heap.size)) p.block = true := fun p hp => by simpa using hW.lt p hp
  exact ⟨ds, gs, before, [], pa, pv, hW, hres _ _ _, hargs _ hold, hvars _ hold, he.frame _, fun h => by cases h⟩
theorem wf_i64 {a : Int} (h : (Lit.int .i64 a).wf = true) : I64 a := by
  simpa [Lit.wf, IntKind.min, IntKind.max, IntKind.signed, IntKind.bits, I64] using h
end Go.Proofs.YtbpilielamjnoaaGreat
namespace Go.Proofs.YtbpilielamjnoaaGreat
open Go.ChangeShapes Go.WideShapes Go.ChangeAt Go.RowKit
set_option linter.unusedVariables false
section
variable {H : Type} {enc : TypeId × Value → H} {P : Program}
theorem trodAll_back (hl : laidOutB P = true) {W W' : World} (hb : Ext W W') : ∀ {ts : List TypeId} {vs : List Value} {ds : List (DataW H)} {ps : List MemPlace}, (∀ t ∈ ts, P.readableRec t = true ∧ t < P.types.size) →
    DataW.TrodAll enc P W 0 (fun _ => true) true ts vs ds ps → (∀ x ∈ ps, x.block < W.heap.size) → DataW.TrodAll enc P W' 0 (fun b => decide (b < W.heap.size)) true ts vs ds ps
  | [], [], [], ps, _, h, _ => h
  | t :: ts, v :: vs, d :: ds, ps, hr, h, hlt => by
    obtain ⟨p, q, h1, h2, rfl⟩ := h
    exact ⟨p, q, Below.trod hl (hr t (by simp)).1 (hr t (by simp)).2 h1 hb (fun x hx => hlt x (by simp [hx])), trodAll_back hl hb (fun t ht => hr t (by simp [ht])) h2 (fun x hx => hlt x (by simp [hx])), rfl⟩
  | [], _ :: _, _, _, _, h, _ => h.elim
  | [], [], _ :: _, _, _, h, _ => h.elim
  | _ :: _, [], _, _, _, h, _ => h.elim
  | _ :: _, _ :: _, [], _, _, h, _ => h.elim
theorem post_law {f : Func} {s : ChangeSpec} {apart fresh handsOn : Bool} {W W' : World} {args : Array Value} {v : Value} {ds gs : List (DataW H)} {before : List MemPlace}
    (hW : DataW.Whole enc P f.params.toList s.vars apart W args.toList ds gs before) (hv : s.vars = [])
    (hres : ∀ (b : Nat) (sp : Nat → Bool) (hd : Bool), DataW.TrodAll enc P W' b sp hd f.resultTypes.toList (v.resultList f.resultTypes.size) (s.fn H (ds ++ gs)).results [])
    (hargs : (s.fn H (ds ++ gs)).args = ds) (hvs : (s.fn H (ds ++ gs)).vars = []) (hl : laidOutB P = true) (hr : ∀ t ∈ f.params.toList, P.readableRec t = true ∧ t < P.types.size) (he : Ext W W') : s.post enc P f apart fresh handsOn false W args v W' := by
  have hold : ∀ p ∈ before, p.block < W.heap.size := fun p hp => hW.lt p hp
  have hW' := hW
  obtain ⟨p, q, hA, hV, rfl, -, -⟩ := hW
  rw [hv] at hV
  obtain ⟨rfl, rfl⟩ : gs = [] ∧ q = [] := by
    cases gs with
    | nil => exact ⟨rfl, hV⟩
    | cons _ _ => exact hV.elim
  refine ⟨ds, [], p ++ [], [], p, [], hW', hres _ _ _, ?_, ?_, he.frame _, fun h => by cases h⟩
  · rw [hargs]; exact trodAll_back hl he hr hA fun x hx => hold x (by simp [hx])
  · rw [hv, hvs]; rfl
theorem wf_i64m {n : Int} (h : (Lit.int .i64 n).wf = true) : I64 n := wf_i64 h
theorem openI {t e : TypeId} {v : Value} {d : DataW H} {p : List MemPlace} {W : World} {base : Nat} (ht : P.underlying t = some (.slice e)) (he : P.underlying e = some (.int .i64)) (hc : P.cellsOf e = 1) (hby : P.bytesOf e = 8)
    (hval : Value.okWide P W .any base t v) (h : DataW.Trod enc P W 0 (fun _ => true) true t v d p) {ts : List TypeId} {ds : List (DataW H)} (hsz : (DataW.weightsEach P ts ds).all (· ≤ reachBytes) = true) (j : Nat) (hj : ts[j]? = some t) (hd : ds[j]? = some d) :
    ∃ l : List Int, IntsR (ph W) v l ∧ l.length ≤ 17592186043904 := by
  obtain ⟨a0, len, cap, rfl⟩ := okWide_slice ht hval
  obtain ⟨fuel, hf⟩ := h
  rcases open_ints ht he hc hf with ⟨hcs, hx⟩ | ⟨a, len', cap', zs, hcs, _, hl, hm, hz, hx, hcell, hwz⟩
  · simp [Value.cells] at hcs
    obtain ⟨rfl, rfl, rfl⟩ := hcs
    exact ⟨[], SliceRep.nil _ _ _, by simp⟩
  · simp [Value.cells] at hcs
    obtain ⟨rfl, rfl, rfl⟩ := hcs
    simp only [Prod.mk.injEq] at hx
    obtain ⟨rfl, -⟩ := hx
    simp only [if_true] at hz
    have hreach : len * 8 ≤ 140737488351232 := by
      have := sized_slice hsz (j := j) hj hd ht
      rw [hby] at this
      simp only [lits, List.length_map, List.length_take, List.length_drop, reachBytes] at this
      omega
    have hlen : (zs.take len).length = len := by rw [List.length_take]; omega
    refine ⟨zs.take len, ⟨some a, cap, by rw [hlen], by omega, hm, ?_⟩, by omega⟩
    by_cases h0 : len = 0
    · left; rw [h0]; rfl
    · right
      obtain ⟨b, off, spot⟩ := a
      have hspot : spot = none := by simpa [Addr.add] using World.cell?_spot (hcell 0 (by omega))
      subst hspot
      refine ⟨b, off, rfl, RowRep.of fun i hi => ?_⟩
      rw [hlen] at hi
      have h1 := hcell i (by omega)
      have h2 : zs.getD i 0 = (zs.take len)[i]'(by omega) := by
        rw [List.getElem_take]; simp [List.getD, show i < zs.length by omega]
      refine ⟨[.int .i64 ((zs.take len)[i]'(by omega))], rfl, fun j hj => ?_, rfl, wf_i64m (hwz _ ?_)⟩
      · obtain rfl : j = 0 := by omega
        rw [addo, cell_ph, h2] at h1
        simpa using h1
      · rw [List.getElem_take]; exact List.getElem_mem _
theorem wf_u8 {n : Int} (h : (Lit.int .u8 n).wf = true) : 0 ≤ n ∧ n < 256 := by
  have := bounds_u8 h; omega
theorem openB {t e : TypeId} {v : Value} {d : DataW H} {p : List MemPlace} {W : World} {base : Nat} (ht : P.underlying t = some (.slice e)) (he : P.underlying e = some (.int .u8)) (hc : P.cellsOf e = 1) (hby : P.bytesOf e = 1)
    (hval : Value.okWide P W .any base t v) (h : DataW.Trod enc P W 0 (fun _ => true) true t v d p) {ts : List TypeId} {ds : List (DataW H)} (hsz : (DataW.weightsEach P ts ds).all (· ≤ reachBytes) = true) (j : Nat) (hj : ts[j]? = some t) (hd : ds[j]? = some d) :
    ∃ l : List UInt8, BytesR (ph W) v l ∧ l.length ≤ 140737488351232 := by
  obtain ⟨a0, len, cap, rfl⟩ := okWide_slice ht hval
  obtain ⟨fuel, hf⟩ := h
  rcases open_ints ht he hc hf with ⟨hcs, hx⟩ | ⟨a, len', cap', zs, hcs, _, hl, hm, hz, hx, hcell, hwz⟩
  · simp [Value.cells] at hcs
    obtain ⟨rfl, rfl, rfl⟩ := hcs
    exact ⟨[], SliceRep.nil _ _ _, by simp⟩
  · simp [Value.cells] at hcs
    obtain ⟨rfl, rfl, rfl⟩ := hcs
    simp only [Prod.mk.injEq] at hx
    obtain ⟨rfl, -⟩ := hx
    simp only [if_true] at hz
    have hreach : len * 1 ≤ 140737488351232 := by
      have := sized_slice hsz (j := j) hj hd ht
      rw [hby] at this
      simp only [lits, List.length_map, List.length_take, List.length_drop, reachBytes] at this
      omega
    have hlen : ((zs.take len).map fun n => UInt8.ofNat n.toNat).length = len := by rw [List.length_map, List.length_take]; omega
    refine ⟨(zs.take len).map fun n => UInt8.ofNat n.toNat, ⟨some a, cap, by rw [hlen], by omega, hm, ?_⟩, by omega⟩
    by_cases h0 : len = 0
    · left; rw [h0]; rfl
    · right
      obtain ⟨b, off, spot⟩ := a
      have hspot : spot = none := by simpa [Addr.add] using World.cell?_spot (hcell 0 (by omega))
      subst hspot
      refine ⟨b, off, rfl, RowRep.of fun i hi => ?_⟩
      rw [hlen] at hi
      have h1 := hcell i (by omega)
      have h2 : zs.getD i 0 = zs[i]'(by omega) := by simp [List.getD, show i < zs.length by omega]
      have h3 := wf_u8 (hwz (zs[i]'(by omega)) (List.getElem_mem _))
      refine ⟨[.int .u8 (zs[i]'(by omega))], rfl, fun j hj => ?_, ?_⟩
      · obtain rfl : j = 0 := by omega
        rw [addo, cell_ph, h2] at h1
        simpa using h1
      · simp only [ByteR, List.getElem_map, List.getElem_take, List.cons.injEq, and_true]
        refine val_int ?_
        have h4 : (zs[i]'(by omega)).toNat < 256 := by omega
        rw [UInt8.toNat_ofNat_of_lt' (by simpa using h4)]
        omega
end
end Go.Proofs.YtbpilielamjnoaaGreat
