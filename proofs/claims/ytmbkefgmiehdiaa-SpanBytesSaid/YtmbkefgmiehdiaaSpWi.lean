/- the reference of package span: Within. -/
import Derived.Deep.CutBlock
import Derived.Test.YtmbkefgmiehdiaaSpCo
namespace Go.Proofs.Ytmbkefgmiehdiaa
open Go.RowKit Go.Shelf
set_option linter.unusedSimpArgs false
set_option linter.unusedVariables false
theorem setF_pair : ∀ {l : List Itv} {p : Option Itv}, setF p l = true → l.Pairwise (fun x y => lessE (hiE x) (loE y) = true) ∧ ∀ q, p = some q → goodB q = true → ∀ y ∈ l, lessE (hiE q) (loE y) = true
  | [], _, _ => ⟨List.Pairwise.nil, fun _ _ _ y hy => by cases hy⟩
  | x :: r, p, h => by
    rw [setF_cons, Bool.and_eq_true, Bool.and_eq_true] at h
    obtain ⟨⟨hg, hp⟩, hr⟩ := h
    obtain ⟨h1, h2⟩ := setF_pair hr
    have h3 := h2 x rfl hg
    refine ⟨List.pairwise_cons.2 ⟨h3, h1⟩, fun q hq hqg y hy => ?_⟩
    subst hq
    rcases List.mem_cons.1 hy with rfl | hy
    · exact hp
    · exact sm_trans (goodB.hi hqg) (goodB.lo hg) (goodB.lo (setF_all hr y hy)) hp (sm_trans (goodB.lo hg) (goodB.hi hg) (goodB.lo (setF_all hr y hy)) (goodB.lt hg) (h3 y hy))
theorem setE_pair {l : List Itv} (h : setE l = 0) : l.Pairwise (fun x y => lessE (hiE x) (loE y) = true) := by
  have h1 : setF none l = true := by
    unfold setE at h
    split at h
    · cases h
    · rename_i h1; simpa using h1
  exact (setF_pair h1).1
theorem not_lt_of_lt {a b : En} (ha : a.sm) (hb : b.sm) (h : lessE a b = true) : lessE b a = false := by
  cases h2 : lessE b a with
  | false => rfl
  | true => have := sm_trans ha hb ha h h2; rw [sm_irr ha] at this; cases this
theorem lo_start {ls : List (List Itv)} {ps : List Rat2} (h : Ends ls (starts ps ++ [topE])) {l : List Itv} (hl : l ∈ ls) {x : Itv} (hx : x ∈ l) : loE x ∈ starts ps := by
  obtain ⟨h1, -⟩ := h.all l hl x hx
  rcases List.mem_append.1 h1 with h1 | h1
  · exact h1
  · exfalso
    have := List.mem_singleton.1 h1
    unfold loE at this
    split at this
    · have := congrArg En.far this; simp [botE, topE] at this
    · have := congrArg En.far this; simp [topE] at this
theorem hi_start {ls : List (List Itv)} {ps : List Rat2} (h : Ends ls (starts ps ++ [topE])) {l : List Itv} (hl : l ∈ ls) {x : Itv} (hx : x ∈ l) (ht : hiE x ≠ topE) : hiE x ∈ starts ps := by
  obtain ⟨-, h1⟩ := h.all l hl x hx
  rcases List.mem_append.1 h1 with h1 | h1
  · exact h1
  · exact absurd (List.mem_singleton.1 h1) ht
/-- the cells of a are cells of b exactly if each interval of a is in one of b -/
theorem within_law {a b : List Itv} (ha : setE a = 0) (hb : setE b = 0) : ((starts (ptsL [a, b].flatten)).all fun e => !covB a e || covB b e) = a.all (wthB b) := by
  have hga := (setE_0 ha).1
  have hgb := (setE_0 hb).1
  have hE : Ends [a, b] (starts (ptsL [a, b].flatten) ++ [topE]) := ends_starts (by
    intro x hx
    simp only [List.flatten_cons, List.flatten_nil, List.append_nil, List.mem_append] at hx
    rcases hx with hx | hx
    · exact hga x hx
    · exact hgb x hx)
  have hsm : ∀ e ∈ starts (ptsL [a, b].flatten), e.sm := fun e he => hE.sm e (List.mem_append_left _ he)
  have hlo : ∀ x ∈ a, loE x ∈ starts (ptsL [a, b].flatten) := fun x hx => lo_start hE (l := a) (by simp) hx
  have hhi : ∀ y ∈ b, hiE y ≠ topE → hiE y ∈ starts (ptsL [a, b].flatten) := fun y hy ht => hi_start hE (l := b) (by simp) hy ht
  have hpb := setE_pair hb
  generalize starts (ptsL [a, b].flatten) = S at *
  rw [Bool.eq_iff_iff]
  simp only [List.all_eq_true, wthB, List.any_eq_true, Bool.and_eq_true, Bool.not_eq_true', Bool.or_eq_true]
  have hcov : ∀ (l : List Itv) (e : En), covB l e = true ↔ ∃ x ∈ l, lessE e (loE x) = false ∧ lessE e (hiE x) = true := fun l e => by
    simp [covB, insB, List.any_eq_true]
  have hcovf : ∀ (l : List Itv) (e : En), covB l e = false ↔ ¬ covB l e = true := fun l e => by simp
  constructor
  · intro h x hx
    have hsx1 := goodB.lo (hga x hx)
    have hsx2 := goodB.hi (hga x hx)
    have hc := h _ (hlo x hx)
    have h1 : covB a (loE x) = true := (hcov _ _).2 ⟨x, hx, sm_irr hsx1, goodB.lt (hga x hx)⟩
    rw [h1] at hc
    obtain ⟨y, hy, h2, h3⟩ := (hcov _ _).1 (by simpa using hc)
    refine ⟨y, hy, h2, ?_⟩
    cases h4 : lessE (hiE y) (hiE x) with
    | false => rfl
    | true =>
      exfalso
      have hsy1 := goodB.lo (hgb y hy)
      have hsy2 := goodB.hi (hgb y hy)
      have hnt : hiE y ≠ topE := by
        intro e
        have h5 := ltE_ntop (a := ⟨hiE y, hsy2.ok⟩) (b := ⟨hiE x, hsx2.ok⟩) h4
        apply h5
        show (hiE y).far = 1
        rw [e]; rfl
      have hc2 := h _ (hhi y hy hnt)
      have h6 : covB a (hiE y) = true := (hcov _ _).2 ⟨x, hx, not_lt_of_lt hsx1 hsy2 h3, h4⟩
      rw [h6] at hc2
      obtain ⟨z, hz, h7, h8⟩ := (hcov _ _).1 (by simpa using hc2)
      have hsz1 := goodB.lo (hgb z hz)
      have hsz2 := goodB.hi (hgb z hz)
      obtain ⟨i, hi, rfl⟩ := List.mem_iff_getElem.1 hy
      obtain ⟨j, hj, rfl⟩ := List.mem_iff_getElem.1 hz
      have hpw := List.pairwise_iff_getElem.1 hpb
      rcases Nat.lt_trichotomy i j with h9 | h9 | h9
      · have := hpw i j hi hj h9
        rw [h7] at this; cases this
      · subst h9
        rw [sm_irr hsy2] at h8; cases h8
      · have h10 := hpw j i hj hi h9
        have h11 := sm_trans hsz2 hsy1 hsy2 h10 (goodB.lt (hgb _ hy))
        have := not_lt_of_lt hsz2 hsy2 h11
        rw [this] at h8; cases h8
  · intro h e he
    have hse := hsm e he
    cases h1 : covB a e with
    | false => exact .inl rfl
    | true =>
      right
      obtain ⟨x, hx, h2, h3⟩ := (hcov _ _).1 h1
      obtain ⟨y, hy, h4, h5⟩ := h x hx
      have hsx1 := goodB.lo (hga x hx)
      have hsx2 := goodB.hi (hga x hx)
      have hsy1 := goodB.lo (hgb y hy)
      have hsy2 := goodB.hi (hgb y hy)
      refine (hcov _ _).2 ⟨y, hy, ?_, ?_⟩
      · cases h6 : lessE e (loE y) with
        | false => rfl
        | true =>
          exfalso
          by_cases h7 : loE x = loE y
          · rw [h7, h6] at h2; cases h2
          · have h8 := sm_total hsy1 hsx1 h4 (fun e => h7 e.symm)
            have := sm_trans hse hsy1 hsx1 h6 h8
            rw [this] at h2; cases h2
      · by_cases h7 : hiE x = hiE y
        · rw [← h7]; exact h3
        · exact sm_trans hse hsx2 hsy2 h3 (sm_total hsx2 hsy2 h5 h7)
set_option maxRecDepth 100000 in
set_option maxHeartbeats 8000000 in
theorem rwithin_c (va vb : Value) (a b : List Itv) (w : World) (ha : ItvsR (ph w) va a) (hb : ItvsR (ph w) vb b) :
    Calls Try.prog 20 #[va, vb] w (RetV w (.tuple #[.bool (withS a b).1, .int .i64 (withS a b).2])) := by
  have hva := rvalid4_c va a w ha
  have hvb := fun (w' : World) (hx : Ext w w') => rvalid4_c vb b w' (hb.mono mono_ItvR hx.ple)
  have hS2 := fun W (hx : Ext w W) => setsR2 (Proofs.Ytmbkefgmiehdiaa.Own.new W #[va, vb] 23) (hx.then (Ext.new W (.cells #[va, vb] 23))) ha hb
  have hs : Hid (withS a b = if setE a ≠ 0 then (false, setE a) else if setE b ≠ 0 then (false, setE b) else (a.all (wthB b), 0)) := by
    show _ = _
    unfold withS
    rw [setsE_2]
    by_cases h1 : setE a = 0 <;> by_cases h2 : setE b = 0 <;> simp [h1, h2]
  have hg0 : Hid (setE a = 0 → setE b = 0 → ∀ x ∈ [a, b].flatten, goodB x = true) := Lib.hid fun h1 h2 x hx => by
    simp only [List.flatten_cons, List.flatten_nil, List.append_nil, List.mem_append] at hx
    rcases hx with hx | hx
    · exact (setE_0 h1).1 x hx
    · exact (setE_0 h2).1 x hx
  have hl0 : Hid (setE a = 0 → setE b = 0 → [a, b].flatten.length ≤ 64) := Lib.hid fun h1 h2 => by
    have h3 := (setE_0 h1).2
    have h4 := (setE_0 h2).2
    simp; omega
  have hpt := fun (w' : World) (v : Value) (h : SetsR (ph w') v [a, b]) (h1 : setE a = 0) (h2 : setE b = 0) => points_c v [a, b] w' h (hg0.out h1 h2) (by have := hl0.out h1 h2; omega)
  have hce := fun (h1 : setE a = 0) (h2 : setE b = 0) (l : List Itv) (hsub : ∀ x ∈ l, x ∈ [a, b].flatten) (vl vp : Value) (w' : World) (hl : ItvsR (ph w') vl l) (hr : RatsR (ph w') vp (ptsL [a, b].flatten)) => cells_c vl vp [a, b].flatten l (ptsL [a, b].flatten) w' hl hr (pts_of (hg0.out h1 h2)) hsub (fun x hx => hg0.out h1 h2 x (hsub x hx)) (by have := ptsL_len [a, b].flatten; have := hl0.out h1 h2; omega)
  have hpl : Hid (setE a = 0 → setE b = 0 → (ptsL [a, b].flatten).length ≤ 128) := Lib.hid fun h1 h2 => by have := ptsL_len [a, b].flatten; have := hl0.out h1 h2; omega
  have hsa : Hid (∀ x ∈ a, x ∈ [a, b].flatten) := Lib.hid fun x hx => by simp [hx]
  have hsb : Hid (∀ x ∈ b, x ∈ [a, b].flatten) := Lib.hid fun x hx => by simp [hx]
  have hczA : Hid (setE a = 0 → setE b = 0 → a.all (wthB b) = ((starts (ptsL [a, b].flatten)).map fun e => !covB a e || covB b e).all id) := Lib.hid fun h1 h2 => by
    rw [← within_law h1 h2, List.all_map]; rfl
  replace hpt := Lib.hid hpt
  replace hce := Lib.hid hce
  replace hS2 := Lib.hid hS2
  replace hvb := Lib.hid hvb
  obtain ⟨pa, ca, rfl, -, ha⟩ := ha.form
  obtain ⟨pb, cb, rfl, -, hb⟩ := hb.form
  generalize [a, b].flatten = fl at *
  generalize hP : ptsL fl = P at *
  generalize setE a = ea at *
  generalize setE b = eb at *
  replace hva := Lib.hid hva
  clear hg0 hl0
  by_cases h1 : ea = 0
  · subst h1
    by_cases h2 : eb = 0
    · subst h2
      rw [if_neg (by simp), if_neg (by simp)] at hs
      have hpt' := fun w' v h => hpt.out w' v h rfl rfl
      have hce' := hce.out rfl rfl
      have hpl' := hpl.out rfl rfl
      have hcz := Lib.hid (hczA.out rfl rfl)
      replace hpt' := Lib.hid hpt'
      replace hce' := Lib.hid hce'
      clear hpt hce hpl
      clear hczA
      go_enter Try.func20, Try.ntmps20
      go_wp2_with fail
      refine RetV_at hva.out ?_
      intro w1 hx1
      go_wp2_with fail
      refine RetV_at (hvb.out w1 hx1) ?_
      intro w2 hx2
      replace hx1 := hx1.then hx2
      have hpp := hpt'.out _ _ (hS2.out w2 hx1)
      replace hpp := Lib.hid hpp
      have hx3 := hx1.then (Ext.new w2 (.cells #[.slice pa a.length ca, .slice pb b.length cb] 23))
      clear hva hvb hx2 hpt' hS2
      go_wp2_with fail
      refine hpp.out.mono ?_
      rintro e w4 ⟨vp, rfl, hx4, hrp⟩
      replace hx3 := hx3.then hx4
      have hc1 := hce'.out a hsa.out (.slice pa a.length ca) vp w4 (ha.mono mono_ItvR hx3.ple) hrp
      obtain ⟨qa, qc, rfl, -, hrp⟩ := hrp.form
      replace hc1 := Lib.hid hc1
      clear hpp hx4
      go_wp2_with fail
      refine hc1.out.mono ?_
      rintro e w5 ⟨vx, rfl, hx5, hrx⟩
      replace hx3 := hx3.then hx5
      have hrp5 := hrp.mono mono_RatR hx5.ple
      have hc2 := hce'.out b hsb.out (.slice pb b.length cb) _ w5 (hb.mono mono_ItvR hx3.ple) hrp5
      obtain ⟨xa, xc, rfl, -, hrx⟩ := hrx.form
      replace hc2 := Lib.hid hc2
      clear hc1 hce' ha hb hrp
      go_wp2_with fail
      refine hc2.out.mono ?_
      rintro e w6 ⟨vy, rfl, hx6, hry⟩
      replace hx3 := hx3.then hx6
      replace hrp5 := hrp5.mono mono_RatR hx6.ple
      replace hrx := hrx.mono mono_BoolR hx6.ple
      obtain ⟨ya, yc, rfl, -, hry⟩ := hry.form
      clear hc2 hx6 hx5
      simp only [cellsL_len] at hrx hry ⊢
      obtain ⟨M, hMd⟩ : ∃ M, 2 * P.length + 1 = M := ⟨_, rfl⟩
      have hM6 : M ≤ 257 := by omega
      have hXl : (cellsL a P).length = M := by rw [cellsL_len]; exact hMd
      have hYl : (cellsL b P).length = M := by rw [cellsL_len]; exact hMd
      have hKl : ((starts P).map fun e => !covB a e || covB b e).length = M := by rw [List.length_map, starts_len]; exact hMd
      have hK : ∀ i (h : i < M), ((starts P).map fun e => !covB a e || covB b e)[i]'(by omega) = (!(cellsL a P)[i]'(by omega) || (cellsL b P)[i]'(by omega)) := fun i h => by
        simp [cellsL]
      simp only [hMd] at hrx hry ⊢
      have pack : ∃ KC X Y : List Bool, ∃ (hXl : X.length = M) (hYl : Y.length = M) (hKl : KC.length = M), (∀ i (h : i < M), KC[i]'(by omega) = (!X[i]'(by omega) || Y[i]'(by omega))) ∧ BoolsR (ph w6) (.slice xa M xc) X ∧ BoolsR (ph w6) (.slice ya M yc) Y ∧ a.all (wthB b) = KC.all id :=
        ⟨_, _, _, hXl, hYl, hKl, hK, hrx, hry, hcz.out⟩
      clear hXl hYl hKl hK hcz
      clear hrx hry
      obtain ⟨KC, X, Y, hXl, hYl, hKl, hK, hrx, hry, hcz⟩ := pack
      replace hcz := Lib.hid hcz
      replace hK := Lib.hid hK
      clear hsa hsb
      replace hcz := Lib.hid hcz
      go_wp2_with fail
      go_loopw [11] (fun vi wr => ∃ (i : Nat), i ≤ M ∧ vi = .int .i64 i ∧ Hid ((KC.take i).all id = true) ∧ Ext w6 wr) (fun vi _ => M - (intOf vi).toNat)
      case atStart => exact ⟨0, by omega, rfl, Lib.hid (by simp), Ext.rfl' _⟩
      case round =>
        obtain ⟨i, hi, rfl, hbs, hx9⟩ := hrel
        by_cases hlt : i < M
        · obtain ⟨b1, o1, rfl, g0, gl0⟩ := BoolsR.at (hrx.mono mono_BoolR hx9.ple) i (by rw [hXl]; exact hlt)
          obtain ⟨b2, o2, rfl, g1, gl1⟩ := BoolsR.at (hry.mono mono_BoolR hx9.ple) i (by rw [hYl]; exact hlt)
          have hja : decide (i < M) = true := decide_eq_true hlt
          have hki := hK.out i hlt
          have hk1 : (KC.take (i + 1)).all id = (!(X[i]'(by rw [hXl]; exact hlt)) || (Y[i]'(by rw [hYl]; exact hlt))) := by
            rw [List.take_succ_eq_append_getElem (by rw [hKl]; exact hlt), List.all_append, hbs.out, hki]; simp
          have hk3 : KC.all id = true → (!(X[i]'(by rw [hXl]; exact hlt)) || (Y[i]'(by rw [hYl]; exact hlt))) = true := fun h => by
            rw [← hki]
            exact List.all_eq_true.1 h _ (List.getElem_mem _)
          generalize (X[i]'(by rw [hXl]; exact hlt)) = xv at *
          generalize (Y[i]'(by rw [hYl]; exact hlt)) = yv at *
          replace hki := Lib.hid hki
          replace hk1 := Lib.hid hk1
          replace hk3 := Lib.hid hk3
          cases xv with
          | false =>
            go_wp2_with fail
            go_roundw
            case rel => exact ⟨i + 1, by omega, by go_num, by rw [hk1.out]; rfl, hx9⟩
            case measure => simp [intOf]; omega
          | true =>
            cases yv with
            | true =>
              go_wp2_with fail
              go_roundw
              case rel => exact ⟨i + 1, by omega, by go_num, by rw [hk1.out]; rfl, hx9⟩
              case measure => simp [intOf]; omega
            | false =>
              have hf : Hid (a.all (wthB b) = false) := Lib.hid (by
                rw [hcz.out]
                cases h : KC.all id with
                | false => rfl
                | true => have := hk3.out h; simp at this)
              go_wp2_with fail
              go_ret2
              exact ⟨by rw [hs.out, hf.out]; rfl, hx3.then hx9⟩
        · have hja : decide (i < M) = false := by simpa using hlt
          have hf : Hid (a.all (wthB b) = true) := Lib.hid (by
            rw [hcz.out]
            have := hbs.out
            rwa [List.take_of_length_le (by rw [hKl]; omega)] at this)
          go_wp2_with fail
          go_ret2
          exact ⟨by rw [hs.out, hf.out]; rfl, hx3.then hx9⟩
    · rw [if_neg (by simp), if_pos h2] at hs
      have hb2 : (eb != 0) = true := by simpa using h2
      clear hpt hce hpl hS2
      go_enter Try.func20, Try.ntmps20
      go_wp2_with fail
      refine RetV_at hva.out ?_
      intro w1 hx1
      go_wp2_with fail
      refine RetV_at (hvb.out w1 hx1) ?_
      intro w2 hx2
      go_wp2_with fail
      go_ret2
      exact ⟨by rw [hs.out]; rfl, hx1.then hx2⟩
  · rw [if_pos h1] at hs
    have hb1 : (ea != 0) = true := by simpa using h1
    clear hpt hce hpl hS2
    go_enter Try.func20, Try.ntmps20
    go_wp2_with fail
    refine RetV_at hva.out ?_
    intro w1 hx1
    go_wp2_with fail
    go_ret2
    exact ⟨by rw [hs.out]; rfl, hx1⟩
end Go.Proofs.Ytmbkefgmiehdiaa
