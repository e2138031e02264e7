/- ends of intervals: their order, in plain words. -/
import Derived.Test.YtcbmgajaaechjaaGreatSPl
import Derived.Test.YtcbmgajaaechjaaGreatRatD
namespace Go.Proofs.YtcbmgajaaechjaaGreat
set_option linter.unusedVariables false
/-- in lowest terms, the denominator positive -/
def Rat2.ok (r : Rat2) : Prop := 0 < r.den ∧ Nat.Coprime r.num.natAbs r.den.natAbs
theorem Rat2.ext' {a b : Rat2} (h1 : a.num = b.num) (h2 : a.den = b.den) : a = b := by cases a; cases b; cases h1; cases h2; rfl
/-- ratios of one value are one ratio -/
theorem Rat2.same {a b : Rat2} (ha : a.ok) (hb : b.ok) (h : a.num * b.den = b.num * a.den) : a = b := by
  have hn : a.num.natAbs * b.den.natAbs = b.num.natAbs * a.den.natAbs := by
    have := congrArg Int.natAbs h
    rwa [Int.natAbs_mul, Int.natAbs_mul] at this
  have d1 : a.den.natAbs ∣ b.den.natAbs := by
    have : a.den.natAbs ∣ a.num.natAbs * b.den.natAbs := ⟨b.num.natAbs, by rw [hn, Nat.mul_comm]⟩
    exact Nat.Coprime.dvd_of_dvd_mul_left ha.2.symm this
  have d2 : b.den.natAbs ∣ a.den.natAbs := by
    have : b.den.natAbs ∣ b.num.natAbs * a.den.natAbs := ⟨a.num.natAbs, by rw [← hn, Nat.mul_comm]⟩
    exact Nat.Coprime.dvd_of_dvd_mul_left hb.2.symm this
  have e0 : a.den.natAbs = b.den.natAbs := Nat.dvd_antisymm d1 d2
  have e1 : a.den = b.den := by have := ha.1; have := hb.1; omega
  have e2 : a.num = b.num := by
    rw [e1] at h
    have := hb.1
    exact Int.eq_of_mul_eq_mul_right (by omega) h
  exact Rat2.ext' e2 e1
/-- an end: far -1, 0 or 1 -/
structure En where
  far : Int
  at' : Rat2
  aft : Bool
  deriving DecidableEq
def En.ok (e : En) : Prop := (e.far = 0 ∧ e.at'.ok) ∨ ((e.far = -1 ∨ e.far = 1) ∧ e.at' = ⟨0, 0⟩ ∧ e.aft = false)
def lessE (a b : En) : Bool :=
  if a.far ≠ b.far then decide (a.far < b.far) else if a.far ≠ 0 then false else
  if a.at'.num * b.at'.den ≠ b.at'.num * a.at'.den then decide (a.at'.num * b.at'.den < b.at'.num * a.at'.den) else (!a.aft && b.aft)
abbrev EnT := { e : En // e.ok }
def ltE (a b : EnT) : Prop := lessE a.1 b.1 = true
theorem crs_trans {a b c : Rat2} (ha : 0 < a.den) (hb : 0 < b.den) (hc : 0 < c.den) (h1 : a.num * b.den ≤ b.num * a.den) (h2 : b.num * c.den ≤ c.num * b.den) : a.num * c.den ≤ c.num * a.den := by
  have e1 : a.num * b.den * c.den ≤ b.num * a.den * c.den := Int.mul_le_mul_of_nonneg_right h1 (by omega)
  have e2 : b.num * c.den * a.den ≤ c.num * b.den * a.den := Int.mul_le_mul_of_nonneg_right h2 (by omega)
  have e3 : (a.num * c.den) * b.den ≤ (c.num * a.den) * b.den := by
    have r1 : a.num * c.den * b.den = a.num * b.den * c.den := by rw [Int.mul_assoc, Int.mul_comm c.den, ← Int.mul_assoc]
    have r2 : b.num * a.den * c.den = b.num * c.den * a.den := by rw [Int.mul_assoc, Int.mul_comm a.den, ← Int.mul_assoc]
    have r3 : c.num * b.den * a.den = c.num * a.den * b.den := by rw [Int.mul_assoc, Int.mul_comm b.den, ← Int.mul_assoc]
    rw [r1, ← r3]
    exact Int.le_trans e1 (r2 ▸ e2)
  exact Int.le_of_mul_le_mul_right e3 hb
theorem ltE_far {a b : EnT} (h : a.1.far ≠ b.1.far) : ltE a b ↔ a.1.far < b.1.far := by unfold ltE lessE; rw [if_pos h]; simp
theorem ltE_out {a b : EnT} (h : a.1.far = b.1.far) (h0 : a.1.far ≠ 0) : ¬ ltE a b := by unfold ltE lessE; rw [if_neg (by simpa using h), if_pos h0]; simp
theorem ltE_in {a b : EnT} (h : a.1.far = b.1.far) (h0 : a.1.far = 0) : ltE a b ↔ a.1.at'.num * b.1.at'.den < b.1.at'.num * a.1.at'.den ∨ (a.1.at'.num * b.1.at'.den = b.1.at'.num * a.1.at'.den ∧ a.1.aft = false ∧ b.1.aft = true) := by
  unfold ltE lessE
  rw [if_neg (by simpa using h), if_neg (by simpa using h0)]
  by_cases hc : a.1.at'.num * b.1.at'.den = b.1.at'.num * a.1.at'.den
  · rw [if_neg (by simpa using hc)]
    simp [hc]
  · rw [if_pos hc]
    simp [hc]
theorem EnT.at_ok {a : EnT} (h : a.1.far = 0) : a.1.at'.ok := by
  rcases a.2 with h1 | ⟨h1, -⟩
  · exact h1.2
  · omega
theorem EnT.eq {a b : EnT} (h1 : a.1.far = b.1.far) (h2 : a.1.at' = b.1.at') (h3 : a.1.aft = b.1.aft) : a = b := by
  obtain ⟨⟨f, x, t⟩, ha⟩ := a
  obtain ⟨⟨f', x', t'⟩, hb⟩ := b
  cases h1; cases h2; cases h3; rfl
theorem stoE : STO ltE where
  irr a := by
    by_cases h : a.1.far = 0
    · rw [ltE_in rfl h]
      rintro (h1 | ⟨-, h2, h3⟩)
      · omega
      · rw [h2] at h3; cases h3
    · exact ltE_out rfl h
  trans a b c h1 h2 := by
    by_cases hab : a.1.far = b.1.far
    · by_cases hbc : b.1.far = c.1.far
      · by_cases h0 : a.1.far = 0
        · have hb0 : b.1.far = 0 := by omega
          have hc0 : c.1.far = 0 := by omega
          rw [ltE_in hab h0] at h1
          rw [ltE_in hbc hb0] at h2
          rw [ltE_in (hab.trans hbc) h0]
          have oa := EnT.at_ok h0
          have ob := EnT.at_ok hb0
          have oc := EnT.at_ok hc0
          have l1 : a.1.at'.num * b.1.at'.den ≤ b.1.at'.num * a.1.at'.den := by rcases h1 with h1 | ⟨h1, -⟩ <;> omega
          have l2 : b.1.at'.num * c.1.at'.den ≤ c.1.at'.num * b.1.at'.den := by rcases h2 with h2 | ⟨h2, -⟩ <;> omega
          have l3 := crs_trans oa.1 ob.1 oc.1 l1 l2
          by_cases he : a.1.at'.num * c.1.at'.den = c.1.at'.num * a.1.at'.den
          · have hac := Rat2.same oa oc he
            rw [← hac] at l2 h2
            rcases h1 with h1 | ⟨h1, h3, h4⟩
            · omega
            · rcases h2 with h2 | ⟨h2, h5, h6⟩
              · omega
              · rw [h4] at h5; cases h5
          · exact .inl (by omega)
        · exact absurd h1 (ltE_out hab h0)
      · rw [ltE_far hbc] at h2
        rw [ltE_far (by omega)]; omega
    · rw [ltE_far hab] at h1
      by_cases hbc : b.1.far = c.1.far
      · rw [ltE_far (by omega)]; omega
      · rw [ltE_far hbc] at h2
        rw [ltE_far (by omega)]; omega
  total a b := by
    by_cases hab : a.1.far = b.1.far
    · by_cases h0 : a.1.far = 0
      · have hb0 : b.1.far = 0 := by omega
        have oa := EnT.at_ok h0
        have ob := EnT.at_ok hb0
        rw [ltE_in hab h0, ltE_in hab.symm hb0]
        rcases Int.lt_trichotomy (a.1.at'.num * b.1.at'.den) (b.1.at'.num * a.1.at'.den) with h | h | h
        · exact .inl (.inl h)
        · have hs := Rat2.same oa ob h
          cases ha : a.1.aft <;> cases hb : b.1.aft
          · exact .inr (.inl (EnT.eq hab hs (by rw [ha, hb])))
          · exact .inl (.inr ⟨h, rfl, rfl⟩)
          · exact .inr (.inr (.inr ⟨h.symm, rfl, rfl⟩))
          · exact .inr (.inl (EnT.eq hab hs (by rw [ha, hb])))
        · exact .inr (.inr (.inl h))
      · refine .inr (.inl ?_)
        rcases a.2 with h1 | ⟨-, h1, h2⟩
        · exact absurd h1.1 h0
        · rcases b.2 with h3 | ⟨-, h3, h4⟩
          · exact absurd (hab.trans h3.1) h0
          · exact EnT.eq hab (h1.trans h3.symm) (h2.trans h4.symm)
    · rw [ltE_far hab, ltE_far (fun e => hab e.symm)]; omega
end Go.Proofs.YtcbmgajaaechjaaGreat
