/- Days and dates, in plain numbers. -/
import Derived.Test.YtcmdekhhclgdcaaDoorBase
namespace Go.Proofs.YtcmdekhhclgdcaaDoor
open Go.RowKit
set_option linter.unusedSimpArgs false
set_option linter.unusedVariables false
def leapB (y : Int) : Bool := decide (y % 4 = 0) && (decide (y % 100 ≠ 0) || decide (y % 400 = 0))
def lenM (y m : Int) : Int := if m = 2 then (if leapB y then 29 else 28) else if m = 4 ∨ m = 6 ∨ m = 9 ∨ m = 11 then 30 else 31
theorem lenM_le (y m : Int) : 28 ≤ lenM y m ∧ lenM y m ≤ 31 := by
  unfold lenM; split
  · split <;> omega
  · split <;> omega
/-- days from the year 1 to a year -/
def bef (y : Int) : Int := 365 * (y - 1) + (y - 1) / 4 - (y - 1) / 100 + (y - 1) / 400
theorem leapB_iff (y : Int) : leapB y = true ↔ y % 4 = 0 ∧ (y % 100 ≠ 0 ∨ y % 400 = 0) := by unfold leapB; simp
theorem bef_succ (y : Int) : bef (y + 1) = bef y + 365 + (if leapB y then 1 else 0) := by
  unfold bef
  by_cases h : leapB y = true
  · rw [if_pos h]; rw [leapB_iff] at h; omega
  · rw [if_neg h]; rw [leapB_iff] at h; omega
theorem bef_mono {a b : Int} (h : a ≤ b) : bef a + 365 * (b - a) ≤ bef b := by unfold bef; omega
theorem bef_up {a b : Int} (h : a ≤ b) : bef b ≤ bef a + 366 * (b - a) := by unfold bef; omega
/-- days of the first m months -/
def dayM (y : Int) : Nat → Int
  | 0 => 0
  | m + 1 => dayM y m + lenM y (m + 1)
theorem dayM_ge (y : Int) : ∀ m : Nat, 28 * (m : Int) ≤ dayM y m ∧ dayM y m ≤ 31 * (m : Int)
  | 0 => by simp [dayM]
  | m + 1 => by
    have := dayM_ge y m
    have := lenM_le y (m + 1)
    rw [dayM]; omega
theorem dayM_mono (y : Int) : ∀ {a b : Nat}, a ≤ b → dayM y a ≤ dayM y b := by
  intro a b h
  induction b with
  | zero =>
    obtain rfl : a = 0 := (by omega)
    exact Int.le_refl _
  | succ b ih =>
    by_cases hb : a = b + 1
    · subst hb; exact Int.le_refl _
    · have := ih (by omega)
      have := lenM_le y (b + 1)
      rw [dayM]; omega
theorem dayM_12 (y : Int) : dayM y 12 = 365 + (if leapB y then 1 else 0) := by
  simp [dayM, lenM]
  by_cases h : leapB y = true <;> simp [h]
/-- day d is day k of month m of year y -/
structure IsDate (d y m k : Int) : Prop where
  y0 : 1900 ≤ y
  m0 : 1 ≤ m
  m1 : m ≤ 12
  k0 : 1 ≤ k
  k1 : k ≤ lenM y m
  eq : d = bef y - bef 1900 + dayM y (m - 1).toNat + k - 1
theorem IsDate.lo {d y m k : Int} (h : IsDate d y m k) : bef y - bef 1900 ≤ d ∧ d < bef (y + 1) - bef 1900 := by
  obtain ⟨h0, h1, h2, h3, h4, h5⟩ := h
  have e := bef_succ y
  have e2 := dayM_12 y
  have e3 := dayM_mono y (a := (m - 1).toNat + 1) (b := 12) (by omega)
  rw [dayM, show (((m - 1).toNat : Int) + 1) = m by omega] at e3
  have e4 := dayM_ge y (m - 1).toNat
  omega
theorem IsDate.uniq {d y m k y' m' k' : Int} (h : IsDate d y m k) (h' : IsDate d y' m' k') : y = y' ∧ m = m' ∧ k = k' := by
  have e1 := h.lo
  have e2 := h'.lo
  have ey : y = y' := by
    rcases Int.lt_trichotomy y y' with hl | hl | hl
    · have := bef_mono (a := y + 1) (b := y') (by omega); omega
    · exact hl
    · have := bef_mono (a := y' + 1) (b := y) (by omega); omega
  subst ey
  obtain ⟨h0, h1, h2, h3, h4, h5⟩ := h
  obtain ⟨g0, g1, g2, g3, g4, g5⟩ := h'
  have em : m = m' := by
    rcases Int.lt_trichotomy m m' with hl | hl | hl
    · have e3 := dayM_mono y (a := (m - 1).toNat + 1) (b := (m' - 1).toNat) (by omega)
      rw [dayM, show (((m - 1).toNat : Int) + 1) = m by omega] at e3
      omega
    · exact hl
    · have e3 := dayM_mono y (a := (m' - 1).toNat + 1) (b := (m - 1).toNat) (by omega)
      rw [dayM, show (((m' - 1).toNat : Int) + 1) = m' by omega] at e3
      omega
  subst em
  exact ⟨rfl, rfl, by omega⟩
/-- the number of a date -/
def numV (y m k : Int) : Int := bef y - bef 1900 + dayM y (m - 1).toNat + k - 1
/-- a day is some months later -/
noncomputable def dateV (d : Int) : Int × Int × Int := @dite _ (∃ p : Int × Int × Int, IsDate d p.1 p.2.1 p.2.2) (Classical.propDecidable _) (fun h => Classical.choose h) (fun _ => (0, 0, 0))
theorem dateV_eq {d y m k : Int} (h : IsDate d y m k) : dateV d = (y, m, k) := by
  have hex : ∃ p : Int × Int × Int, IsDate d p.1 p.2.1 p.2.2 := ⟨(y, m, k), h⟩
  unfold dateV
  rw [dif_pos hex]
  obtain ⟨e1, e2, e3⟩ := (Classical.choose_spec hex).uniq h
  exact Prod.ext e1 (Prod.ext e2 e3)
theorem bef1900 : bef 1900 = 693595 := by unfold bef; omega
/-- the end of a number of months from a date on -/
def addD (p : Int × Int × Int) (many : Int) : Int :=
  let all := 12 * p.1 + p.2.1 - 1 + many
  numV (all / 12) (all % 12 + 1) (min p.2.2 (lenM (all / 12) (all % 12 + 1)))
/-- Add: the day and the error -/
noncomputable def addV (d many : Int) : Int × Int :=
  if d < 0 ∨ d > 131072 then (0, 5) else if many < 0 ∨ many > 12000 then (0, 1) else
  if addD (dateV d) many ≤ 131072 then (addD (dateV d) many, 0) else (0, 5)
end Go.Proofs.YtcmdekhhclgdcaaDoor
