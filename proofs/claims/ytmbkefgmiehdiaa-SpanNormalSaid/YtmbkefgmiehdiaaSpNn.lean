/- the plain law of SpanNormal: Normal twice is Normal, and has the same numbers. -/
import Derived.Test.YtmbkefgmiehdiaaSpZA
import Derived.Test.YtmbkefgmiehdiaaSpHA
import Derived.Test.YtmbkefgmiehdiaaSpI
namespace Go.Proofs.Ytmbkefgmiehdiaa
set_option linter.unusedVariables false
set_option linter.unusedSimpArgs false
theorem norm_set {raw : List Itv} (hg : ∀ x ∈ raw, goodB x = true) (hl : raw.length ≤ 32) : setE (normS raw).1 = 0 ∧ (normS raw).1.length ≤ raw.length := by
  have h1 := fst_len hg
  have h2 : normS raw = (combF fstK [raw], 0) := by
    unfold normS fewE
    rw [if_neg (by rw [Bool.not_eq_true, List.any_eq_false]; intro x hx; simp [hg x hx]), if_neg (by omega)]
  rw [h2]
  exact ⟨setE_of_can (combF_can (flat1 hg)) (by show (combF fstK [raw]).length ≤ 32; omega), h1⟩
theorem equal_t {vx vy : Value} {X : List Itv} {w : World} (hx : ItvsR (ph w) vx X) (hy : ItvsR (ph w) vy X) : Calls Try.prog 26 #[vx, vy] w (RetV w (.bool true)) := by
  have := equal_c vx vy X X w hx hy
  rwa [show decide (X = X) = true by simp] at this
theorem norm_good {l : List Itv} (hg : ∀ x ∈ l, goodB x = true) : normS l = fewE (combF fstK [l]) := by
  unfold normS
  rw [if_neg (by rw [Bool.not_eq_true, List.any_eq_false]; intro x hx; simp [hg x hx])]
theorem hasL_cov {l : List Itv} (hg : ∀ x ∈ l, goodB x = true) {r : Rat2} : hasL l r = (decide (RatOk r) && covB l ⟨0, r, false⟩) := by
  unfold hasL covB
  congr 1
  rw [Bool.eq_iff_iff, List.any_eq_true, List.any_eq_true]
  constructor
  · rintro ⟨x, hx, h⟩
    simp only [Bool.and_eq_true] at h
    exact ⟨x, hx, h.2⟩
  · rintro ⟨x, hx, h⟩
    exact ⟨x, hx, by simp only [Bool.and_eq_true]; exact ⟨hg x hx, h⟩⟩
theorem end_ok {r : Rat2} (h : RatOk r) : (⟨0, r, false⟩ : En).ok := .inl ⟨rfl, h.ok⟩
theorem norm_ok {l : List Itv} (h : (normS l).2 = 0) : setE (normS l).1 = 0 ∧ normS (normS l).1 = ((normS l).1, 0) ∧ ∀ r, hasL (normS l).1 r = hasL l r := by
  by_cases hb : (l.any fun x => !goodB x) = true
  · exfalso
    unfold normS at h
    rw [if_pos hb] at h
    cases h
  · have hg : ∀ x ∈ l, goodB x = true := by
      rw [Bool.not_eq_true, List.any_eq_false] at hb
      intro x hx
      simpa using hb x hx
    have hn := norm_good hg
    have hlen : ¬ 32 < (combF fstK [l]).length := by
      intro hl
      rw [hn] at h
      unfold fewE at h
      rw [if_pos hl] at h
      cases h
    have hx : (normS l).1 = combF fstK [l] := by
      rw [hn]; unfold fewE; rw [if_neg hlen]
    rw [hx]
    have hc := combF_can (keep := fstK) (flat1 hg)
    have hs : setE (combF fstK [l]) = 0 := setE_of_can hc (by omega)
    refine ⟨hs, ?_, fun r => ?_⟩
    · rw [norm_good hc.good]
      have : combF fstK [combF fstK [l]] = combF fstK [l] := (combF_can (flat1 hc.good)).uniq hc fun e he => by
        rw [combF_cov (flat1 hc.good) he]
        exact cov_guard hc.good e
      rw [this]
      unfold fewE
      rw [if_neg hlen]
    · rw [hasL_cov hc.good, hasL_cov hg]
      by_cases hr : RatOk r
      · rw [combF_cov (flat1 hg) (end_ok hr)]
        simp [fstK]
      · simp [hr]
end Go.Proofs.Ytmbkefgmiehdiaa
