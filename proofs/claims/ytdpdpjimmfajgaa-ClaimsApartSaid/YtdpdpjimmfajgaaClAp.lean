/- plain laws of a list of claims that is longer. -/
import Derived.Test.YtdpdpjimmfajgaaClVA
import Derived.Test.YtdpdpjimmfajgaaClBA
import Derived.Test.YtdpdpjimmfajgaaClMA
import Derived.Test.YtdpdpjimmfajgaaGenSA
namespace Go.Proofs.Ytdpdpjimmfajgaa
open Go.RowKit
set_option linter.unusedSimpArgs false
set_option linter.unusedVariables false
theorem some_valid {l : List Cl} (hl : l.length ≤ 8) (h : ∀ i x, l[i]? = some x → SomeCl i x) : validC l = 0 := by
  refine validC_of (by omega) fun i hi => ?_
  obtain ⟨h1, h2, h3, h4, h5, h6⟩ := h i l[i] (List.getElem?_eq_getElem hi)
  unfold SzP at h2
  exact ⟨by omega, refsB_of (fun r hr => by have := h4 r hr; omega) h5, validF_of (by omega) (by omega) h1⟩
theorem checkC_in {l : List Cl} (hv : validC l = 0) {i : Nat} (hi : i < l.length) : checkC l i = 0 := by
  unfold checkC
  rw [if_neg (by simpa using hv), if_neg (by omega)]
theorem meaning_app {l m : List Cl} (hv : validC l = 0) (hv2 : validC (l ++ m) = 0) {i : Nat} (hi : i < l.length) : meaningE (l ++ m) i = meaningE l i := by
  unfold meaningE
  rw [checkC_in hv hi, checkC_in hv2 (by rw [List.length_append]; omega), Int.toNat_natCast, meanC_app i hi]
theorem alts_app {l m : List Cl} (hv : validC l = 0) (hv2 : validC (l ++ m) = 0) {i : Nat} (hi : i < l.length) : altsE (l ++ m) i = altsE l i := by
  unfold altsE
  rw [checkC_in hv hi, checkC_in hv2 (by rw [List.length_append]; omega), Int.toNat_natCast, altC_app i hi]
theorem dep_app {l m : List Cl} (hv : validC l = 0) (hv2 : validC (l ++ m) = 0) {i : Nat} (hi : i < l.length) : depE (l ++ m) i = depE l i := by
  unfold depE
  rw [checkC_in hv hi, checkC_in hv2 (by rw [List.length_append]; omega), Int.toNat_natCast, depS_app hv hi]
end Go.Proofs.Ytdpdpjimmfajgaa
