/- both limits of a good interval are small. -/
import Derived.Test.YtcbmgajaaechjaaGreatSpF
namespace Go.Proofs.YtcbmgajaaechjaaGreat
set_option linter.unusedSimpArgs false
set_option linter.unusedVariables false
theorem goodB.smlo {x : Itv} (h : goodB x = true) (hi : x.loI = false) : smallB x.lo = true := by
  have := (goodB_iff.1 h).1
  unfold limB at this
  rwa [if_neg (by rw [hi]; simp)] at this
theorem goodB.smhi {x : Itv} (h : goodB x = true) (hi : x.hiI = false) : smallB x.hi = true := by
  have := (goodB_iff.1 h).2.1
  unfold limB at this
  rwa [if_neg (by rw [hi]; simp)] at this
end Go.Proofs.YtcbmgajaaechjaaGreat
