/- references, Valid and check of the reference of package claims. -/
import Derived.Test.YtcbmgajaaechjaaGreatClR
import Derived.Test.YtcbmgajaaechjaaGreatCalmA
namespace Go.Proofs.YtcbmgajaaechjaaGreat
open Go.RowKit
set_option linter.unusedSimpArgs false
set_option linter.unusedVariables false
end Go.Proofs.YtcbmgajaaechjaaGreat
