/- a function value is stored. -/
import Derived.WideLaws
import Derived.Test.YtcbmgajaaechjaaGreatBase
namespace Go.Proofs.YtcbmgajaaechjaaGreat
open Go.RowKit
theorem run_store_fn {P : Program} {w : World} {a : Addr} {m : Mode} (f : Fn) (x y : Array Value) : (store a (.func f x y) m).run P w = stored P w a (.func f x y) m := run_store P w a _ m rfl
end Go.Proofs.YtcbmgajaaechjaaGreat
