/- ratios as plain data. -/
import Derived.Test.YtcbmgajaaechjaaGreatBase
namespace Go.Proofs.YtcbmgajaaechjaaGreat
structure Rat2 where
  num : Int
  den : Int
  deriving DecidableEq
def RatR (_ : PH) (cs : List Value) (r : Rat2) : Prop := cs = [.int .i64 r.num, .int .i64 r.den] ∧ I64 r.num ∧ I64 r.den
theorem mono_RatR : Mono RatR := fun _ _ _ _ _ h => h
end Go.Proofs.YtcbmgajaaechjaaGreat
