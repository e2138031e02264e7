/- calls that return one value: for seats that have no Civil. -/
import Derived.LoopIn
import Derived.LoopNIn
import Derived.OwnWalkIn
import Derived.RangeFuncBound
import Derived.RangeFuncCalls
import Derived.RangeFuncFrom
import Derived.RangeFuncLeaves
import Derived.RangeFuncNested
import Derived.Shelf.Abstract
import Derived.Shelf.RegionOpen
import Derived.Test.YtcbmgajaaechjaaGreatBase
namespace Go.Proofs.YtcbmgajaaechjaaGreat
open Go.RowKit
theorem RetV_at {P : Program} {f : FuncId} {args : Array Value} {w : World} {v : Value} {K : Ending → World → Prop} (h : Calls P f args w (RetV w v)) (hK : ∀ w', Ext w w' → K (.returned v) w') : Calls P f args w K :=
  h.mono fun e w' ⟨h1, h2⟩ => by subst h1; exact hK w' h2
/-- a call that returns one value and leaves the world alone -/
def RetP (w : World) (v : Value) (e : Ending) (w' : World) : Prop := e = .returned v ∧ w = w'
theorem RetP_at {P : Program} {f : FuncId} {args : Array Value} {w : World} {v : Value} {K : Ending → World → Prop} (h : Calls P f args w (RetP w v)) (hK : K (.returned v) w) : Calls P f args w K :=
  h.mono fun e w' ⟨h1, h2⟩ => by subst h1 h2; exact hK
theorem RetP.v {P : Program} {f : FuncId} {args : Array Value} {w : World} {v : Value} (h : Calls P f args w (RetP w v)) : Calls P f args w (RetV w v) :=
  h.mono fun e w' ⟨h1, h2⟩ => by subst h2; exact ⟨h1, Ext.rfl' _⟩
end Go.Proofs.YtcbmgajaaechjaaGreat
