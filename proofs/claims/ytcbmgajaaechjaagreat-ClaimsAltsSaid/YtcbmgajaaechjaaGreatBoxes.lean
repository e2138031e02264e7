/- new boxes in a drawn region; a block as a slice. -/
import Derived.Test.YtcbmgajaaechjaaGreatCalmA
import Derived.Test.YtcbmgajaaechjaaGreatOwnS
namespace Go.Proofs.YtcbmgajaaechjaaGreat
open Go.RowKit
set_option linter.unusedVariables false
def NewBox (W : World) (c : Array Value) (T : TypeId) : Prop1 := fun v w => ∃ g, v = .pointer (some ⟨g, 0, none⟩) ∧ Own w g c T ∧ W.heap.size ≤ g
theorem stab_NewBox {W : World} (W0 : World) (c : Array Value) (T : TypeId) : Stable W (NewBox W0 c T) := fun v w w' _ ⟨g, h1, h2, h3⟩ e => ⟨g, h1, h2.keep e, h3⟩
theorem sliceArr {α : Type} {E : PH → List Value → α → Prop} {sz : Nat} {w : World} {b n : Nat} {cur : Array Value} {T : TypeId} {xs : List α} (hO : Own w b cur T) (hc : Cells (ph w) E sz cur.toList xs) (hn : n = xs.length) (hm : n ≤ maxLen) :
    SliceRep E sz (ph w) (.slice (some ⟨b, 0, none⟩) n n) xs := by
  subst hn
  refine ⟨_, _, rfl, Nat.le_refl _, hm, .inr ⟨b, 0, rfl, hc.row (fun _ _ h => h) fun j u hu => ?_⟩⟩
  rw [← cell_ph, Nat.zero_add, hO.facts.1]
  simpa using hu
end Go.Proofs.YtcbmgajaaechjaaGreat
