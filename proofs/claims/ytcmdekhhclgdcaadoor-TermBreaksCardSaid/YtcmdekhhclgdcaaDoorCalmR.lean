/- A region that draws its order, within a round of a range over a function: as wp_region_I. -/
import Derived.OrdersIn
import Derived.TacticsIn
import Derived.RangeFuncCalls
import Derived.Test.YtcmdekhhclgdcaaDoorCalmI
namespace Go.Proofs.YtcmdekhhclgdcaaDoor
open Go.RowKit
set_option linter.unusedSimpArgs false
set_option linter.unusedVariables false
/-- only the normal end -/
def OnlyN (Q : Exit → Act → World → Prop) : Exit → Act → World → Prop
  | .normal, a, w => Q .normal a w
  | _, _, _ => False
theorem onlyN_out {Q : Exit → Act → World → Prop} : ¬ LetsOut (OnlyN Q) := fun ⟨_, _, h⟩ => h
theorem rowsIn_round {n l : Nat} {P : Program} {row : String} {args : Array Value} {w : World} {R : Value → World → Prop} (h : Rows P row args w R) : RowsIn (Fence.wide.inRound l) n P row args w R :=
  fun c cs _ => let ⟨v, w', r, s⟩ := h c cs; ⟨v, w', r, stepsIn_wide.2 s⟩
theorem oper_wp_in {n l : Nat} {P : Program} {o : Oper} (hd : ∀ c, o.op ≠ .defer c) {Q : Exit → Act → World → Prop} {K K' : Act → World → Prop} (hK : ∀ a w, K a w → K' a w) {a : Act} {w : World}
    (h : o.wp P a w K (OnlyN Q)) : o.wpIn (Fence.wide.inRound l) n P a w K' Q := by
  refine ⟨fun _ _ => trivial, ?_⟩
  rw [Oper.semAt_eq _ _ _ hd]
  unfold Oper.wp at h
  generalize (execOp a.eval o).run P w = r at *
  cases r with
  | ok x w' =>
    cases x <;> simp only [Oper.upon, Oper.uponIn] at h ⊢ <;>
      first
        | exact hK _ _ h
        | exact ⟨(by intro h; cases h), CallsIn.inRound l (callsIn_wide.2 (Calls.mono h (fun e w'' he => by cases e <;> first | exact hK _ _ he | exact he.elim | exact absurd he onlyN_out)))⟩
        | exact ⟨(by intro h; cases h), rowsIn_round (Rows.mono h (fun _ _ he => hK _ _ he))⟩
        | exact h.elim
  | halt x w' => cases x <;> simp only [Oper.upon, Oper.uponIn] at h ⊢ <;> exact h.elim
theorem wpAny_in {n l : Nat} {P : Program} {ops : Array Oper} (hd : ∀ (i : Nat) (o : Oper) c, ops[i]? = some o → o.op ≠ .defer c) {md : Region.Mode} {Q : Exit → Act → World → Prop} : ∀ (fuel : Nat) (listed : Array Bool) (a : Act) (w : World),
    wpAny P md ops (OnlyN Q) fuel listed a w → wpAnyIn (Fence.wide.inRound l) n P md ops Q fuel listed a w
  | 0, _, _, _, h => h
  | fuel + 1, listed, a, w, h => by
    refine ⟨h.1, fun i hi => ?_⟩
    have h2 := h.2 i hi
    unfold wpOp at h2
    unfold wpOpIn
    cases ho : ops[i]? with
    | none => rw [ho] at h2; exact wpAny_in hd fuel _ _ _ h2
    | some o =>
      simp only [ho] at h2 ⊢
      split at h2
      · rename_i hw
        rw [if_pos hw]
        rcases h2 with h2 | ⟨-, h2⟩
        · exact oper_wp_in (fun c => hd i o c ho) (fun a w h => wpAny_in hd fuel _ a w h) h2
        · exact absurd h2 onlyN_out
      · rename_i hw
        rw [if_neg hw]
        exact ⟨fun _ _ => trivial, wpAny_in hd fuel _ _ _ h2⟩
def noDefer (ops : Array Oper) : Bool := ops.all fun o => match o.op with | .defer _ => false | _ => true
theorem noDefer_of {ops : Array Oper} (h : noDefer ops = true) (i : Nat) (o : Oper) (c : Call) (hi : ops[i]? = some o) : o.op ≠ .defer c := by
  intro hc
  obtain ⟨hlt, he⟩ := Array.getElem?_eq_some_iff.1 hi
  have := (Array.all_eq_true.1 h) i hlt
  rw [he, hc] at this
  cases this
theorem wpIn_region_I (m : Nat) {P : Program} {ops : Array Oper} {n l : Nat} {Q : Exit → Act → World → Prop} {id : Nat} {a : Act} {W : World} (hm : P.follows .mixedOrders = true) (hc : okI ops m = true) (hn : noDefer ops = true)
    (h : walkI P ops [] W a (fun A w => wpList P ops (OnlyN Q) (ops.toList.drop m) A w) (ops.toList.take m) []) : (Code.region id ops true).wpIn (Fence.wide.inRound l) n P Q a W := by
  refine wpIn_region_any hm (wpAny_in (noDefer_of hn) _ _ _ _ (wpAny_region_D m [] hc rfl ?_))
  have : (fun A w => Dist [] A → wpList P ops (OnlyN Q) (ops.toList.drop m) A w) = fun A w => wpList P ops (OnlyN Q) (ops.toList.drop m) A w := by
    funext A w
    exact propext ⟨fun h => h (fun _ h => by cases h), fun h _ => h⟩
  rw [this]; exact h
end Go.Proofs.YtcmdekhhclgdcaaDoor
