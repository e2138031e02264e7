/- A law for one operation of a plain list serves behind a fence, too. -/
import Derived.Test.YtcmdekhhclgdcaaDoorMonths
import Derived.Test.YtcmdekhhclgdcaaDoorCalmR
namespace Go.Proofs.YtcmdekhhclgdcaaDoor
open Go.RowKit
set_option linter.unusedSimpArgs false
set_option linter.unusedVariables false
theorem oper_wp_wide {n : Nat} {P : Program} {o : Oper} (hd : ∀ c, o.op ≠ .defer c) {Q : Exit → Act → World → Prop} {K K' : Act → World → Prop} (hK : ∀ a w, K a w → K' a w) {a : Act} {w : World}
    (h : o.wp P a w K fun _ _ _ => False) : o.wpIn Fence.wide n P a w K' Q := by
  refine ⟨fun _ _ => trivial, ?_⟩
  rw [Oper.semAt_eq _ _ _ hd]
  unfold Oper.wp at h
  generalize (execOp a.eval o).run P w = r at *
  cases r with
  | ok x w' =>
    cases x <;> simp only [Oper.upon, Oper.uponIn] at h ⊢ <;>
      first
        | exact hK _ _ h
        | exact ⟨(by intro h; cases h), (callsIn_wide.2 (Calls.mono h (fun e w'' he => by cases e <;> first | exact hK _ _ he | exact he.elim | exact absurd he (fun ⟨_, _, h⟩ => h))))⟩
        | exact ⟨(by intro h; cases h), fun c cs _ => let ⟨v, w', r, s⟩ := Rows.mono h (fun _ _ he => hK _ _ he) c cs; ⟨v, w', r, stepsIn_wide.2 s⟩⟩
        | exact h.elim
  | halt x w' => cases x <;> simp only [Oper.upon, Oper.uponIn] at h ⊢ <;> exact h.elim
def JustN (K : Act → World → Prop) : Exit → Act → World → Prop
  | .normal, a, w => K a w
  | _, _, _ => False
theorem wp_of_list {P : Program} {ops : Array Oper} {o : Oper} (hg : o.guard = none) {K : Act → World → Prop} {a : Act} {w : World} (h : wpList P ops (JustN K) [o] a w) : o.wp P a w K (JustN K) := by
  simp only [wpList, Region.wanted, hg, if_true] at h
  rcases h with h | ⟨-, _, _, h⟩
  · exact h
  · exact h.elim
theorem wp_weak {P : Program} {o : Oper} {K : Act → World → Prop} {Q Q' : Exit → Act → World → Prop} {a : Act} {w : World} (hq : ∀ e a w, Q e a w → e = .normal) (h : o.wp P a w K Q) : o.wp P a w K Q' := by
  unfold Oper.wp at *
  generalize (execOp a.eval o).run P w = r at *
  cases r with
  | ok x w' =>
    cases x <;> simp only [Oper.upon] at h ⊢ <;>
      first
        | exact h
        | exact Calls.mono h (fun e w'' he => by cases e <;> first | exact he | exact absurd (hq _ _ _ he) (by simp) | exact absurd he (fun ⟨_, _, h⟩ => absurd (hq _ _ _ h) (by simp)))
  | halt x w' => cases x <;> simp only [Oper.upon] at h ⊢ <;> first | exact h | exact absurd (hq _ _ _ h) (by simp)
theorem justN_normal {K : Act → World → Prop} : ∀ e a w, JustN K e a w → e = .normal := by
  intro e a w h
  cases e <;> first | rfl | exact h.elim
theorem wpListIn_ofW {n : Nat} {P : Program} {ops : Array Oper} {rest : List Oper} {o : Oper} {Q : Exit → Act → World → Prop} {a : Act} {w : World} (hg : o.guard = none) (hd : ∀ c, o.op ≠ .defer c)
    (h : ∀ K : Act → World → Prop, (∀ a w, wpListIn Fence.wide n P ops Q rest a w → JustN K .normal a w) → wpList P ops (JustN K) [o] a w) : wpListIn Fence.wide n P ops Q (o :: rest) a w :=
  wpListIn_plain hg fun K hK => oper_wp_wide hd (fun _ _ h => h) (wp_weak justN_normal (wp_of_list hg (h K hK)))
theorem wpListIn_ofR {n l : Nat} {P : Program} {ops : Array Oper} {rest : List Oper} {o : Oper} {Q : Exit → Act → World → Prop} {a : Act} {w : World} (hg : o.guard = none) (hd : ∀ c, o.op ≠ .defer c)
    (h : ∀ K : Act → World → Prop, (∀ a w, wpListIn (Fence.wide.inRound l) n P ops Q rest a w → JustN K .normal a w) → wpList P ops (JustN K) [o] a w) : wpListIn (Fence.wide.inRound l) n P ops Q (o :: rest) a w :=
  wpListIn_plain hg fun K hK => oper_wp_in hd (fun _ _ h => h) (wp_weak justN_normal (wp_of_list hg (h K hK)))
end Go.Proofs.YtcmdekhhclgdcaaDoor
