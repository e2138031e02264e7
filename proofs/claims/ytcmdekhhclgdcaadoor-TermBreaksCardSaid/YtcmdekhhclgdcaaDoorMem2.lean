/- More on the memory of a call: a slice that a call has made. -/
import Derived.Test.YtcmdekhhclgdcaaDoorMem
namespace Go.Proofs.YtcmdekhhclgdcaaDoor
open Go.RowKit
set_option linter.unusedSimpArgs false
set_option linter.unusedVariables false
section
variable {w0 w w' : World} {H0 H : PH} {L : List Chunk}
variable {α : Type} {E : PH → List Value → α → Prop} {hm : Mono E} {sz : Nat} {T : TypeId} {v : Value} {xs ys : List α}
/-- a slice that a call has made joins one's own -/
theorem Mem.take (h : Mem w0 H0 L H w) (e : Ext w w') {H' : PH} (ho : OwnS w.heap.size H' w' E sz T v xs) (hm : Mono E) (hl : PLe H' (Proofs.YtcmdekhhclgdcaaDoor.up noH w w')) : ∃ H2, PLe H H2 ∧ PLe H' H2 ∧ Mem w0 H0 (L ++ [own hm sz T v xs]) H2 w' := by
  have hge : ∀ k o, H' k = some o → w.heap.size ≤ k := by
    intro k o hk
    have := hl k o hk
    unfold Proofs.YtcmdekhhclgdcaaDoor.up at this
    split at this
    · cases this
    · omega
  have h1 : PLe H fun k => if k < w.heap.size then H k else H' k := by
    intro k o hk
    show (if k < w.heap.size then H k else H' k) = some o
    rw [if_pos (ph_lt (h.ple k o hk))]; exact hk
  have h2 : PLe H' fun k => if k < w.heap.size then H k else H' k := by
    intro k o hk
    show (if k < w.heap.size then H k else H' k) = some o
    rw [if_neg (by have := hge k o hk; omega)]; exact hk
  refine ⟨_, h1, h2, ?_⟩
  have hM : Mem w0 H0 L (fun k => if k < w.heap.size then H k else H' k) w' := by
    refine ⟨h.l0, h.le.trans h1, fun k o hk => ?_, h.ex.then e, fun i c hi => c.mono (c.loc (h.ok i c hi) fun k hk => e.block k (h.lt hi hk)) h1, fun i c hi k hk => ⟨(h.fr i c hi k hk).1, ?_⟩, h.ap⟩
    · split at hk
      · exact up_then h.ex e k o (h.ub k o hk)
      · have h3 := hl k o hk
        have := h.ex.size
        unfold Proofs.YtcmdekhhclgdcaaDoor.up at h3 ⊢
        rw [if_neg (by omega)] at h3 ⊢
        exact h3
    · show (if k < w.heap.size then H k else H' k) = none
      rw [if_pos (h.lt hi hk)]; exact (h.fr i c hi k hk).2
  refine hM.add _ ?_ fun k hk => ?_
  · have h3 := ho.c
    exact (own hm sz T v xs).mono h3 h2
  · have h3 := ho.lt k hk
    refine ⟨Nat.le_trans h.ex.size h3.1, ?_, fun i d hi he => by have := h.lt hi he; omega⟩
    show (if k < w.heap.size then H k else H' k) = none
    rw [if_neg (by omega)]; exact h3.2.2
end
end Go.Proofs.YtcmdekhhclgdcaaDoor
