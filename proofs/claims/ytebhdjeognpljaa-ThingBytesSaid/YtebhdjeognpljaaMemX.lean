/- The memory of a call under way, where a reader (block g) changes. -/
import Derived.Test.YtebhdjeognpljaaMem2
import Derived.Test.YtebhdjeognpljaaReadS
namespace Go.Proofs.Ytebhdjeognpljaa
open Go.RowKit
set_option linter.unusedSimpArgs false
set_option linter.unusedVariables false
/-- memory made since there were n blocks -/
def MemX (n : Nat) (L : List Chunk) (H : PH) (w : World) : Prop := ∃ w0, w0.heap.size = n ∧ Mem w0 noH L H w
theorem MemX.start (w : World) : MemX w.heap.size [] noH w := ⟨w, rfl, Mem.start w noH (noH_le _)⟩
/-- a call that changes block g alone -/
theorem MemX.reader {n : Nat} {L : List Chunk} {H : PH} {w w' : World} {g : Nat} (h : MemX n L H w) (e : ExtW w w' g none) (hg : g < n) : MemX n L H w' := by
  obtain ⟨w0, rfl, hM⟩ := h
  have hgl : g < w.heap.size := Nat.lt_of_lt_of_le hg hM.ex.size
  have hgl' : g < w'.heap.size := Nat.lt_of_lt_of_le hgl e.size
  refine ⟨{ w0 with heap := w0.heap.setIfInBounds g w'.heap[g] }, by simp, ?_⟩
  have hne : ∀ {i : Nat} {c : Chunk}, L[i]? = some c → ∀ k, c.foot = some k → k ≠ g := fun hi k hk => by have := (hM.fr _ _ hi k hk).1; omega
  have hHg : ∀ k o, H k = some o → w0.heap.size ≤ k := by
    intro k o hk
    have := hM.ub k o hk
    unfold up at this
    split at this
    · cases this
    · omega
  have hex : Ext { w0 with heap := w0.heap.setIfInBounds g w'.heap[g] } w' := by
    refine ⟨e.os.trans hM.ex.os, e.tape.trans hM.ex.tape, e.output.trans hM.ex.output, by simpa using Nat.le_trans hM.ex.size e.size, fun k hk => ?_⟩
    have hk' : k < w0.heap.size := by simpa using hk
    show w'.heap[k]? = (w0.heap.setIfInBounds g w'.heap[g])[k]?
    by_cases hkg : g = k
    · subst hkg
      rw [Array.getElem?_setIfInBounds_self_of_lt hk']; simp [hgl']
    · rw [Array.getElem?_setIfInBounds_ne hkg, e.block k (Nat.lt_of_lt_of_le hk' hM.ex.size) (fun h => hkg h.symm) (by simp)]
      exact hM.ex.block k hk'
  refine ⟨noH_le _, hM.le, fun k o hk => ?_, hex, fun i c hi => c.loc (hM.ok i c hi) fun k hk => e.block k (hM.lt hi hk) (hne hi k hk) (by simp), fun i c hi k hk => ⟨by simpa using (hM.fr i c hi k hk).1, (hM.fr i c hi k hk).2⟩, hM.ap⟩
  have h1 := hM.ub k o hk
  have h2 := hHg k o hk
  unfold up at h1 ⊢
  rw [if_neg (by omega)] at h1
  rw [if_neg (by simp; omega)]
  show w'.heap[k]? = some o
  rw [e.block k (ph_lt h1) (by omega) (by simp)]; exact h1
/-- a step of the memory's own -/
theorem MemX.step {n : Nat} {L L' : List Chunk} {H H' : PH} {w w' : World} (h : MemX n L H w) (f : ∀ w0, Mem w0 noH L H w → Mem w0 noH L' H' w') : MemX n L' H' w' := by
  obtain ⟨w0, h1, h2⟩ := h
  exact ⟨w0, h1, f w0 h2⟩
/-- a slice that such a call has made -/
theorem MemX.take {α : Type} {E : PH → List Value → α → Prop} {sz : Nat} {T : TypeId} {v : Value} {xs : List α} {n : Nat} {L : List Chunk} {H : PH} {w w' : World} {g : Nat} (h : MemX n L H w) (e : ExtW w w' g none) (hg : g < n) (ho : OwnS w.heap.size noH w' E sz T v xs) (hm : Mono E) :
    MemX n (L ++ [own hm sz T v xs]) H w' := by
  have h1 := h.reader e hg
  obtain ⟨w0, hn, hM⟩ := h
  obtain ⟨w1, hn1, hM1⟩ := h1
  refine ⟨w1, hn1, hM1.add _ ((own hm sz T v xs).mono ho.c (noH_le H)) fun k hk => ?_⟩
  have h3 := ho.lt k hk
  refine ⟨by have := hM.ex.size; omega, fresh_none hM.ple h3.1, fun i d hi he => ?_⟩
  have := hM.lt hi he
  omega
/-- what such a call has made joins what is read -/
theorem MemX.join {n : Nat} {L : List Chunk} {H H' : PH} {w w' : World} {g : Nat} (h : MemX n L H w) (e : ExtW w w' g none) (hg : g < n) (hl : PLe H' (up noH w w')) : ∃ H2, PLe H H2 ∧ PLe H' H2 ∧ MemX n L H2 w' := by
  have h1 := h.reader e hg
  obtain ⟨w0, hn, hM⟩ := h
  obtain ⟨w1, hn1, hM1⟩ := h1
  have hge : ∀ k o, H' k = some o → w.heap.size ≤ k := by
    intro k o hk
    have := hl k o hk
    unfold up at this
    split at this
    · cases this
    · omega
  have g1 : PLe H fun k => if k < w.heap.size then H k else H' k := by
    intro k o hk
    show (if k < w.heap.size then H k else H' k) = some o
    rw [if_pos (ph_lt (hM.ple k o hk))]; exact hk
  have g2 : PLe H' fun k => if k < w.heap.size then H k else H' k := by
    intro k o hk
    show (if k < w.heap.size then H k else H' k) = some o
    rw [if_neg (by have := hge k o hk; omega)]; exact hk
  refine ⟨_, g1, g2, w1, hn1, noH_le _, noH_le _, fun k o hk => ?_, hM1.ex, fun i c hi => c.mono (hM1.ok i c hi) g1, fun i c hi k hk => ⟨(hM1.fr i c hi k hk).1, ?_⟩, hM1.ap⟩
  · split at hk
    · exact hM1.ub k o hk
    · have h3 := hl k o hk
      have := hM.ex.size
      unfold up at h3 ⊢
      rw [if_neg (by omega)] at h3 ⊢
      exact h3
  · show (if k < w.heap.size then H k else H' k) = none
    rw [if_pos (hM.lt hi hk)]; exact (hM.fr i c hi k hk).2
end Go.Proofs.Ytebhdjeognpljaa
