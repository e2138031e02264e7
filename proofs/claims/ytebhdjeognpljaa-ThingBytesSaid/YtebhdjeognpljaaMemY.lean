/- The memory of a call under way, and a reader: an append of one's own; the chain of three reads of a value. -/
import Derived.Test.YtebhdjeognpljaaMemX
import Derived.Test.YtebhdjeognpljaaCalmP
import Derived.Test.YtebhdjeognpljaaSome
namespace Go.Proofs.Ytebhdjeognpljaa
open Go.RowKit
set_option linter.unusedSimpArgs false
set_option linter.unusedVariables false
theorem Mem.same {w0 w3 w5 : World} {L L' : List Chunk} {H H' : PH} (h3 : Mem w0 noH L H w3) (h5 : Mem w0 noH L' H' w5) : ∀ k, k < w0.heap.size → w5.heap[k]? = w3.heap[k]? := by
  intro k hk
  rw [h5.ex.block k hk, h3.ex.block k hk]
theorem Mem.rd {w0 w3 w5 : World} {L L' : List Chunk} {H H' HR : PH} {g : Nat} {s : RS} (h3 : Mem w0 noH L H w3) (h5 : Mem w0 noH L' H' w5) (hR : Rd HR w3 g s) (hb : ∀ k o, HR k = some o → k < w0.heap.size) (hg : g < w0.heap.size) : Rd HR w5 g s := by
  have hs := h3.same h5
  obtain ⟨a, n, c, er, l, q1, q2, q3, q4⟩ := hR
  refine ⟨a, n, c, er, l, ?_, q2, fun k o hk => ?_, q4⟩
  · unfold Own at *; rw [hs g hg]; exact q1
  · have h := q3 k o hk
    unfold phX at *
    split at h
    · cases h
    · rename_i hk'
      rw [if_neg hk', hs k (hb k o hk)]; exact h
theorem Mem.xw {w w0 w3 w5 : World} {L L' : List Chunk} {H H' : PH} {g : Nat} (h3 : Mem w0 noH L H w3) (h5 : Mem w0 noH L' H' w5) (hX : ExtW w w3 g none) (hn : w0.heap.size = w.heap.size) : ExtW w w5 g none := by
  refine ⟨?_, ?_, ?_, ?_, fun k hk hg hr => ?_⟩
  · rw [h5.ex.os, ← h3.ex.os]; exact hX.os
  · rw [h5.ex.tape, ← h3.ex.tape]; exact hX.tape
  · rw [h5.ex.output, ← h3.ex.output]; exact hX.output
  · have := h5.ex.size; omega
  · rw [h3.same h5 k (by omega)]; exact hX.block k hk hg hr
theorem ExtW.cells {w w1 : World} {g : Nat} (h : ExtW w w1 g none) : (∀ b o, b < w.heap.size → b ≠ g → w1.cell? ⟨b, o, none⟩ = w.cell? ⟨b, o, none⟩) ∧ (∀ b o, b < w.heap.size → b ≠ g → w1.frozen? ⟨b, o, none⟩ = w.frozen? ⟨b, o, none⟩) ∧ w.heap.size ≤ w1.heap.size := by
  refine ⟨fun b o hb hg => ?_, fun b o hb hg => ?_, h.size⟩
  · unfold World.cell?; rw [h.block b hb hg (by simp)]
  · unfold World.frozen?; rw [h.block b hb hg (by simp)]
/-- reads in a drawn region: c reads of the chain are done -/
def rdSys (HR : PH) (L : List Chunk) (n g : Nat) (W : World) (ch : List Nat) (st : Nat → RS) : Ph.Sys where
  G := fun c w' => MemX n L noH w' ∧ Rd HR w' g (st c) ∧ ExtW W w' g none
  L := fun w w' => ExtW w w' g none
  ch := ch
  ext := fun h => h.toW g none
  gext := fun h e => ⟨h.1.step (fun w0 m => m.ext e), h.2.1.keep e, h.2.2.then (e.toW g none) (fun i hi => by cases hi)⟩
  size := fun h => h.size
end Go.Proofs.Ytebhdjeognpljaa
