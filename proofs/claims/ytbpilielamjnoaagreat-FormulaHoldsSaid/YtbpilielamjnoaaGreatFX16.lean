/- Lemmas for FX, part 17: wire.Writer: its methods add bytes to the writer's own buffer, and more. -/
import Derived.Lib.Zigzag
import Derived.Lib.SliceRun
import Derived.Lib.VarintDec
import Derived.Laws.Bits64
import Derived.Laws.Bits64b
import Derived.Lib.SlBytesRow
import Derived.Lib.BufferRead
import Derived.Deep.CutBlock
import Derived.Test.YtbpilielamjnoaaGreatFX00
import Derived.Test.YtbpilielamjnoaaGreatFX01
import Derived.Test.YtbpilielamjnoaaGreatFX02
import Derived.Test.YtbpilielamjnoaaGreatFX04
import Derived.Test.YtbpilielamjnoaaGreatFX05
import Derived.Test.YtbpilielamjnoaaGreatFX08
import Derived.Test.YtbpilielamjnoaaGreatFX13
import Derived.Test.YtbpilielamjnoaaGreatFX15
set_option linter.unusedSimpArgs false
set_option linter.unusedVariables false
namespace Go.Proofs.YtbpilielamjnoaaGreat
open Go.RowKit
structure ExtW (w w' : World) (g : Nat) (row : Option Nat) : Prop where
  os : w'.os = w.os
  tape : w'.tape = w.tape
  output : w'.output = w.output
  size : w.heap.size ≤ w'.heap.size
  block : ∀ k, k < w.heap.size → k ≠ g → row ≠ some k → w'.heap[k]? = w.heap[k]?
theorem ExtW.rfl' (w : World) (g : Nat) (row : Option Nat) : ExtW w w g row := ⟨rfl, rfl, rfl, Nat.le_refl _, fun _ _ _ _ => rfl⟩
theorem ExtW.then {a b c : World} {g : Nat} {row row' : Option Nat} (h : ExtW a b g row) (k : ExtW b c g row') (hr : ∀ i, row' = some i → row = some i ∨ a.heap.size ≤ i) : ExtW a c g row :=
  ⟨k.os.trans h.os, k.tape.trans h.tape, k.output.trans h.output, Nat.le_trans h.size k.size, fun i hi hg hn => by
    rw [k.block i (by have := h.size; omega) hg (fun he => by rcases hr i he with h1 | h1; exact hn h1; omega)]
    exact h.block i hi hg hn⟩
theorem IntsR.all {H : PH} {v : Value} {l : List Int} (h : IntsR H v l) : ∀ x ∈ l, I64 x := by
  obtain ⟨a, c, rfl, h1, h⟩ := h.form
  intro x hx
  obtain ⟨k, hk, rfl⟩ := List.mem_iff_getElem.1 hx
  obtain ⟨b, o, cs, -, -, -, -, h2⟩ := h.get k hk
  exact h2
theorem Src.keep {α : Type} {E : PH → List Value → α → Prop} {sz : Nat} {H : PH} {w w' : World} {v : Value} {xs : List α} (h : Src w H E sz v xs) (e : Ext w w') : Src w' H E sz v xs := by
  obtain ⟨a, cap, rfl, h1, h2⟩ := h
  refine ⟨a, cap, rfl, h1, ?_⟩
  rcases h2 with h2 | ⟨ad, c, rfl, h3, h4⟩
  · exact .inl h2
  · refine .inr ⟨ad, c, rfl, h3, fun j u hu => ?_⟩
    have h5 := h4 j u hu
    rw [← h5]
    exact Below.cell e (World.block_lt_of_cell? w _ h5)
def FreshB (w : World) (xs : List UInt8) (e : Ending) (w' : World) : Prop := ∃ v, e = .returned v ∧ OwnS w.heap.size noH w' ByteR 1 5 v xs ∧ Ext w w'
theorem OwnS.base {α : Type} {b0 base : Nat} {H : PH} {w : World} {E : PH → List Value → α → Prop} {sz : Nat} {T : TypeId} {v : Value} {xs : List α} (h : OwnS base H w E sz T v xs) (hb : b0 ≤ base) : OwnS b0 H w E sz T v xs := by
  rcases h with h | ⟨g, cap, cur, h1, h2, h3⟩
  · exact .inl h
  · exact .inr ⟨g, cap, cur, h1, Nat.le_trans hb h2, h3⟩
end Go.Proofs.YtbpilielamjnoaaGreat
namespace Go.Proofs.YtbpilielamjnoaaGreat
end Go.Proofs.YtbpilielamjnoaaGreat
namespace Go.Proofs.YtbpilielamjnoaaGreat
open Go.RowKit
theorem Mem.init {w0 w : World} {H0 H : PH} {L : List Chunk} {c : Chunk} (h : Mem w0 H0 (L ++ [c]) H w) : Mem w0 H0 L H w := by
  have h1 := h.pick (List.range L.length) List.nodup_range
  have e : (List.range L.length).map (fun i => ((L ++ [c])[i]?).getD nop) = L := by
    refine List.ext_getElem (by simp) fun i hi _ => ?_
    have hi' : i < L.length := by simpa using hi
    simp [List.getElem?_append_left hi', hi']
  rw [e] at h1; exact h1
def MB (w0 : World) (K : List Chunk) (F : PH) (v : Value) (xs : List UInt8) (w : World) : Prop := ∃ H, PLe F H ∧ Mem w0 noH (Proofs.YtbpilielamjnoaaGreat.own mono_ByteR 1 5 v xs :: K) H w
theorem MB.start (w : World) : MB w [] noH (.slice none 0 0) [] w := ⟨noH, PLe.refl _, (Mem.start w noH (noH_le _)).nil mono_ByteR 1 5⟩
theorem MB.box {w0 w : World} {K : List Chunk} {F : PH} {v : Value} {xs : List UInt8} (h : MB w0 K F v xs w) (c : Array Value) (T : TypeId) : MB w0 (K ++ [Proofs.YtbpilielamjnoaaGreat.box w.heap.size c T]) F v xs (w.alloc (.cells c T)) := by
  obtain ⟨H, hF, h⟩ := h
  exact ⟨H, hF, h.new c T⟩
theorem MB.keep {w0 w w' : World} {K : List Chunk} {F : PH} {v : Value} {xs : List UInt8} (h : MB w0 K F v xs w) (e : Ext w w') : MB w0 K F v xs w' := by
  obtain ⟨H, hF, h⟩ := h
  exact ⟨H, hF, h.ext e⟩
theorem MB.ex {w0 w : World} {K : List Chunk} {F : PH} {v : Value} {xs : List UInt8} (h : MB w0 K F v xs w) : Ext w0 w := by
  obtain ⟨H, hF, h⟩ := h
  exact h.ex
theorem MB.form {w0 w : World} {K : List Chunk} {F : PH} {v : Value} {xs : List UInt8} (h : MB w0 K F v xs w) : ∃ a cap, v = .slice a xs.length cap ∧ xs.length ≤ 9223372036854775807 := by
  obtain ⟨H, hF, h⟩ := h
  exact h.form 0 rfl
theorem MB.own {w0 w : World} {K : List Chunk} {F : PH} {v : Value} {xs : List UInt8} (h : MB w0 K F v xs w) : OwnS w0.heap.size noH w ByteR 1 5 v xs := by
  obtain ⟨H, hF, h⟩ := h
  exact (h.ownS 0 rfl).keepB (fun _ _ => rfl) (fun _ _ => rfl) (fun _ _ h => h)
theorem MB.fresh {w0 w : World} {K : List Chunk} {F : PH} {v : Value} {xs : List UInt8} (h : MB w0 K F v xs w) : FreshB w0 xs (.returned v) w := ⟨v, rfl, h.own, h.ex⟩
theorem MB.src {w0 w : World} {K : List Chunk} {F : PH} {v : Value} {xs : List UInt8} (h : MB w0 K F v xs w) : Src w noH ByteR 1 v xs := by
  exact Src.ofOwn h.own
theorem MB.rep {w0 w : World} {K : List Chunk} {F : PH} {v : Value} {xs : List UInt8} (h : MB w0 K F v xs w) : BytesR (ph w) v xs := h.own.rep mono_ByteR (noH_le _)
theorem MB.take {w0 w w' : World} {K : List Chunk} {F : PH} {v vx : Value} {xs ys : List UInt8} (h : MB w0 K F v xs w) (e : Ext w w') (ho : OwnS w.heap.size noH w' ByteR 1 5 vx ys) : MB w0 K F v xs w' ∧ MB w0 [] F vx ys w' := by
  obtain ⟨H, hF, h⟩ := h
  obtain ⟨H2, hl, -, h2⟩ := h.take e ho mono_ByteR (noH_le _)
  refine ⟨⟨H2, hF.trans hl, h2.init⟩, ⟨H2, hF.trans hl, ?_⟩⟩
  have h3 := h2.pick [K.length + 1] (by simp)
  simpa using h3
theorem MB.ple {w0 w : World} {K : List Chunk} {F : PH} {v : Value} {xs : List UInt8} (h : MB w0 K F v xs w) : PLe F (ph w) := by
  obtain ⟨H, hF, h⟩ := h
  exact hF.trans h.ple
theorem MB.up {w0 w w' : World} {K : List Chunk} {F : PH} {v : Value} {xs : List UInt8} (h : MB w0 K F v xs w) (e : Ext w w') : MB w0 K (Proofs.YtbpilielamjnoaaGreat.up F w w') v xs w' := by
  obtain ⟨H, hF, h⟩ := h
  exact ⟨_, up_mono hF, h.up e⟩
end Go.Proofs.YtbpilielamjnoaaGreat
namespace Go.Proofs.YtbpilielamjnoaaGreat
open Go.RowKit
theorem ExtW.set {w w' : World} {g : Nat} (h : ExtW w w' g none) (j : Nat) (v : Value) : ExtW w (w'.setCell ⟨g, j, none⟩ v) g none :=
  ⟨h.os, h.tape, h.output, by simpa using h.size, fun k hk hg hr => by
    rw [Below.heap_setCell _ _ _ _ hg]; exact h.block k hk hg hr⟩
end Go.Proofs.YtbpilielamjnoaaGreat
namespace Go.Proofs.YtbpilielamjnoaaGreat
open Go.RowKit
end Go.Proofs.YtbpilielamjnoaaGreat
namespace Go.Proofs.YtbpilielamjnoaaGreat
open Go.RowKit
end Go.Proofs.YtbpilielamjnoaaGreat
namespace Go.Proofs.YtbpilielamjnoaaGreat
open Go.RowKit
theorem ExtW.grown {w0 w w' : World} {g : Nat} {row : Option Nat} (h : ExtW w0 w g none) (gr : w.grownBy w' row) (hr : ∀ k, row = some k → w0.heap.size ≤ k) : ExtW w0 w' g none :=
  ⟨gr.os.trans h.os, gr.tape.trans h.tape, gr.output.trans h.output, Nat.le_trans h.size gr.size, fun k hk hg hn => by
    rw [gr.block k (by have := h.size; omega) (fun e => by have := hr k e.symm; omega)]
    exact h.block k hk hg hn⟩
end Go.Proofs.YtbpilielamjnoaaGreat
namespace Go.Proofs.YtbpilielamjnoaaGreat
open Go.RowKit
end Go.Proofs.YtbpilielamjnoaaGreat
namespace Go.Proofs.YtbpilielamjnoaaGreat
open Go.RowKit
end Go.Proofs.YtbpilielamjnoaaGreat
namespace Go.Proofs.YtbpilielamjnoaaGreat
open Go.RowKit
def MemX (n : Nat) (L : List Chunk) (H : PH) (w : World) : Prop := ∃ w0, w0.heap.size = n ∧ Mem w0 noH L H w
theorem MemX.start (w : World) : MemX w.heap.size [] noH w := ⟨w, rfl, Mem.start w noH (noH_le _)⟩
theorem MemX.reader {n : Nat} {L : List Chunk} {H : PH} {w w' : World} {g : Nat} (h : MemX n L H w) (e : ExtW w w' g none) (hg : g < n) : MemX n L H w' := by
  obtain ⟨w0, rfl, hM⟩ := h
  have hgl : g < w.heap.size := Nat.lt_of_lt_of_le hg hM.ex.size
  have hgl' : g < w'.heap.size := Nat.lt_of_lt_of_le hgl e.size
  refine ⟨{ w0 with heap := w0.heap.setIfInBounds g w'.heap[g] }, by simp, ?_⟩
  have hne : ∀ {i : Nat} {c : Chunk}, L[i]? = some c → ∀ k, c.foot = some k → k ≠ g := fun hi k hk => by have := (hM.fr _ _ hi k hk).1; omega
  have hHg : ∀ k o, H k = some o → w0.heap.size ≤ k := by
    intro k o hk
    have := hM.ub k o hk
    unfold up at this
    split at this
    · cases this
    · omega
  have hex : Ext { w0 with heap := w0.heap.setIfInBounds g w'.heap[g] } w' := by
    refine ⟨e.os.trans hM.ex.os, e.tape.trans hM.ex.tape, e.output.trans hM.ex.output, by simpa using Nat.le_trans hM.ex.size e.size, fun k hk => ?_⟩
    have hk' : k < w0.heap.size := by simpa using hk
    show w'.heap[k]? = (w0.heap.setIfInBounds g w'.heap[g])[k]?
    by_cases hkg : g = k
    · subst hkg
      rw [Array.getElem?_setIfInBounds_self_of_lt hk']; simp [hgl']
    · rw [Array.getElem?_setIfInBounds_ne hkg, e.block k (Nat.lt_of_lt_of_le hk' hM.ex.size) (fun h => hkg h.symm) (by simp)]
      exact hM.ex.block k hk'
  refine ⟨noH_le _, hM.le, fun k o hk => ?_, hex, fun i c hi => c.loc (hM.ok i c hi) fun k hk => e.block k (hM.lt hi hk) (hne hi k hk) (by simp), fun i c hi k hk => ⟨by simpa using (hM.fr i c hi k hk).1, (hM.fr i c hi k hk).2⟩, hM.ap⟩
  have h1 := hM.ub k o hk
  have h2 := hHg k o hk
  unfold up at h1 ⊢
  rw [if_neg (by omega)] at h1
  rw [if_neg (by simp; omega)]
  show w'.heap[k]? = some o
  rw [e.block k (ph_lt h1) (by omega) (by simp)]; exact h1
theorem MemX.step {n : Nat} {L L' : List Chunk} {H H' : PH} {w w' : World} (h : MemX n L H w) (f : ∀ w0, Mem w0 noH L H w → Mem w0 noH L' H' w') : MemX n L' H' w' := by
  obtain ⟨w0, h1, h2⟩ := h
  exact ⟨w0, h1, f w0 h2⟩
theorem MemX.take {α : Type} {E : PH → List Value → α → Prop} {sz : Nat} {T : TypeId} {v : Value} {xs : List α} {n : Nat} {L : List Chunk} {H : PH} {w w' : World} {g : Nat} (h : MemX n L H w) (e : ExtW w w' g none) (hg : g < n) (ho : OwnS w.heap.size noH w' E sz T v xs) (hm : Mono E) :
    MemX n (L ++ [own hm sz T v xs]) H w' := by
  have h1 := h.reader e hg
  obtain ⟨w0, hn, hM⟩ := h
  obtain ⟨w1, hn1, hM1⟩ := h1
  refine ⟨w1, hn1, hM1.add _ ((own hm sz T v xs).mono ho.c (noH_le H)) fun k hk => ?_⟩
  have h3 := ho.lt k hk
  refine ⟨by have := hM.ex.size; omega, fresh_none hM.ple h3.1, fun i d hi he => ?_⟩
  have := hM.lt hi he
  omega
theorem MemX.join {n : Nat} {L : List Chunk} {H H' : PH} {w w' : World} {g : Nat} (h : MemX n L H w) (e : ExtW w w' g none) (hg : g < n) (hl : PLe H' (up noH w w')) : ∃ H2, PLe H H2 ∧ PLe H' H2 ∧ MemX n L H2 w' := by
  have h1 := h.reader e hg
  obtain ⟨w0, hn, hM⟩ := h
  obtain ⟨w1, hn1, hM1⟩ := h1
  have hge : ∀ k o, H' k = some o → w.heap.size ≤ k := by
    intro k o hk
    have := hl k o hk
    unfold up at this
    split at this
    · cases this
    · omega
  have g1 : PLe H fun k => if k < w.heap.size then H k else H' k := by
    intro k o hk
    show (if k < w.heap.size then H k else H' k) = some o
    rw [if_pos (ph_lt (hM.ple k o hk))]; exact hk
  have g2 : PLe H' fun k => if k < w.heap.size then H k else H' k := by
    intro k o hk
    show (if k < w.heap.size then H k else H' k) = some o
    rw [if_neg (by have := hge k o hk; omega)]; exact hk
  refine ⟨_, g1, g2, w1, hn1, noH_le _, noH_le _, fun k o hk => ?_, hM1.ex, fun i c hi => c.mono (hM1.ok i c hi) g1, fun i c hi k hk => ⟨(hM1.fr i c hi k hk).1, ?_⟩, hM1.ap⟩
  · split at hk
    · exact hM1.ub k o hk
    · have h3 := hl k o hk
      have := hM.ex.size
      unfold up at h3 ⊢
      rw [if_neg (by omega)] at h3 ⊢
      exact h3
  · show (if k < w.heap.size then H k else H' k) = none
    rw [if_pos (hM.lt hi hk)]; exact (hM.fr i c hi k hk).2
end Go.Proofs.YtbpilielamjnoaaGreat
namespace Go.Proofs.YtbpilielamjnoaaGreat
open Go.RowKit
theorem Mem.same {w0 w3 w5 : World} {L L' : List Chunk} {H H' : PH} (h3 : Mem w0 noH L H w3) (h5 : Mem w0 noH L' H' w5) : ∀ k, k < w0.heap.size → w5.heap[k]? = w3.heap[k]? := by
  intro k hk
  rw [h5.ex.block k hk, h3.ex.block k hk]
theorem ExtW.cells {w w1 : World} {g : Nat} (h : ExtW w w1 g none) : (∀ b o, b < w.heap.size → b ≠ g → w1.cell? ⟨b, o, none⟩ = w.cell? ⟨b, o, none⟩) ∧ (∀ b o, b < w.heap.size → b ≠ g → w1.frozen? ⟨b, o, none⟩ = w.frozen? ⟨b, o, none⟩) ∧ w.heap.size ≤ w1.heap.size := by
  refine ⟨fun b o hb hg => ?_, fun b o hb hg => ?_, h.size⟩
  · unfold World.cell?; rw [h.block b hb hg (by simp)]
  · unfold World.frozen?; rw [h.block b hb hg (by simp)]
end Go.Proofs.YtbpilielamjnoaaGreat
namespace Go.Proofs.YtbpilielamjnoaaGreat
open Go.RowKit
def byteV (b : UInt8) : Value := .int .u8 b.toNat
theorem cells_byteV {h : PH} : ∀ {xs : List UInt8} {c : List Value}, Cells h ByteR 1 c xs ↔ c = xs.map byteV
  | [], c => by simp [Cells]
  | x :: xs, c => by
    constructor
    · rintro ⟨cs, rest, rfl, h1, h2, h3⟩
      cases h2
      rw [cells_byteV.1 h3]; rfl
    · rintro rfl
      exact ⟨[byteV x], xs.map byteV, rfl, rfl, rfl, cells_byteV.2 rfl⟩
def isB (o : Option Value) : Prop := ∃ x : UInt8, o = some (byteV x)
def AnyB (base n : Nat) (v : Value) (w : World) : Prop := (v = .slice none 0 0 ∧ n = 0) ∨
  ∃ g cap cur, v = .slice (some ⟨g, 0, none⟩) n cap ∧ base ≤ g ∧ w.heap[g]? = some (.cells cur 5 (0, 0)) ∧ n ≤ cap ∧ cap ≤ maxLen ∧ cur.size = cap ∧ ∀ j : Nat, j < n → isB cur[j]?
structure Lb (base : Nat) (w w' : World) : Prop where
  os : w'.os = w.os
  tape : w'.tape = w.tape
  output : w'.output = w.output
  size : w.heap.size ≤ w'.heap.size
  block : ∀ k, k < w.heap.size → w'.heap[k]? = w.heap[k]? ∨ (base ≤ k ∧ ∃ (c c' : Array Value), w.heap[k]? = some (.cells c 5 (0, 0)) ∧ w'.heap[k]? = some (.cells c' 5 (0, 0)) ∧ c'.size = c.size ∧ ∀ j : Nat, isB c[j]? → isB c'[j]?)
theorem Lb.ext {W w w' : World} (h : Ext W w) (k : Lb W.heap.size w w') : Ext W w' :=
  ⟨k.os.trans h.os, k.tape.trans h.tape, k.output.trans h.output, Nat.le_trans h.size k.size, fun i hi => by
    rcases k.block i (by have := h.size; omega) with h1 | ⟨h1, -⟩
    · rw [h1]; exact h.block i hi
    · omega⟩
theorem AnyB.keep {base n : Nat} {v : Value} {w w' : World} (h : AnyB base n v w) (k : Lb base w w') : AnyB base n v w' := by
  rcases h with h | ⟨g, cap, cur, h1, h2, h3, h4, h5, h6, h7⟩
  · exact .inl h
  · rcases k.block g (Array.getElem?_eq_some_iff.1 h3).1 with h8 | ⟨-, c, c', q1, q2, q3, q4⟩
    · exact .inr ⟨g, cap, cur, h1, h2, by rw [h8]; exact h3, h4, h5, h6, h7⟩
    · rw [h3] at q1; cases q1
      exact .inr ⟨g, cap, c', h1, h2, q2, h4, h5, by omega, fun j hj => q4 j (h7 j hj)⟩
theorem AnyB.ofOwn {base : Nat} {v : Value} {w : World} {xs : List UInt8} (h : OwnS base noH w ByteR 1 5 v xs) : AnyB base xs.length v w := by
  rcases h with ⟨rfl, rfl⟩ | ⟨g, cap, cur, rfl, h1, h2, h3, h4, h5, h6, h7⟩
  · exact .inl ⟨rfl, rfl⟩
  · refine .inr ⟨g, cap, cur, rfl, h1, h3, h4, h5, by omega, fun j hj => ?_⟩
    rw [cells_byteV] at h7
    have h8 : (cur.toList.take (xs.length * 1))[j]? = some (byteV xs[j]) := by rw [h7]; simp [hj]
    rw [List.getElem?_take, if_pos (by omega)] at h8
    exact ⟨xs[j], by simpa using h8⟩
theorem anyB_list : ∀ (n : Nat) (c : List Value), (∀ j, j < n → isB c[j]?) → ∃ xs : List UInt8, xs.length = n ∧ c.take n = xs.map byteV
  | 0, c, _ => ⟨[], rfl, by simp⟩
  | n + 1, c, h => by
    obtain ⟨x, hx⟩ := h 0 (by omega)
    cases c with
    | nil => simp at hx
    | cons a c =>
      obtain ⟨xs, h1, h2⟩ := anyB_list n c fun j hj => by simpa using h (j + 1) (by omega)
      refine ⟨x :: xs, by simp [h1], ?_⟩
      simp at hx
      rw [List.take_succ_cons, h2, hx]; rfl
theorem AnyB.own {base n : Nat} {v : Value} {w : World} (h : AnyB base n v w) : ∃ xs, xs.length = n ∧ OwnS base noH w ByteR 1 5 v xs := by
  rcases h with ⟨rfl, rfl⟩ | ⟨g, cap, cur, rfl, h1, h3, h4, h5, h6, h7⟩
  · exact ⟨[], rfl, OwnS.nil _ _ _ _ _ _⟩
  · obtain ⟨xs, h8, h9⟩ := anyB_list n cur.toList fun j hj => by simpa using h7 j hj
    subst h8
    exact ⟨xs, rfl, .inr ⟨g, cap, cur, rfl, h1, rfl, h3, h4, h5, by omega, by rw [cells_byteV, Nat.mul_one]; exact h9⟩⟩
theorem AnyB.rep {base n : Nat} {v : Value} {w : World} (h : AnyB base n v w) : ∃ xs, xs.length = n ∧ BytesR (ph w) v xs := by
  obtain ⟨xs, h1, h2⟩ := h.own
  exact ⟨xs, h1, h2.rep mono_ByteR (noH_le _)⟩
theorem AnyB.form {base n : Nat} {v : Value} {w : World} (h : AnyB base n v w) : ∃ a cap, v = .slice a n cap := by
  rcases h with ⟨rfl, rfl⟩ | ⟨g, cap, cur, rfl, -⟩
  · exact ⟨none, 0, rfl⟩
  · exact ⟨_, cap, rfl⟩
section
variable {P : Program}
end
theorem AnyB.set {base n c : Nat} {a : Option Addr} {w : World} (h : AnyB base n (.slice a n c) w) (k : Nat) (hk : k < n) (x : UInt8) : ∃ g, a = some ⟨g, 0, none⟩ ∧ base ≤ g ∧ g < w.heap.size ∧ (∃ u, w.cell? ⟨g, k, none⟩ = some u) ∧ w.frozen? ⟨g, k, none⟩ = false ∧ AnyB base n (.slice a n c) (w.setCell ⟨g, k, none⟩ (byteV x)) := by
  rcases h with ⟨h1, rfl⟩ | ⟨g, cap, cur, h1, h2, h3, h4, h5, h6, h7⟩
  · omega
  · cases h1
    have hO : Own w g cur 5 := h3
    obtain ⟨y, hy⟩ := h7 k hk
    refine ⟨g, rfl, h2, hO.lt, ⟨byteV y, by rw [hO.facts.1]; exact hy⟩, hO.facts.2 k, .inr ⟨g, c, cur.setIfInBounds k (byteV x), rfl, h2, hO.set k _, h4, h5, by simpa using h6, fun j hj => ?_⟩⟩
    by_cases e : k = j
    · subst e
      exact ⟨x, by rw [Array.getElem?_setIfInBounds_self_of_lt (by omega)]⟩
    · rw [Array.getElem?_setIfInBounds_ne e]; exact h7 j hj
theorem SliceRep.pre {α : Type} {E : PH → List Value → α → Prop} {sz : Nat} {h : PH} {a : Option Addr} {n cap : Nat} {xs : List α} (hr : SliceRep E sz h (.slice a n cap) xs) (k : Nat) (hk : k ≤ xs.length) : SliceRep E sz h (.slice a k cap) (xs.take k) := by
  obtain ⟨a', c', e, h1, h2, h3⟩ := hr
  cases e
  have hlk : (xs.take k).length = k := by rw [List.length_take]; omega
  refine ⟨a, cap, by rw [hlk], by omega, h2, ?_⟩
  rcases h3 with rfl | ⟨b, o, rfl, h3⟩
  · exact .inl (by simp)
  · refine .inr ⟨b, o, rfl, RowRep.of fun i hi => ?_⟩
    have hi' : i < xs.length := by rw [List.length_take] at hi; omega
    obtain ⟨cs, q1, q2, q3⟩ := h3.get i hi'
    exact ⟨cs, q1, q2, by simpa using q3⟩
end Go.Proofs.YtbpilielamjnoaaGreat
namespace Go.Proofs.YtbpilielamjnoaaGreat
open Go.RowKit Go.Shelf
inductive NF : Fm → Prop where
  | mk (f : Fm) (hk : ∀ g ∈ f.kids, NF g) (hn : nodeS f.op f.n f.inn f.kids = f) (ho : f.op = 4 ∨ f.op = 5 → ∀ g ∈ f.kids, g.op ≠ f.op) : NF f
theorem NF.kids {f : Fm} (h : NF f) : ∀ g ∈ f.kids, NF g := by cases h; assumption
def NodeI (f : Fm) : Prop := I64 f.op ∧ I64 f.n ∧ (∀ x ∈ f.inn, x.I) ∧ f.inn.length ≤ 9223372036854775807 ∧ f.kids.length ≤ 9223372036854775807
def FmI (f : Fm) : Prop := ∀ g ∈ f.pre, NodeI g
theorem FmI.of {f : Fm} (h : NodeI f) (hk : ∀ g ∈ f.kids, FmI g) : FmI f := fun x hx => by
  rw [f.pre_eq, List.mem_cons, List.mem_flatMap] at hx
  rcases hx with rfl | ⟨g, hg, hx⟩
  · exact h
  · exact hk g hg x hx
theorem itvs_I {h : PH} {v : Value} {l : List Itv} (hr : ItvsR h v l) : ∀ x ∈ l, x.I := by
  obtain ⟨a, c, rfl, -, hr⟩ := hr.form
  intro x hx
  obtain ⟨j, hj, rfl⟩ := List.mem_iff_getElem.1 hx
  obtain ⟨b, o, cs, -, -, -, hE⟩ := hr.get j hj
  exact hE.2
theorem FmR.i {h : PH} (f : Fm) : ∀ cs, FmR h cs f → FmI f := by
  induction f using Fm.ind with
  | h f ih =>
    intro cs hr
    obtain ⟨a3, c3, a4, c4, rfl, i1, i2, l1, l2, hi, hk⟩ := hr.form
    refine .of ⟨i1, i2, itvs_I hi, l1, l2⟩ fun g hg => ?_
    obtain ⟨j, hj, rfl⟩ := List.mem_iff_getElem.1 hg
    obtain ⟨b, o, cs, -, -, -, hE⟩ := hk.get j hj
    exact ih _ hg cs hE
-- lengths
def SpQ (w : World) (H0 : PH) (m : Nat) (e : Ending) (w' : World) : Prop :=
  ∃ g a3 c3 a4 c4, e = .returned (fmV g a3 c3 a4 c4) ∧ FmR (up H0 w w') (fmC g a3 c3 a4 c4) g ∧ g.bulk ≤ m ∧ Ext w w'
def SpS (w : World) (H0 : PH) (m : Nat) (wx : World) : Prop :=
  ∃ (op n : Int) (iv kv : Value) (il : List Itv) (kl : List Fm) (H : PH), Mem w H0 [box w.heap.size #[.int .i64 op, .int .i64 n, iv, kv] 29, box (w.heap.size + 1) zeroFa 29] H wx ∧
    I64 op ∧ I64 n ∧ ItvsR H iv il ∧ FmsR H kv kl ∧ 1 + il.length + sumN Fm.bulk kl ≤ m
theorem tdiv_I64 {x k : Int} (hx : I64 x) (hk : k ∈ [(2 : Int), 3, 4, 6, 9]) : I64 (x.tdiv k) := by
  unfold I64 at *
  simp only [List.mem_cons, List.not_mem_nil, or_false] at hk
  by_cases h : 0 ≤ x
  · rw [Int.tdiv_eq_ediv_of_nonneg h]
    rcases hk with rfl | rfl | rfl | rfl | rfl <;> omega
  · have e : x.tdiv k = -((-x).tdiv k) := by rw [Int.neg_tdiv, Int.neg_neg]
    rw [e, Int.tdiv_eq_ediv_of_nonneg (by omega)]
    rcases hk with rfl | rfl | rfl | rfl | rfl <;> omega
theorem wrap_I64 {x : Int} (hx : I64 x) : IntKind.i64.wrap x = x := wrap_id hx.1 hx.2
theorem up_ext {H : PH} {W w w' : World} (e : Ext w w') : PLe (up H W w) (up H W w') := by
  intro k o hk
  unfold up at *
  split at hk
  · rename_i h; rw [if_pos h]; exact hk
  · rename_i h; rw [if_neg h]
    have hlt : k < w.heap.size := (Array.getElem?_eq_some_iff.1 hk).1
    rw [← hk]; exact e.block k hlt
abbrev fmA4 (op n : Int) (iv kv : Value) : Array Value := #[.int .i64 op, .int .i64 n, iv, kv]
theorem SpS.of {w wx : World} {H0 H : PH} {m : Nat} {op n : Int} {iv kv : Value} {il : List Itv} {kl : List Fm}
    (hM : Mem w H0 [box w.heap.size (fmA4 op n iv kv) 29, box (w.heap.size + 1) #[.int .i64 0, .int .i64 0, .slice none 0 0, .slice none 0 0] 29, own mono_FmR 4 29 kv kl, own mono_ItvR 8 96 iv il] H wx)
    (ho : I64 op) (hn : I64 n) (hb : 1 + il.length + sumN Fm.bulk kl ≤ m) : SpS w H0 m wx := by
  obtain ⟨H1, _, hN1, hK⟩ := hM.freezeS 2 rfl
  obtain ⟨H2, hl2, hN2, hI⟩ := hN1.freezeS 3 rfl
  exact ⟨op, n, iv, kv, il, kl, H2, by simpa using hN2.pick [0, 1] (by decide), ho, hn, hI, hK.mono mono_FmR hl2, hb⟩
theorem sumN_snoc (ks : List Fm) (f : Fm) : sumN Fm.bulk (ks ++ [f]) = sumN Fm.bulk ks + f.bulk := by
  induction ks with
  | nil => simp [sumN]
  | cons x xs ih => simp only [List.cons_append, sumN, ih]; omega
theorem sumN_rep (m : Nat) : sumN Fm.bulk (List.replicate m noF) = m := by
  induction m with
  | zero => rfl
  | succ m ih => rw [List.replicate_succ, sumN, ih]; simp [noF, Fm.bulk, fbulks]; omega
theorem sumN_put : ∀ (ks : List Fm) (k : Nat) (g : Fm) (h : k < ks.length), sumN Fm.bulk (ks.set k g) + ks[k].bulk = sumN Fm.bulk ks + g.bulk
  | [], _, _, h => by simp at h
  | x :: xs, 0, g, _ => by simp [sumN]; omega
  | x :: xs, k + 1, g, h => by
    have := sumN_put xs k g (by simpa using h)
    simp only [List.set_cons_succ, sumN, List.getElem_cons_succ]; omega
set_option maxRecDepth 100000 in
set_option maxHeartbeats 8000000 in
theorem spoilt07_c {H0 : PH} (f : Fm) : ∀ (cs : List Value) (at' how by' : Int) (w : World), PLe H0 (ph w) → FmR H0 cs f → I64 at' → I64 how → I64 by' → f.bulk ≤ 100000 →
    Calls Tryz.prog 41 #[.agg cs.toArray, .int .i64 at', .int .i64 how, .int .i64 by'] w (SpQ w H0 (2 * f.bulk + 100)) := by
  induction f using Fm.ind with
  | h f ih =>
  intro cs at' how by' w hl hr ia ihw ib hb
  obtain ⟨a3, c3, a4, c4, rfl, i1, i2, hil, hkl, hi, hk⟩ := hr.form
  have hbe : 1 + f.inn.length + sumN Fm.bulk f.kids ≤ f.bulk := Nat.le_of_eq f.bulk_eq.symm
  have hkb := f.kids_le
  unfold fmC at *
  replace ih := Lib.hid ih
  have hM0 := ((((Mem.start w H0 hl).new' #[.int .i64 f.op, .int .i64 f.n, .slice a3 f.inn.length c3, .slice a4 f.kids.length c4] 29 (n := w.heap.size) (by simp)).new' zeroFa 29 (n := w.heap.size + 1) (by simp)).new' #[] 29 (n := w.heap.size + 1 + 1) (by simp)).asOwn 2 rfl mono_FmR (sz := 4) (xs := ([] : List Fm)) (n := 0) (by simp) (by simp [maxLen]) rfl rfl
  simp only [List.cons_append, List.nil_append, List.set_cons_zero, List.set_cons_succ, List.length_nil] at hM0
  have hS0 := Src.ofRep hk hM0.ple
  clear hr
  go_enter Tryz.func41, Tryz.ntmps41
  go_wp2_with (first | (at_builtin; refine wpList_append_M 2 rfl _ _ 23 rfl Tryz.underlying23 infoFm rfl rfl rfl hM0 rfl hS0 one_FmR (by simp; omega) (by simp; omega) ?f1))
  case f1 =>
  intro v1 w1 hM1
  try simp only [List.set_cons_zero, List.set_cons_succ, List.nil_append] at hM1
  obtain ⟨ka, kc, rfl, -⟩ := hM1.form 2 rfl
  obtain ⟨uc, uf⟩ := (hM1.box 0 rfl).facts
  have uf3 := uf 3
  have uc3 : _ = some (Value.slice a4 f.kids.length c4) := uc 3
  have ul := (hM1.box 0 rfl).lt
  have hM2 := hM1.set 0 rfl 3 (.slice ka f.kids.length kc)
  simp only [List.set_cons_zero, List.setIfInBounds_toArray, List.set_cons_succ] at hM2
  clear uc uf hM0 hM1 hS0
  go_upto_region 2 with (fail)
  generalize World.setCell _ _ _ = w2 at *
  clear uf3 uc3 ul
  obtain ⟨uc, uf⟩ := (hM2.box 0 rfl).facts
  have uf2 := uf 2
  have uc2 : _ = some (Value.slice a3 f.inn.length c3) := uc 2
  have ul := (hM2.box 0 rfl).lt
  have hM3 := (hM2.new' #[] 96 (n := w2.heap.size) rfl).asOwn 3 rfl mono_ItvR (sz := 8) (xs := ([] : List Itv)) (n := 0) (by simp) (by simp [maxLen]) rfl rfl
  simp only [List.cons_append, List.nil_append, List.set_cons_zero, List.set_cons_succ, List.length_nil] at hM3
  have hS3 := Src.ofRep hi hM3.ple
  clear uc uf
  go_wp2_with (first | (at_builtin; refine wpList_append_M 3 rfl _ _ 27 rfl Tryz.underlying27 infoItv rfl rfl rfl hM3 rfl hS3 one_ItvR (by simp; omega) (by simp; omega) ?f2))
  case f2 =>
  intro v3 w3 hM4
  try simp only [List.set_cons_zero, List.set_cons_succ, List.nil_append] at hM4
  obtain ⟨ja, jc, rfl, -⟩ := hM4.form 3 rfl
  clear uf2 uc2 ul
  obtain ⟨uc, uf⟩ := (hM4.box 0 rfl).facts
  have uf2 := uf 2
  have uc2 : _ = some (Value.slice a3 f.inn.length c3) := uc 2
  have ul := (hM4.box 0 rfl).lt
  have hM5 := hM4.set 0 rfl 2 (.slice ja f.inn.length jc)
  simp only [List.set_cons_zero, List.setIfInBounds_toArray, List.set_cons_succ] at hM5
  clear uc uf hM2 hM3 hM4 hS3
  go_upto_region 3 with (fail)
  generalize World.setCell _ _ _ = w4 at *
  clear uf2 uc2 ul
  obtain ⟨uc, uf⟩ := (hM5.box 0 rfl).facts
  have uc3 : _ = some (Value.slice ka f.kids.length kc) := uc 3
  have ul := (hM5.box 0 rfl).lt
  go_cut [31] (fun v wx => ∃ b : Bool, v = .bool b ∧ Hid (b = true → 0 < f.kids.length) ∧ Ext w4 wx)
  case first =>
    by_cases hk0 : 0 < f.kids.length
    · have b0 : decide (0 < f.kids.length) = true := by simpa using hk0
      go_wp2_with fail
      refine RetV_at (around_c at' 3 _ ia (by omega) (by omega)) ?_
      intro w5 hx5
      go_wp2_with fail
      go_meet
      case rel => exact ⟨_, rfl, Lib.hid fun _ => hk0, hx5⟩
    · have b0 : decide (0 < f.kids.length) = false := by simpa using hk0
      go_wp2_with fail
      go_meet
      case rel => exact ⟨_, rfl, Lib.hid (by simp), Ext.rfl' _⟩
  case rest =>
  obtain ⟨b, rfl, hbk, hx5⟩ := hcut
  replace hM5 := hM5.ext hx5
  clear uc uf uc3 ul hx5
  cases b with
  | true =>
    obtain hkp := hbk.out rfl
    have i3' : I64 (at'.tdiv 3) := tdiv_I64 ia (by simp)
    have i9' : I64 (at'.tdiv 9) := tdiv_I64 ia (by simp)
    have r3 := wrap_I64 i3'
    have r9 := wrap_I64 i9'
    clear ia hbk
    obtain ⟨uc, uf⟩ := (hM5.box 0 rfl).facts
    have uc3 : _ = some (Value.slice ka f.kids.length kc) := uc 3
    have ul := (hM5.box 0 rfl).lt
    clear uc uf
    go_wp2_with fail
    refine RetV_at (around_c (at'.tdiv 3) f.kids.length _ i3' (by omega) (by omega)) ?_
    intro w6 hx6
    obtain ⟨q0, q1⟩ := aroundV_range i3' (show (0 : Int) < f.kids.length by omega)
    obtain ⟨k, hk6⟩ : ∃ k : Nat, aroundV (at'.tdiv 3) f.kids.length = k := ⟨(aroundV (at'.tdiv 3) f.kids.length).toNat, by omega⟩
    rw [hk6] at q1 ⊢
    have hkn : k < f.kids.length := by omega
    clear hk6 q0 q1 uc3 ul
    replace hM5 := hM5.ext hx6
    clear hx6
    obtain ⟨uc, uf⟩ := (hM5.box 0 rfl).facts
    have uc3 : _ = some (Value.slice ka f.kids.length kc) := uc 3
    have ul := (hM5.box 0 rfl).lt
    obtain ⟨gb, gcap, gcs, e1, gl, gc, gR, gbl⟩ := hM5.get 2 rfl k hkn
    cases e1
    have gR0 := Lib.hid gR
    obtain ⟨x3, y3, x4, y4, rfl, -⟩ := gR.form
    have g0 : w6.cell? ⟨gb, k * 4, none⟩ = some (Value.int .i64 f.kids[k].op) := gc 0 (by omega)
    have g1 : _ = some (Value.int .i64 f.kids[k].n) := gc 1 (by omega)
    have g2 : _ = some (Value.slice x3 f.kids[k].inn.length y3) := gc 2 (by omega)
    have g3 : _ = some (Value.slice x4 f.kids[k].kids.length y4) := gc 3 (by omega)
    have hih := Lib.hid (ih.out f.kids[k] (List.getElem_mem hkn))
    have hkbk := Fm.kid_le (List.getElem_mem hkn)
    have hput := fun g => sumN_put f.kids k g hkn
    generalize hX : f.kids[k] = X at *
    clear hX gR gc uc uf gl
    have hlW := hM5.le.trans hM5.ple
    unfold fmC at gR0
    go_upto_region 5 with (fail)
    (refine wp_region_I 13 (by kernel_rfl) (by kernel_rfl) ?_; simp only [List.toList_toArray, List.take_succ_cons, List.take_zero, List.drop_succ_cons, List.drop_zero])
    iterate 12 (refine wiA rfl (by simp) rfl ?_; (try simp only [List.nil_append, List.cons_append]))
    (refine walkI_step ((fun v wx => ∃ g b3 d3 b4 d4, v = fmV g b3 d3 b4 d4 ∧ FmR (up H0 w6 wx) (fmC g b3 d3 b4 d4) g ∧ g.bulk ≤ 2 * X.bulk + 100)) rfl (by simp) rfl ((fun v w w' _ ⟨g, b3, d3, b4, d4, e, hr, hb⟩ e' => ⟨g, b3, d3, b4, d4, e, mono_FmR _ _ _ _ (up_ext e') hr, hb⟩)) ?_ ?_; (focus (intro A w' hS hA K hK; (simp only [List.map_cons, List.map_nil, knows, Is, Op.operands, Call.operands, List.lookup_cons, List.lookup_nil, Nat.reduceBEq, Bool.false_eq_true, if_false, if_true, Act.eval, Array.getD_eq_getD_getElem?, List.getElem?_toArray, List.getElem?_cons_succ, List.getElem?_cons_zero, Option.getD_some, and_true, true_and, List.append_toArray, List.nil_append, List.cons_append, List.toList_toArray, Array.toList_append, Option.toArray, List.append_nil] at hA); (go_simp; refine (hih.out _ _ _ _ _ (hlW.trans hS.ple) gR0.out i9' ihw ib (by omega)).mono ?_; rintro e w7 ⟨g, b3, d3, b4, d4, rfl, hF, hgb, hx7⟩; exact hK _ _ hx7 ⟨g, b3, d3, b4, d4, rfl, mono_FmR _ _ _ _ (up_sub hlW hS) hF, hgb⟩))); (try simp only [List.nil_append, List.cons_append]))
    (refine walkI_nil ?_; simp only [List.nil_append, List.cons_append, fins, Is, forall_eq, Act.put, List.setIfInBounds_toArray, List.set_cons_zero, List.set_cons_succ])
    intro w7 hx7 vv ⟨g, b3, d3, b4, d4, e, hF, hgb⟩
    subst e
    replace hM5 := hM5.up hx7
    clear g0 g1 g2 g3 hih gR0 uc3 ul
    go_upto_region 6 with (refine wpList_store_M (xs := f.kids) (n := f.kids.length) (cap := kc) (g := gb) rfl 29 _ _ rfl k rfl (cs := fmC g b3 d3 b4 d4) rfl (x' := g) hM5 2 rfl hkn hF rfl (fun u hu => one_FmR _ _ hF u hu) (by kernel_rfl) ?c5)
    case c5 =>
    intro w8 hM8
    try simp only [List.set_cons_zero, List.set_cons_succ] at hM8
    have hcut : SpS w H0 (2 * f.bulk + 100) w8 := SpS.of hM8 i1 i2 (by have := hput g; omega)
    clear hM5 hx7 hput
    obtain ⟨op, n, iv, kv, il, kl, H, hM, ho, hn, hI, hK, hbd⟩ := hcut
    obtain ⟨ia, ic, rfl, -, hI⟩ := hI.form
    obtain ⟨ka, kc, rfl, -, hK⟩ := hK.form
    obtain ⟨uc, uf⟩ := (hM.box 0 rfl).facts
    have ul := (hM.box 0 rfl).lt
    have q0 : _ = some (Value.int .i64 op) := uc 0
    have q1 : _ = some (Value.int .i64 n) := uc 1
    have q2 : _ = some (Value.slice ia il.length ic) := uc 2
    have q3 : _ = some (Value.slice ka kl.length kc) := uc 3
    obtain ⟨vc, vf⟩ := (hM.box 1 rfl).facts
    have vl := (hM.box 1 rfl).lt
    have p0 : _ = some (Value.int .i64 0) := vc 0
    have p1 : _ = some (Value.int .i64 0) := vc 1
    have p2 : _ = some (Value.slice none 0 0) := vc 2
    have p3 : _ = some (Value.slice none 0 0) := vc 3
    have hM9 := hM.set4 1 rfl (.int .i64 op) (.int .i64 n) (.slice ia il.length ic) (.slice ka kl.length kc)
    simp only [List.set_cons_zero, List.set_cons_succ] at hM9
    clear uc vc hM
    go_wp2_with fail
    generalize ((((World.setCell _ _ _).setCell _ _).setCell _ _).setCell _ _) = w9 at *
    obtain ⟨q, -⟩ := (hM9.box 1 rfl).facts
    have q0 : _ = some (Value.int .i64 op) := q 0
    have q1 : _ = some (Value.int .i64 n) := q 1
    have q2 : _ = some (Value.slice ia il.length ic) := q 2
    have q3 : _ = some (Value.slice ka kl.length kc) := q 3
    refine bodyPost_ret (v := .agg #[.int .i64 op, .int .i64 n, .slice ia il.length ic, .slice ka kl.length kc]) (by simp [results, Tryz.results41, go_sem, q0, q1, q2, q3]) rfl ?_
    exact ⟨.mk op n il kl, ia, ic, ka, kc, rfl, mono_FmR _ _ _ _ hM9.ub (FmR.of ho hn hI hK), by rw [Fm.bulk_eq]; exact hbd, hM9.ex⟩
  | false =>
    clear hbk
    go_wp2_with fail
    refine RetV_at (around_c how 8 _ ihw (by omega) (by omega)) ?_
    intro w6 hx6
    obtain ⟨q0, q1⟩ := aroundV_range ihw (show (0 : Int) < 8 by omega)
    replace hM5 := hM5.ext hx6
    generalize aroundV how 8 = q at *
    clear hx6 ihw ih ia
    go_upto_block 0 with (fail)
    obtain ⟨uc, uf⟩ := (hM5.box 0 rfl).facts
    have uf0 := uf 0
    have uf1 := uf 1
    have uf2 := uf 2
    have uf3 := uf 3
    have uc0 : _ = some (Value.int .i64 f.op) := uc 0
    have uc1 : _ = some (Value.int .i64 f.n) := uc 1
    have uc2 : _ = some (Value.slice ja f.inn.length jc) := uc 2
    have uc3 : _ = some (Value.slice ka f.kids.length kc) := uc 3
    have ul := (hM5.box 0 rfl).lt
    clear uc uf
    by_cases h6 : q = 6
    · subst h6
      have hN := (hM5.new' #[.int .i64 4, .int .i64 0, .slice none 0 0, .slice none 0 0] 29 (n := w6.heap.size) rfl).nil mono_FmR 4 29
      simp only [List.cons_append, List.nil_append] at hN
      obtain ⟨j0, j1⟩ := aroundV_range ib (show (0 : Int) < 10 by omega)
      have hard := Lib.hid (fun w => around_c by' 10 w ib (by omega) (by omega))
      generalize aroundV by' 10 = rr at *
      obtain ⟨r, rfl⟩ : ∃ r : Nat, rr = r := ⟨rr.toNat, by omega⟩
      have hw85 : IntKind.i64.wrap (85 + (r : Int)) = 85 + (r : Int) := wrap_id (by omega) (by omega)
      clear hM5 uf0 uf1 uf2 uf3 uc0 uc1 uc2 uc3 ul q0 q1
      go_wp2_with fail
      go_loopw [11] (fun vi wr => ∃ (m : Nat) (gv : Value) (gs : List Fm), m ≤ 85 + r ∧ vi = .int .i64 m ∧ Hid (gs = List.replicate m noF) ∧ gs.length ≤ 1000 ∧ Mem w H0 [box w.heap.size #[.int .i64 f.op, .int .i64 f.n, .slice ja f.inn.length jc, .slice ka f.kids.length kc] 29, box (w.heap.size + 1) #[.int .i64 0, .int .i64 0, .slice none 0 0, .slice none 0 0] 29, own mono_FmR 4 29 (.slice ka f.kids.length kc) f.kids, own mono_ItvR 8 96 (.slice ja f.inn.length jc) f.inn, box w6.heap.size #[.int .i64 4, .int .i64 0, .slice none 0 0, gv] 29, own mono_FmR 4 29 gv gs] H0 wr) (fun vi _ => 85 + r - (intOf vi).toNat)
      case atStart => exact ⟨0, _, [], by omega, rfl, Lib.hid rfl, by simp, hN⟩
      case round =>
        clear hN
        obtain ⟨m, gv, gs, hm, rfl, hgs, hgl, hN⟩ := hrel
        obtain ⟨ga, gc, rfl, -⟩ := hN.form 5 rfl
        by_cases hlt : m < 85 + r
        · have b0 : decide ((m : Int) < 85 + (r : Int)) = true := by simp; omega
          go_wp2_with fail
          refine RetV_at (hard.out _) ?_
          intro w7 hx7
          replace hN := hN.ext hx7
          clear hx7
          obtain ⟨uc, uf⟩ := (hN.box 4 rfl).facts
          have uc3 : _ = some (Value.slice ga gs.length gc) := uc 3
          have ul := (hN.box 4 rfl).lt
          clear uc uf
          have hN2 := hN.ext (Ext.new w7 (.cells #[.int .i64 0, .int .i64 0, .slice none 0 0, .slice none 0 0] 29))
          have hS := Src.lit1 (H := H0) (E := FmR) (sz := 4) (w := w7.alloc (.cells #[.int .i64 0, .int .i64 0, .slice none 0 0, .slice none 0 0] 29)) (b := w7.heap.size) (x := noF) (cs := fmC noF none 0 none 0) (noF_R _) rfl (fun j => by rw [(Proofs.YtbpilielamjnoaaGreat.Own.new _ _ _).facts.1]; simp [fmC, noF, Fm.op, Fm.n, Fm.inn, Fm.kids])
          go_wp2_with (first | (at_builtin; refine wpList_append_M 5 rfl _ _ 23 rfl Tryz.underlying23 infoFm rfl rfl rfl hN2 rfl hS one_FmR (by simp; omega) (by simp; omega) ?f5))
          case f5 =>
          intro v8 w8 hN3
          try simp only [List.set_cons_zero, List.set_cons_succ] at hN3
          clear hN hN2 hS uc3 ul
          have hgs2 : Hid (gs ++ [noF] = List.replicate (m + 1) noF) := Lib.hid (by rw [hgs.out, List.replicate_succ'])
          have hgl2 : (gs ++ [noF]).length ≤ 1000 := by rw [hgs2.out, List.length_replicate]; omega
          generalize gs ++ [noF] = gs' at *
          obtain ⟨na, nc, rfl, -⟩ := hN3.form 5 rfl
          obtain ⟨uc, uf⟩ := (hN3.box 4 rfl).facts
          have uf3 := uf 3
          have uc3 : _ = some (Value.slice ga gs.length gc) := uc 3
          have ul := (hN3.box 4 rfl).lt
          clear uc uf
          have hN4 := hN3.set 4 rfl 3 (.slice na gs'.length nc)
          simp only [List.set_cons_zero, List.setIfInBounds_toArray, List.set_cons_succ] at hN4
          clear hN3
          go_wp2_with fail
          go_roundw
          case rel => exact ⟨m + 1, _, gs', by omega, by go_num, hgs2, hgl2, hN4⟩
          case measure => simp [intOf]; omega
        · have b0 : decide ((m : Int) < 85 + (r : Int)) = false := by simp; omega
          go_wp2_with fail
          refine RetV_at (hard.out _) ?_
          intro w7 hx7
          replace hN := hN.ext hx7
          clear hx7
          have hgb : sumN Fm.bulk gs = m := by rw [hgs.out]; exact sumN_rep m
          clear hgs
          obtain ⟨H1, hl1, hN1, hK⟩ := hN.freezeS 2 rfl
          obtain ⟨H2, hl2, hN2, hI⟩ := hN1.freezeS 3 rfl
          obtain ⟨H3, hl3, hN3, hG⟩ := hN2.freezeS 5 rfl
          replace hN3 := hN3.pick [0, 1, 4] (by decide)
          simp only [List.set_cons_succ, List.set_cons_zero, List.map_cons, List.map_nil, List.getElem?_cons_succ, List.getElem?_cons_zero, Option.getD_some] at hN3
          have hfR : FmR H3 (fmC (.mk f.op f.n f.inn f.kids) ja jc ka kc) (.mk f.op f.n f.inn f.kids) := FmR.of i1 i2 (hI.mono mono_ItvR hl3) (hK.mono mono_FmR (hl2.trans hl3))
          have hgR : FmR H3 (fmC (.mk 4 0 [] gs) none 0 ga gc) (.mk 4 0 [] gs) := FmR.of (by simp [Fm.op, I64]) (by simp [Fm.n, I64]) (SliceRep.nil _ _ _) hG
          obtain ⟨uc, uf⟩ := (hN3.box 0 rfl).facts
          have uc0 : _ = some (Value.int .i64 f.op) := uc 0
          have uc1 : _ = some (Value.int .i64 f.n) := uc 1
          have uc2 : _ = some (Value.slice ja f.inn.length jc) := uc 2
          have uc3 : _ = some (Value.slice ka f.kids.length kc) := uc 3
          have ul := (hN3.box 0 rfl).lt
          obtain ⟨tc, tf⟩ := (hN3.box 2 rfl).facts
          have tc0 : _ = some (Value.int .i64 4) := tc 0
          have tc1 : _ = some (Value.int .i64 0) := tc 1
          have tc2 : _ = some (Value.slice none 0 0) := tc 2
          have tc3 : _ = some (Value.slice ga gs.length gc) := tc 3
          have tl := (hN3.box 2 rfl).lt
          obtain ⟨vc, vf⟩ := (hN3.box 1 rfl).facts
          have vl := (hN3.box 1 rfl).lt
          have p0 : _ = some (Value.int .i64 0) := vc 0
          have p1 : _ = some (Value.int .i64 0) := vc 1
          have p2 : _ = some (Value.slice none 0 0) := vc 2
          have p3 : _ = some (Value.slice none 0 0) := vc 3
          have hN5 := ((hN3.set4 1 rfl (.int .i64 5) (.int .i64 0) (.slice none 0 0) (.slice (some ⟨w7.heap.size, 0, none⟩) 2 2)).new' #[.int .i64 f.op, .int .i64 f.n, .slice ja f.inn.length jc, .slice ka f.kids.length kc, .int .i64 4, .int .i64 0, .slice none 0 0, .slice ga gs.length gc] 29 (n := w7.heap.size) (by simp)).asOwn 3 rfl mono_FmR (sz := 4) (xs := [.mk f.op f.n f.inn f.kids, .mk 4 0 [] gs]) (n := 2) (by simp) (by simp [maxLen]) rfl ⟨_, _, rfl, rfl, hfR, _, [], rfl, rfl, hgR, rfl⟩
          simp only [List.set_cons_zero, List.set_cons_succ, List.cons_append, List.nil_append] at hN5
          obtain ⟨H6, hl6, hN6, hR6⟩ := hN5.freezeS 3 rfl
          simp only [List.set_cons_zero, List.set_cons_succ] at hN6
          clear uc uf tc tf vc hN hN1 hN2 hN3 hN5 hG hI hK hfR hgR
          go_wp2_with fail
          generalize World.alloc _ _ = w9 at *
          obtain ⟨q, -⟩ := (hN6.box 1 rfl).facts
          have q0 : _ = some (Value.int .i64 5) := q 0
          have q1 : _ = some (Value.int .i64 0) := q 1
          have q2 : _ = some (Value.slice none 0 0) := q 2
          have q3 : _ = some (Value.slice (some ⟨w7.heap.size, 0, none⟩) 2 2) := q 3
          refine bodyPost_ret (v := .agg #[.int .i64 5, .int .i64 0, .slice none 0 0, .slice (some ⟨w7.heap.size, 0, none⟩) 2 2]) (by simp [results, Tryz.results41, go_sem, q0, q1, q2, q3]) rfl ?_
          refine ⟨.mk 5 0 [] [.mk f.op f.n f.inn f.kids, .mk 4 0 [] gs], none, 0, some ⟨w7.heap.size, 0, none⟩, 2, rfl, mono_FmR _ _ _ _ hN6.ub (FmR.of (by simp [Fm.op, I64]) (by simp [Fm.n, I64]) (SliceRep.nil _ _ _) hR6), ?_, hN6.ex⟩
          have e1 : (Fm.mk f.op f.n f.inn f.kids).bulk = f.bulk := by rw [← Fm.eta]
          have e2 : (Fm.mk 4 0 [] gs).bulk = 1 + m := by rw [Fm.bulk_eq]; simp [Fm.inn, Fm.kids, hgb]
          rw [Fm.bulk_eq]
          show 1 + 0 + ((Fm.mk f.op f.n f.inn f.kids).bulk + ((Fm.mk 4 0 [] gs).bulk + 0)) ≤ _
          rw [e1, e2]
          omega
    go_cut [] (fun wx => SpS w H0 (2 * f.bulk + 100) wx)
    case first =>
      obtain rfl | rfl | rfl | rfl | rfl | rfl | rfl : q = 0 ∨ q = 1 ∨ q = 2 ∨ q = 3 ∨ q = 4 ∨ q = 5 ∨ q = 7 := by omega
      · have hli := Own.new w6 #[.int .i64 by', .int .i64 (-1), .int .i64 7, .int .i64 0, .int .i64 4, .int .i64 6] 3
        have hM6 := hM5.ext (Ext.new w6 (.cells #[.int .i64 by', .int .i64 (-1), .int .i64 7, .int .i64 0, .int .i64 4, .int .i64 6] 3))
        go_wp2_with fail
        refine RetV_at (around_c by' 6 _ ib (by omega) (by omega)) ?_
        intro w7 hx7
        obtain ⟨j0, j1⟩ := aroundV_range ib (show (0 : Int) < 6 by omega)
        obtain ⟨j, hj⟩ : ∃ j : Nat, aroundV by' 6 = j := ⟨(aroundV by' 6).toNat, by omega⟩
        rw [hj] at j1 ⊢
        clear hj j0
        have hM7 := hM6.ext hx7
        replace hli := hli.keep hx7
        clear uf0 uf1 uf2 uf3 uc0 uc1 uc2 uc3 ul
        obtain ⟨uc, uf⟩ := (hM7.box 0 rfl).facts
        have uf0 := uf 0
        have uf1 := uf 1
        have uc0 : _ = some (Value.int .i64 f.op) := uc 0
        have uc1 : _ = some (Value.int .i64 f.n) := uc 1
        have ul := (hM7.box 0 rfl).lt
        have hll := hli.lt
        clear uc uf
        have hjm : j < 6 := by omega
        obtain ⟨nv, hnv, hcn⟩ : ∃ nv : Int, I64 nv ∧ w7.cell? ⟨w6.heap.size, j, none⟩ = some (.int .i64 nv) := by
          rw [hli.facts.1 j]
          rcases j with _ | _ | _ | _ | _ | _ | _ | j
          all_goals first | omega | exact ⟨_, ib, rfl⟩ | (refine ⟨_, ?_, rfl⟩; simp [I64])
        have hM8 := hM7.set 0 rfl 0 (.int .i64 nv)
        simp only [List.set_cons_zero, List.setIfInBounds_toArray, List.set_cons_succ] at hM8
        clear hM5 hM6 hM7 hx7 hli
        go_wp2_with fail
        go_meet
        case rel => exact SpS.of hM8 hnv i2 (by omega)
      · have hli := Own.new w6 #[.int .i64 by', .int .i64 (-1), .int .i64 0, .int .i64 31, .int .i64 32, .int .i64 63, .int .i64 64] 3
        have hM6 := hM5.ext (Ext.new w6 (.cells #[.int .i64 by', .int .i64 (-1), .int .i64 0, .int .i64 31, .int .i64 32, .int .i64 63, .int .i64 64] 3))
        go_wp2_with fail
        refine RetV_at (around_c by' 7 _ ib (by omega) (by omega)) ?_
        intro w7 hx7
        obtain ⟨j0, j1⟩ := aroundV_range ib (show (0 : Int) < 7 by omega)
        obtain ⟨j, hj⟩ : ∃ j : Nat, aroundV by' 7 = j := ⟨(aroundV by' 7).toNat, by omega⟩
        rw [hj] at j1 ⊢
        clear hj j0
        have hM7 := hM6.ext hx7
        replace hli := hli.keep hx7
        clear uf0 uf1 uf2 uf3 uc0 uc1 uc2 uc3 ul
        obtain ⟨uc, uf⟩ := (hM7.box 0 rfl).facts
        have uf0 := uf 0
        have uf1 := uf 1
        have uc0 : _ = some (Value.int .i64 f.op) := uc 0
        have uc1 : _ = some (Value.int .i64 f.n) := uc 1
        have ul := (hM7.box 0 rfl).lt
        have hll := hli.lt
        clear uc uf
        have hjm : j < 7 := by omega
        obtain ⟨nv, hnv, hcn⟩ : ∃ nv : Int, I64 nv ∧ w7.cell? ⟨w6.heap.size, j, none⟩ = some (.int .i64 nv) := by
          rw [hli.facts.1 j]
          rcases j with _ | _ | _ | _ | _ | _ | _ | j
          all_goals first | omega | exact ⟨_, ib, rfl⟩ | (refine ⟨_, ?_, rfl⟩; simp [I64])
        have hM8 := hM7.set 0 rfl 1 (.int .i64 nv)
        simp only [List.set_cons_zero, List.setIfInBounds_toArray, List.set_cons_succ] at hM8
        clear hM5 hM6 hM7 hx7 hli
        go_wp2_with fail
        go_meet
        case rel => exact SpS.of hM8 i1 hnv (by omega)
      · have hM6 := hM5.ext (Ext.new w6 (.cells #[.int .i64 by', .int .i64 1, .int .i64 5, .int .i64 1, .bool false, .bool false, .bool false, .bool false] 96))
        have hS := Src.lit1 (H := H0) (E := ItvR) (sz := 8) (w := w6.alloc (.cells #[.int .i64 by', .int .i64 1, .int .i64 5, .int .i64 1, .bool false, .bool false, .bool false, .bool false] 96)) (b := w6.heap.size) (x := ⟨⟨by', 1⟩, ⟨5, 1⟩, false, false, false, false⟩) (cs := [.int .i64 by', .int .i64 1, .int .i64 5, .int .i64 1, .bool false, .bool false, .bool false, .bool false]) ⟨rfl, ⟨ib, by simp [I64]⟩, by simp [I64], by simp [I64]⟩ rfl (fun j => by rw [(Proofs.YtbpilielamjnoaaGreat.Own.new _ _ _).facts.1]; simp)
        go_wp2_with (first | (at_builtin; refine wpList_append_M 3 rfl _ _ 27 rfl Tryz.underlying27 infoItv rfl rfl rfl hM6 rfl hS one_ItvR (by simp; omega) (by simp; omega) ?f5))
        case f5 =>
        intro v7 w7 hM7
        try simp only [List.set_cons_zero, List.set_cons_succ] at hM7
        obtain ⟨il2, hil2⟩ : ∃ il2 : List Itv, il2 = f.inn ++ [⟨⟨by', 1⟩, ⟨5, 1⟩, false, false, false, false⟩] := ⟨_, rfl⟩
        have hll2 : il2.length ≤ f.inn.length + 1 := by rw [hil2]; simp
        rw [← hil2] at hM7
        clear hil2
        obtain ⟨va, vc, rfl, -⟩ := hM7.form 3 rfl
        clear uf0 uf1 uf2 uf3 uc0 uc1 uc2 uc3 ul
        obtain ⟨uc, uf⟩ := (hM7.box 0 rfl).facts
        have uf2 := uf 2
        have uf3 := uf 3
        have uc2 : _ = some (Value.slice ja f.inn.length jc) := uc 2
        have uc3 : _ = some (Value.slice ka f.kids.length kc) := uc 3
        have ul := (hM7.box 0 rfl).lt
        have hM8 := hM7.set 0 rfl 2 (.slice va il2.length vc)
        simp only [List.set_cons_zero, List.setIfInBounds_toArray, List.set_cons_succ] at hM8
        clear uc uf hM5 hM6 hM7 hS
        go_wp2_with fail
        go_meet
        case rel => exact SpS.of hM8 i1 i2 (by omega)
      · have hS := hM5.src 3 rfl
        go_wp2_with (first | (at_builtin; refine wpList_append_M 3 rfl _ _ 27 rfl Tryz.underlying27 infoItv rfl rfl rfl hM5 rfl hS one_ItvR (by omega) (by omega) ?f5))
        case f5 =>
        intro v7 w7 hM7
        try simp only [List.set_cons_zero, List.set_cons_succ] at hM7
        obtain ⟨il2, hil2⟩ : ∃ il2 : List Itv, il2 = f.inn ++ f.inn := ⟨_, rfl⟩
        have hll2 : il2.length ≤ f.inn.length + f.inn.length := by rw [hil2]; simp
        rw [← hil2] at hM7
        clear hil2
        have hM6 := hM7
        obtain ⟨va, vc, rfl, -⟩ := hM7.form 3 rfl
        clear uf0 uf1 uf2 uf3 uc0 uc1 uc2 uc3 ul
        obtain ⟨uc, uf⟩ := (hM7.box 0 rfl).facts
        have uf2 := uf 2
        have uf3 := uf 3
        have uc2 : _ = some (Value.slice ja f.inn.length jc) := uc 2
        have uc3 : _ = some (Value.slice ka f.kids.length kc) := uc 3
        have ul := (hM7.box 0 rfl).lt
        have hM8 := hM7.set 0 rfl 2 (.slice va il2.length vc)
        simp only [List.set_cons_zero, List.setIfInBounds_toArray, List.set_cons_succ] at hM8
        clear uc uf hM5 hM6 hM7 hS
        go_wp2_with fail
        go_meet
        case rel => exact SpS.of hM8 i1 i2 (by omega)
      · have hM6 := hM5.ext (Ext.new w6 (.cells #[.int .i64 0, .int .i64 0, .slice none 0 0, .slice none 0 0] 29))
        have hS := Src.lit1 (H := H0) (E := FmR) (sz := 4) (w := w6.alloc (.cells #[.int .i64 0, .int .i64 0, .slice none 0 0, .slice none 0 0] 29)) (b := w6.heap.size) (x := noF) (cs := fmC noF none 0 none 0) (noF_R _) rfl (fun j => by rw [(Proofs.YtbpilielamjnoaaGreat.Own.new _ _ _).facts.1]; simp [fmC, noF, Fm.op, Fm.n, Fm.inn, Fm.kids])
        go_wp2_with (first | (at_builtin; refine wpList_append_M 2 rfl _ _ 23 rfl Tryz.underlying23 infoFm rfl rfl rfl hM6 rfl hS one_FmR (by simp; omega) (by simp; omega) ?f5))
        case f5 =>
        intro v7 w7 hM7
        try simp only [List.set_cons_zero, List.set_cons_succ] at hM7
        obtain ⟨kl2, hkl2⟩ : ∃ kl2 : List Fm, kl2 = f.kids ++ [noF] := ⟨_, rfl⟩
        have hll2 : sumN Fm.bulk kl2 ≤ sumN Fm.bulk f.kids + 1 := by rw [hkl2, sumN_snoc]; simp [noF, Fm.bulk, fbulks]
        rw [← hkl2] at hM7
        clear hkl2
        obtain ⟨va, vc, rfl, -⟩ := hM7.form 2 rfl
        clear uf0 uf1 uf2 uf3 uc0 uc1 uc2 uc3 ul
        obtain ⟨uc, uf⟩ := (hM7.box 0 rfl).facts
        have uf2 := uf 2
        have uf3 := uf 3
        have uc2 : _ = some (Value.slice ja f.inn.length jc) := uc 2
        have uc3 : _ = some (Value.slice ka f.kids.length kc) := uc 3
        have ul := (hM7.box 0 rfl).lt
        have hM8 := hM7.set 0 rfl 3 (.slice va kl2.length vc)
        simp only [List.set_cons_zero, List.setIfInBounds_toArray, List.set_cons_succ] at hM8
        clear uc uf hM5 hM6 hM7 hS
        go_wp2_with fail
        go_meet
        case rel => exact SpS.of hM8 i1 i2 (by omega)
      · have hM8 := ((hM5.set 0 rfl 3 (.slice none 0 0)).nil mono_FmR 4 29).pick [0, 1, 4, 3] (by decide)
        simp only [List.set_cons_zero, List.setIfInBounds_toArray, List.set_cons_succ, List.cons_append, List.nil_append, List.map_cons, List.map_nil, List.getElem?_cons_succ, List.getElem?_cons_zero, Option.getD_some] at hM8
        clear hM5
        go_wp2_with fail
        go_meet
        case rel => exact SpS.of hM8 i1 i2 (by simp [sumN]; omega)
      · obtain ⟨j0, j1⟩ := aroundV_range ib (show (0 : Int) < 7 by omega)
        have hard := Lib.hid (fun w => around_c by' 7 w ib (by omega) (by omega))
        generalize aroundV by' 7 = rr at *
        obtain ⟨r, rfl⟩ : ∃ r : Nat, rr = r := ⟨rr.toNat, by omega⟩
        have hw1 : IntKind.i64.wrap (1 + (r : Int)) = 1 + (r : Int) := wrap_id (by omega) (by omega)
        obtain ⟨H1, hl1, hN1, hK⟩ := hM5.freezeS 2 rfl
        obtain ⟨H2, hl2, hN2, hI⟩ := hN1.freezeS 3 rfl
        replace hN2 := hN2.pick [0, 1] (by decide)
        simp only [List.set_cons_succ, List.set_cons_zero, List.map_cons, List.map_nil, List.getElem?_cons_succ, List.getElem?_cons_zero, Option.getD_some] at hN2
        have hfR : FmR H2 (fmC (.mk f.op f.n f.inn f.kids) ja jc ka kc) (.mk f.op f.n f.inn f.kids) := FmR.of i1 i2 hI (hK.mono mono_FmR hl2)
        clear hM5 hN1 hK hI uf0 uf1 uf2 uf3 uc0 uc1 uc2 uc3 ul q0 q1
        go_wp2_with fail
        go_loopw [12] (fun vi wr => ∃ (m : Nat) (g : Fm) (b3 : Option Addr) (d3 : Nat) (b4 : Option Addr) (d4 : Nat) (H : PH), m ≤ 1 + r ∧ vi = .int .i64 m ∧ Mem w H0 [box w.heap.size #[.int .i64 g.op, .int .i64 g.n, .slice b3 g.inn.length d3, .slice b4 g.kids.length d4] 29, box (w.heap.size + 1) #[.int .i64 0, .int .i64 0, .slice none 0 0, .slice none 0 0] 29] H wr ∧ FmR H (fmC g b3 d3 b4 d4) g ∧ g.bulk ≤ f.bulk + m) (fun vi _ => 1 + r - (intOf vi).toNat)
        case atStart => exact ⟨0, .mk f.op f.n f.inn f.kids, _, _, _, _, H2, by omega, rfl, hN2, hfR, by rw [← Fm.eta]; omega⟩
        case round =>
          clear hN2 hfR
          obtain ⟨m, g, b3, d3, b4, d4, H, hm, rfl, hN, hF, hgb⟩ := hrel
          by_cases hlt : m < 1 + r
          · have b0 : decide ((m : Int) < 1 + (r : Int)) = true := by simp; omega
            go_wp2_with fail
            refine RetV_at (hard.out _) ?_
            intro w7 hx7
            replace hN := hN.ext hx7
            clear hx7
            obtain ⟨uc, uf⟩ := (hN.box 0 rfl).facts
            have uc0 : _ = some (Value.int .i64 g.op) := uc 0
            have uc1 : _ = some (Value.int .i64 g.n) := uc 1
            have uc2 : _ = some (Value.slice b3 g.inn.length d3) := uc 2
            have uc3 : _ = some (Value.slice b4 g.kids.length d4) := uc 3
            have ul := (hN.box 0 rfl).lt
            clear uc uf
            go_wp2_with fail
            refine (not7_c g b3 d3 b4 d4 w7 hN.ple hF).mono ?_
            rintro e w8 ⟨b, rfl, hx8, hF8⟩
            replace hN := hN.up hx8
            clear hx8 uc0 uc1 uc2 uc3 ul
            obtain ⟨uc, uf⟩ := (hN.box 0 rfl).facts
            have uc0 : _ = some (Value.int .i64 g.op) := uc 0
            have uc1 : _ = some (Value.int .i64 g.n) := uc 1
            have uc2 : _ = some (Value.slice b3 g.inn.length d3) := uc 2
            have uc3 : _ = some (Value.slice b4 g.kids.length d4) := uc 3
            have ul := (hN.box 0 rfl).lt
            replace hN := hN.set4 0 rfl (.int .i64 6) (.int .i64 0) (.slice none 0 0) (.slice (some ⟨b, 0, none⟩) 1 1)
            simp only [List.set_cons_zero, List.set_cons_succ] at hN
            clear uc
            go_wp2_with fail
            go_roundw
            case rel => exact ⟨m + 1, .mk 6 0 [] [g], none, 0, some ⟨b, 0, none⟩, 1, _, by omega, by go_num, hN, hF8, by rw [Fm.bulk_eq]; simp [Fm.inn, Fm.kids, sumN]; omega⟩
            case measure => simp [intOf]; omega
          · have b0 : decide ((m : Int) < 1 + (r : Int)) = false := by simp; omega
            go_wp2_with fail
            refine RetV_at (hard.out _) ?_
            intro w7 hx7
            replace hN := hN.ext hx7
            clear hx7
            go_wp2_with fail
            go_meet
            case rel =>
              rw [fmR_iff] at hF
              obtain ⟨v3, v4, e1, g1, g2, g3, g4⟩ := hF
              cases e1
              exact ⟨g.op, g.n, _, _, g.inn, g.kids, H, hN, g1, g2, g3, g4, by rw [Fm.bulk_eq] at hgb; omega⟩
    case rest =>
      obtain ⟨op, n, iv, kv, il, kl, H, hM, ho, hn, hI, hK, hbd⟩ := hcut
      obtain ⟨ia, ic, rfl, -, hI⟩ := hI.form
      obtain ⟨ka, kc, rfl, -, hK⟩ := hK.form
      obtain ⟨uc, uf⟩ := (hM.box 0 rfl).facts
      have ul := (hM.box 0 rfl).lt
      have q0 : _ = some (Value.int .i64 op) := uc 0
      have q1 : _ = some (Value.int .i64 n) := uc 1
      have q2 : _ = some (Value.slice ia il.length ic) := uc 2
      have q3 : _ = some (Value.slice ka kl.length kc) := uc 3
      obtain ⟨vc, vf⟩ := (hM.box 1 rfl).facts
      have vl := (hM.box 1 rfl).lt
      have p0 : _ = some (Value.int .i64 0) := vc 0
      have p1 : _ = some (Value.int .i64 0) := vc 1
      have p2 : _ = some (Value.slice none 0 0) := vc 2
      have p3 : _ = some (Value.slice none 0 0) := vc 3
      have hM9 := hM.set4 1 rfl (.int .i64 op) (.int .i64 n) (.slice ia il.length ic) (.slice ka kl.length kc)
      simp only [List.set_cons_zero, List.set_cons_succ] at hM9
      clear uc vc hM
      go_wp2_with fail
      generalize ((((World.setCell _ _ _).setCell _ _).setCell _ _).setCell _ _) = w9 at *
      obtain ⟨q, -⟩ := (hM9.box 1 rfl).facts
      have q0 : _ = some (Value.int .i64 op) := q 0
      have q1 : _ = some (Value.int .i64 n) := q 1
      have q2 : _ = some (Value.slice ia il.length ic) := q 2
      have q3 : _ = some (Value.slice ka kl.length kc) := q 3
      refine bodyPost_ret (v := .agg #[.int .i64 op, .int .i64 n, .slice ia il.length ic, .slice ka kl.length kc]) (by simp [results, Tryz.results41, go_sem, q0, q1, q2, q3]) rfl ?_
      exact ⟨.mk op n il kl, ia, ic, ka, kc, rfl, mono_FmR _ _ _ _ hM9.ub (FmR.of ho hn hI hK), by rw [Fm.bulk_eq]; exact hbd, hM9.ex⟩
theorem valid_of {f : Fm} {cl : Int} (h1 : f.size ≤ 96) (h2 : f.deep ≤ 8) (h3 : wholeN cl f = true) : validF f = 0 := by
  unfold validF
  rw [if_neg (by omega), if_pos (wholeN_B h3)]
def ListQ (w : World) (cl : Int) (e : Ending) (w' : World) : Prop :=
  ∃ v f g h, e = .returned v ∧ Ext w w' ∧ (FmsR (ph w') v [f, g, h] ∧ ∃ b, v = .slice (some ⟨b, 0, none⟩) 3 3) ∧ validF f = 0 ∧ wholeN cl f = true ∧ g.bulk ≤ 7000 ∧ h.bulk ≤ 15000
theorem spoilt_S (f : Fm) (v : Value) (at' how by' : Int) (w : World) (hr : FmIs f (ph w) v) (i1 : I64 at') (i2 : I64 how) (i3 : I64 by') (hb : f.bulk ≤ 100000) :
    Calls Tryz.prog 41 #[v, .int .i64 at', .int .i64 how, .int .i64 by'] w (fun e w' => ∃ u g, e = .returned u ∧ Ext w w' ∧ FmIs g (ph w') u ∧ g.bulk ≤ 2 * f.bulk + 100) := by
  obtain ⟨a3, c3, a4, c4, rfl, hr⟩ := hr
  refine (spoilt07_c (H0 := ph w) f _ at' how by' w (fun _ _ h => h) hr i1 i2 i3 hb).mono ?_
  rintro e w' ⟨g, b3, d3, b4, d4, rfl, hg, hb2, hx⟩
  exact ⟨_, g, rfl, hx, ⟨b3, d3, b4, d4, rfl, mono_FmR _ _ _ _ (up_ple (fun _ _ h => h) hx) hg⟩, hb2⟩
theorem quo3_I {x : Int} (h : I64 x) : I64 (x.tdiv 3) ∧ IntKind.i64.wrap (x.tdiv 3) = x.tdiv 3 := by
  unfold I64 at *
  have h1 : -9223372036854775808 ≤ x.tdiv 3 ∧ x.tdiv 3 ≤ 9223372036854775807 := by
    rcases Int.le_total 0 x with h0 | h0
    · have := Int.tdiv_eq_ediv_of_nonneg (b := 3) h0; omega
    · have e : x.tdiv 3 = -((-x).tdiv 3) := by rw [Int.neg_tdiv, Int.neg_neg]
      have := Int.tdiv_eq_ediv_of_nonneg (a := -x) (b := 3) (by omega); omega
  exact ⟨h1, by rw [IntKind.wrap_i64]; omega⟩
set_option maxRecDepth 100000 in
set_option maxHeartbeats 4000000 in
theorem some7_c (l : List Int) (vl : Value) (cl at' how by' : Int) (w : World) (hr : IntsR (ph w) vl l) (hc0 : 0 < cl) (hc1 : cl ≤ 64) (i1 : I64 at') (i2 : I64 how) (i3 : I64 by') :
    Calls Tryz.prog 10 #[vl, .int .i64 cl, .int .i64 at', .int .i64 how, .int .i64 by'] w (ListQ w cl) := by
  have hr0 := hr
  obtain ⟨xa, xc, rfl, -, -⟩ := hr.form
  have hs := some07_n l _ cl 14 5 w (fun _ _ h => h) hr0 hc0 hc1 (by omega) (by omega) (by omega)
  rw [show (((5 : Nat) : Int) + 1) = 6 from rfl] at hs
  obtain ⟨j1, j2⟩ := quo3_I i3
  clear hr hr0
  go_enter Tryz.func10, Tryz.ntmps10
  go_wp2_with fail
  refine hs.mono ?_
  rintro e w1 ⟨f, a3, c3, a4, c4, rfl, hF, hw, ⟨hz, hd⟩, hx1⟩
  replace hF := mono_FmR _ _ _ _ (up_ple (noH_le _) hx1) hF
  have hv : validF f = 0 := valid_of (by unfold SzP at hz; omega) (by omega) hw
  have hb := valid_bulk hv
  have e1 := Ext.new w1 (.cells #[.int .i64 f.op, .int .i64 f.n, .slice a3 f.inn.length c3, .slice a4 f.kids.length c4] 29)
  have o11 := Own.new w1 #[.int .i64 f.op, .int .i64 f.n, .slice a3 f.inn.length c3, .slice a4 f.kids.length c4] 29
  replace hF := mono_FmR _ _ _ _ e1.ple hF
  have hx := hx1.then e1
  clear hs hz hd hx1
  go_upto_region 2 with (fail)
  generalize w1.alloc _ = w2 at *
  generalize w1.heap.size = g11 at *
  clear e1
  have u0 : w2.cell? ⟨g11, 0, none⟩ = some (.int .i64 f.op) := o11.facts.1 0
  have u1 : w2.cell? ⟨g11, 1, none⟩ = some (.int .i64 f.n) := o11.facts.1 1
  have u2 : w2.cell? ⟨g11, 2, none⟩ = some (.slice a3 f.inn.length c3) := o11.facts.1 2
  have u3 : w2.cell? ⟨g11, 3, none⟩ = some (.slice a4 f.kids.length c4) := o11.facts.1 3
  have ul := o11.lt
  have hsp := spoilt_S f _ at' how by' w2 ⟨a3, c3, a4, c4, rfl, hF⟩ i1 i2 i3 (by omega)
  go_wp2_with fail
  refine hsp.mono ?_
  rintro e w3 ⟨_, g, rfl, hx3, ⟨b3, d3, b4, d4, rfl, hG⟩, hgb⟩
  have e3 := Ext.new w3 (.cells #[.int .i64 g.op, .int .i64 g.n, .slice b3 g.inn.length d3, .slice b4 g.kids.length d4] 29)
  have o12 := Own.new w3 #[.int .i64 g.op, .int .i64 g.n, .slice b3 g.inn.length d3, .slice b4 g.kids.length d4] 29
  replace hG := mono_FmR _ _ _ _ e3.ple hG
  replace o11 := (o11.keep hx3).keep e3
  replace hF := mono_FmR _ _ _ _ (hx3.then e3).ple hF
  replace hx := (hx.then hx3).then e3
  clear hsp hx3 u0 u1 u2 u3 ul
  go_upto_region 3 with (fail)
  generalize w3.alloc _ = W at *
  generalize w3.heap.size = g12 at *
  clear e3
  have u0 : W.cell? ⟨g11, 0, none⟩ = some (.int .i64 f.op) := o11.facts.1 0
  have u1 : W.cell? ⟨g11, 1, none⟩ = some (.int .i64 f.n) := o11.facts.1 1
  have u2 : W.cell? ⟨g11, 2, none⟩ = some (.slice a3 f.inn.length c3) := o11.facts.1 2
  have u3 : W.cell? ⟨g11, 3, none⟩ = some (.slice a4 f.kids.length c4) := o11.facts.1 3
  have ul := o11.lt
  have y0 : W.cell? ⟨g12, 0, none⟩ = some (.int .i64 g.op) := o12.facts.1 0
  have y1 : W.cell? ⟨g12, 1, none⟩ = some (.int .i64 g.n) := o12.facts.1 1
  have y2 : W.cell? ⟨g12, 2, none⟩ = some (.slice b3 g.inn.length d3) := o12.facts.1 2
  have y3 : W.cell? ⟨g12, 3, none⟩ = some (.slice b4 g.kids.length d4) := o12.facts.1 3
  have yl := o12.lt
  (refine wp_region_I 10 (by kernel_rfl) (by kernel_rfl) ?_; simp only [List.toList_toArray, List.take_succ_cons, List.take_zero, List.drop_succ_cons, List.drop_zero])
  iterate 7 (refine wiA rfl (by simp) rfl ?_; (try simp only [List.nil_append, List.cons_append]))
  (refine walkI_step ((fun v w' => ∃ h, FmIs h (ph w') v ∧ h.bulk ≤ 2 * g.bulk + 100)) rfl (by simp) rfl ((fun v w w' _ ⟨h, k1, k2⟩ e => ⟨h, k1.mono e.ple, k2⟩)) ?_ ?_; (focus (intro A w' hS hA K hK; (simp only [List.map_cons, List.map_nil, knows, Is, Op.operands, Call.operands, List.lookup_cons, List.lookup_nil, Nat.reduceBEq, Bool.false_eq_true, if_false, if_true, Act.eval, Array.getD_eq_getD_getElem?, List.getElem?_toArray, List.getElem?_cons_succ, List.getElem?_cons_zero, Option.getD_some, and_true, true_and, List.append_toArray, List.nil_append, List.cons_append, List.toList_toArray, Array.toList_append, Option.toArray, List.append_nil] at hA); (go_simp; refine (spoilt_S g _ how at' (by'.tdiv 3) _ ⟨b3, d3, b4, d4, rfl, mono_FmR _ _ _ _ hS.ple hG⟩ i2 i1 j1 (by omega)).mono ?_; rintro e w9 ⟨u, h, rfl, hx9, hu, hb9⟩; exact hK _ _ hx9 ⟨h, hu, hb9⟩))); (try simp only [List.nil_append, List.cons_append]))
  (refine walkI_step ((fun v w' => ∃ h, (FmsR (ph w') v [f, g, h] ∧ ∃ b, v = .slice (some ⟨b, 0, none⟩) 3 3) ∧ h.bulk ≤ 2 * g.bulk + 100)) rfl (by simp) rfl ((fun v w w' _ ⟨h, k1, k2⟩ e => ⟨h, ⟨k1.1.mono mono_FmR e.ple, k1.2⟩, k2⟩)) ?_ ?_; (focus (intro A w' hS hA K hK; (simp only [List.map_cons, List.map_nil, knows, Is, Op.operands, Call.operands, List.lookup_cons, List.lookup_nil, Nat.reduceBEq, Bool.false_eq_true, if_false, if_true, Act.eval, Array.getD_eq_getD_getElem?, List.getElem?_toArray, List.getElem?_cons_succ, List.getElem?_cons_zero, Option.getD_some, and_true, true_and, List.append_toArray, List.nil_append, List.cons_append, List.toList_toArray, Array.toList_append, Option.toArray, List.append_nil] at hA); (obtain ⟨hA1, hA2, h, ⟨p3, q3, p4, q4, hA3, hA4⟩, hA5⟩ := hA; go_simp; exact hK _ _ (Ext.new _ _) ⟨h, ⟨litN (w := w') [⟨f, a3, c3, a4, c4, mono_FmR _ _ _ _ hS.ple hF⟩, ⟨g, b3, d3, b4, d4, mono_FmR _ _ _ _ hS.ple hG⟩, ⟨h, p3, q3, p4, q4, hA4⟩] (by simp), _, rfl⟩, hA5⟩))); (try simp only [List.nil_append, List.cons_append]))
  (refine walkI_step ((fun v w' => ∃ h, (FmsR (ph w') v [f, g, h] ∧ ∃ b, v = .slice (some ⟨b, 0, none⟩) 3 3) ∧ h.bulk ≤ 2 * g.bulk + 100)) rfl (by simp) rfl ((fun v w w' _ ⟨h, k1, k2⟩ e => ⟨h, ⟨k1.1.mono mono_FmR e.ple, k1.2⟩, k2⟩)) ?_ ?_; (focus (intro A w' hS hA K hK; (simp only [List.map_cons, List.map_nil, knows, Is, Op.operands, Call.operands, List.lookup_cons, List.lookup_nil, Nat.reduceBEq, Bool.false_eq_true, if_false, if_true, Act.eval, Array.getD_eq_getD_getElem?, List.getElem?_toArray, List.getElem?_cons_succ, List.getElem?_cons_zero, Option.getD_some, and_true, true_and, List.append_toArray, List.nil_append, List.cons_append, List.toList_toArray, Array.toList_append, Option.toArray, List.append_nil] at hA); (go_simp; exact hK _ _ (Ext.rfl' _) hA))); (try simp only [List.nil_append, List.cons_append]))
  (refine walkI_nil ?_; simp only [List.nil_append, List.cons_append, fins, Is, forall_eq, Act.put, List.setIfInBounds_toArray, List.set_cons_zero, List.set_cons_succ])
  rintro W4 hx4 v28 - v29 - v10 ⟨h, hL, hb4⟩
  go_wp2_with fail
  refine bodyPost_ret (v := v10) (by simp [results, Tryz.results10, go_sem]) rfl ?_
  exact ⟨v10, f, g, h, rfl, hx.then hx4, hL, hv, hw, by omega, by omega⟩
end Go.Proofs.YtbpilielamjnoaaGreat
namespace Go.Proofs.YtbpilielamjnoaaGreat
open Go.RowKit
section
variable {α : Type} {E : PH → List Value → α → Prop} {sz : Nat} {H : PH} {w : World}
theorem run_append_F {P : Program} (t ty e : TypeId) (i : TypeInfo) (z : Value) (bytes : Nat)
    (ht : P.underlying t = some (.slice e)) (hi : P.info? e = some i) (hz : i.zero = some z) (hsz : i.size = sz) (hby : i.bytes = bytes) (hzs : z.cells.size = sz)
    {a : Option Addr} {n : Nat} {vx : Value} {xs ys : List α} (hn : n = xs.length) (hxs : Src w H E sz (.slice a n n) xs) (hne : xs ≠ []) (hsrc : Src w H E sz vx ys) (hyn : ys ≠ []) (hl : PLe H (ph w))
    (hbytes : (xs.length + ys.length) * bytes ≤ 140737488355328) (hcnt : xs.length + ys.length ≤ 140737488355328) :
    ∃ v' w', (Builtin.append_ #[t, t] ty #[.slice a n n, vx]).run P w = .ok v' w' ∧ OwnS w.heap.size H w' E sz e v' (xs ++ ys) ∧ Ext w w' := by
  subst hsz; subst hby; subst hn
  obtain ⟨a1, cap1, he1, hc1, hsx⟩ := hxs
  injection he1 with e1 e2 e3
  subst e1; subst e3
  obtain ⟨a2, cap2, rfl, hc2, hsy⟩ := hsrc
  rcases hsx with h | ⟨ad, olds, rfl, hold, hcold⟩
  · exact absurd h hne
  rcases hsy with h | ⟨ad2, news, rfl, hnews, hcell⟩
  · exact absurd h hyn
  have hlen := hnews.length
  have hol := hold.length
  have hpos : 0 < ys.length := List.length_pos_iff.2 hyn
  have hfresh : H w.heap.size = none := by
    cases hx : H w.heap.size with
    | none => rfl
    | some o => exact absurd (ph_lt (hl _ _ hx)) (by omega)
  have hr := run_append_grow (P := P) w t ty e i z ht hi hz ad xs.length xs.length olds hol hcold ad2 ys.length cap2 news hlen hcell (by omega) (by omega) (growslice_fits (by omega) hbytes)
  have hg1 := grownCap_ge w (xs.length + ys.length) xs.length e
  have hg2 := grownCap_le_maxLen w (xs.length + ys.length) xs.length e (by simp only [maxLen]; omega)
  generalize grownCap w (xs.length + ys.length) xs.length e = gc at *
  refine ⟨_, _, hr, .inr ⟨w.heap.size, gc, _, by simp, Nat.le_refl _, hfresh, heap_alloc_new w.drew _, by simpa using hg1, hg2, ?_, ?_⟩, (Ext.rfl' w).drew'.alloc' _⟩
  · simp only [Array.size_append, List.size_toArray, size_zeroCells, hzs, hol, hlen, ← Nat.add_mul]
    congr 1
    omega
  · have : ∀ Z : Array Value, (olds.toArray ++ news.toArray ++ Z).toList.take ((xs ++ ys).length * i.size) = olds ++ news := by
      intro Z
      simp only [Array.toList_append]
      rw [List.length_append, Nat.add_mul, ← hol, ← hlen, ← List.length_append]
      exact List.take_left
    rw [this]
    exact hold.append hnews
def Late (hm : Mono E) (sz : Nat) (T : TypeId) (W : World) (v : Value) (xs : List α) (w : World) : Prop :=
  (Ext W w ∧ xs ≠ [] ∧ (∃ a, v = .slice a xs.length xs.length) ∧ SliceRep E sz (ph W) v xs) ∨ Mem W noH [own hm sz T v xs] noH w
variable {hm : Mono E} {T : TypeId} {W : World} {v : Value} {xs ys : List α} {w' : World}
theorem Late.ex (h : Late hm sz T W v xs w) : Ext W w := by
  rcases h with h | h
  · exact h.1
  · exact h.ex
theorem Late.ext (h : Late hm sz T W v xs w) (e : Ext w w') : Late hm sz T W v xs w' := by
  rcases h with ⟨h1, h2⟩ | h
  · exact .inl ⟨h1.then e, h2⟩
  · exact .inr (h.ext e)
theorem Late.form (h : Late hm sz T W v xs w) : ∃ a cap, v = .slice a xs.length cap := by
  rcases h with ⟨-, -, ⟨a, h⟩, -⟩ | h
  · exact ⟨a, _, h⟩
  · obtain ⟨a, c, h, -⟩ := h.form 0 rfl
    exact ⟨a, c, h⟩
theorem Late.rep (h : Late hm sz T W v xs w) : SliceRep E sz (ph w) v xs := by
  rcases h with ⟨h1, -, -, h⟩ | h
  · exact h.mono hm h1.ple
  · exact h.rep 0 rfl
theorem Late.start (h : SliceRep E sz (ph W) v xs) (hf : ∃ a, v = .slice a xs.length xs.length) (hne : xs ≠ []) : Late hm sz T W v xs W := .inl ⟨Ext.rfl' _, hne, hf, h⟩
end
end Go.Proofs.YtbpilielamjnoaaGreat
namespace Go.Proofs.YtbpilielamjnoaaGreat
open Go.RowKit Go.Shelf
theorem wpList_append_F {α : Type} {E : PH → List Value → α → Prop} {sz : Nat} {T : TypeId} {xs ys : List α} {w : World} {P : Program} {ops : Array Oper} {rest : List Oper} {o : Oper} {a : Act} {Q : Exit → Act → World → Prop} (hm : Mono E) (hgd : o.guard = none) (s x : Operand) (t : TypeId)
    (ho : o.op = .call { callee := .builtin .append, args := #[s, x], argTypes := #[t, t] }) {z : Value} {bytes : Nat}
    (ht : P.underlying t = some (.slice T)) (hinfo : (P.info? T).map (fun i => (i.zero, i.size, i.bytes)) = some (some z, sz, bytes)) (hzs : z.cells.size = sz)
    {b : Option Addr} {n : Nat} {vx : Value} (hs : a.eval s = .slice b n n) (hx : a.eval x = vx) (hn : n = xs.length) (hr : SliceRep E sz (ph w) (.slice b n n) xs) (hry : SliceRep E sz (ph w) vx ys) (hne : xs ≠ []) (hyn : ys ≠ [])
    (hbytes : (xs.length + ys.length) * bytes ≤ 140737488355328) (hcnt : xs.length + ys.length ≤ 140737488355328)
    (h : ∀ v' w', Ext w w' → SliceRep E sz (ph w') v' (xs ++ ys) → wpList P ops Q rest (a.put o.dst v') w') : wpList P ops Q (o :: rest) a w := by
  obtain ⟨i, hi, hz0, hz1, hz2⟩ := info_parts hinfo
  obtain ⟨v', w', hrun, h5, h6⟩ := run_append_F (P := P) (w := w) (H := ph w) t o.type T i z bytes ht hi hz0 hz1 hz2 hzs hn (Src.ofRep hr (PLe.refl _)) hne (Src.ofRep hry (PLe.refl _)) hyn (PLe.refl _) hbytes hcnt
  refine wpList_plain hgd fun _ hK => ?_
  unfold Oper.wp execOp
  simp only [ho, resolve, invoke, builtin, Sem.run_bind, Sem.run_pure, Result.andThen_ok, List.map_toArray, List.map_cons, List.map_nil, hs, hx, hrun]
  exact hK _ _ (h v' w' h6 (h5.rep hm h6.ple))
end Go.Proofs.YtbpilielamjnoaaGreat
