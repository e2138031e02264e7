/- wire.Reader: its methods take bytes from the reader's own slice. -/
import Derived.Test.YtebhdjeognpljaaWriter
import Derived.Laws.Bits64
import Derived.Laws.Bits64b
namespace Go.Proofs.Ytebhdjeognpljaa
open Go.RowKit
set_option linter.unusedSimpArgs false
set_option linter.unusedVariables false
/-- the heap without block g -/
def phX (g : Nat) (w : World) : PH := fun k => if k = g then none else w.heap[k]?
theorem phX_ple (g : Nat) (w : World) : PLe (phX g w) (ph w) := by
  intro k o h
  unfold phX at h
  split at h
  · cases h
  · exact h
theorem phX_mono {g : Nat} {w w' : World} (e : ExtW w w' g none) : PLe (phX g w) (phX g w') := by
  intro k o h
  unfold phX at *
  split at h
  · cases h
  · rename_i hk
    rw [if_neg hk, e.block k (Array.getElem?_eq_some_iff.1 h).1 hk (by simp)]; exact h
/-- what a reader has left; none: it has failed -/
abbrev RS := Option (List UInt8)
/-- block g is a reader in state s -/
def Rd (H : PH) (w : World) (g : Nat) (s : RS) : Prop :=
  ∃ a n c e l, Own w g #[.slice a n c, .int .i64 e] 92 ∧ BytesR H (.slice a n c) l ∧ PLe H (phX g w) ∧ (s = some l ∧ e = 0 ∨ s = none ∧ e ≠ 0)
theorem Rd.keep {H : PH} {w w' : World} {g : Nat} {s : RS} (h : Rd H w g s) (e : Ext w w') : Rd H w' g s := by
  obtain ⟨a, n, c, er, l, h1, h2, h3, h4⟩ := h
  exact ⟨a, n, c, er, l, h1.keep e, h2, h3.trans (phX_mono (e.toW g none)), h4⟩
theorem Rd.lt {H : PH} {w : World} {g : Nat} {s : RS} (h : Rd H w g s) : g < w.heap.size := by
  obtain ⟨a, n, c, er, l, h1, -⟩ := h
  exact h1.lt
/-- a call on the reader gives v, and the reader is in state s -/
def RdP (H : PH) (w : World) (g : Nat) (v : Value) (s : RS) (e : Ending) (w' : World) : Prop := e = .returned v ∧ Rd H w' g s ∧ ExtW w w' g none
theorem ExtW.set {w w' : World} {g : Nat} (h : ExtW w w' g none) (j : Nat) (v : Value) : ExtW w (w'.setCell ⟨g, j, none⟩ v) g none :=
  ⟨h.os, h.tape, h.output, by simpa using h.size, fun k hk hg hr => by
    rw [Below.heap_setCell _ _ _ _ hg]; exact h.block k hk hg hr⟩
theorem BytesR.tail {H : PH} {a : Option Addr} {n c : Nat} {x : UInt8} {l : List UInt8} (h : BytesR H (.slice a n c) (x :: l)) : ∃ b o, a = some ⟨b, o, none⟩ ∧ n = l.length + 1 ∧ cellAt H b o = some (.int .u8 x.toNat) ∧ n ≤ c ∧ c ≤ maxLen ∧
    ∀ a' , (a' = some ⟨b, o + 1, none⟩ ∨ l = []) → BytesR H (.slice a' l.length (c - 1)) l := by
  obtain ⟨a0, cap, h1, h2, h3, h4⟩ := h
  cases h1
  rcases h4 with h4 | ⟨b, o, rfl, h4, h5⟩
  · cases h4
  · obtain ⟨cs, h6, h7, h8⟩ := h4
    refine ⟨b, o, rfl, rfl, ?_, h2, h3, fun a' ha' => ⟨a', c - 1, rfl, by simp at h2; omega, by omega, ?_⟩⟩
    · have := h7 0 (by omega)
      cases h8
      simpa using this
    · rcases ha' with rfl | rfl
      · exact .inr ⟨b, o + 1, rfl, h5⟩
      · exact .inl rfl
def failS : RS → RS := fun _ => none
theorem fail_c {H : PH} (g : Nat) (s : RS) (e0 : Int) (w : World) (h : Rd H w g s) (he : e0 ≠ 0) :
    Calls Try.prog 83 #[.pointer (some ⟨g, 0, none⟩), .int .i64 e0] w fun e w' => (∃ v, e = .returned v) ∧ Rd H w' g none ∧ ExtW w w' g none := by
  obtain ⟨a, n, c, er, l, hO, hB, hP, hs⟩ := h
  obtain ⟨hoc, hof⟩ := hO.facts
  have h0 := hoc 0
  have h1 := hoc 1
  have hf0 := hof 0
  have hf1 := hof 1
  simp at h0 h1
  clear hoc hof
  go_enter Try.func83, Try.ntmps83
  rcases hs with ⟨rfl, rfl⟩ | ⟨rfl, hne⟩
  · go_wp2_with fail
    go_end0
    exact ⟨⟨_, rfl⟩, ⟨a, n, c, e0, l, by simpa using hO.set 1 (.int .i64 e0), hB, hP.trans (phX_mono ((ExtW.rfl' w g none).set 1 _)), .inr ⟨rfl, he⟩⟩, (ExtW.rfl' w g none).set 1 _⟩
  · have hne' : (er == 0) = false := by simpa using hne
    go_wp2_with fail
    go_end0
    exact ⟨⟨_, rfl⟩, ⟨a, n, c, er, l, hO, hB, hP, .inr ⟨rfl, hne⟩⟩, ExtW.rfl' w g none⟩
/-- the next byte -/
def nextS : RS → Nat × RS
  | some (x :: l) => (x.toNat, some l)
  | _ => (0, none)
theorem next_c {H : PH} (g : Nat) (s : RS) (w : World) (h : Rd H w g s) :
    Calls Try.prog 61 #[.pointer (some ⟨g, 0, none⟩)] w (RdP H w g (.int .u8 (nextS s).1) (nextS s).2) := by
  have hall := Lib.hid h
  obtain ⟨a, n, c, er, l, hO, hB, hP, hs⟩ := h
  have hX := ExtW.rfl' w g none
  obtain ⟨hoc, hof⟩ := hO.facts
  have h0 := hoc 0
  have h1 := hoc 1
  have hf0 := hof 0
  have hf1 := hof 1
  simp at h0 h1
  clear hoc hof
  have hn : n = l.length := by obtain ⟨a', c', e, -⟩ := hB; cases e; rfl
  subst hn
  have hln : l.length ≤ 9223372036854775807 := by obtain ⟨a', c', e, h3, -⟩ := hB.form; exact h3
  go_enter Try.func61, Try.ntmps61
  cases l with
  | nil =>
    have hS : nextS s = (0, none) := by
      rcases hs with ⟨rfl, -⟩ | ⟨rfl, -⟩ <;> rfl
    rw [hS]
    go_wp2_with fail
    refine (fail_c g s 3 _ hall.out (by omega)).mono ?_
    rintro e w1 ⟨⟨v, rfl⟩, hR, hX1⟩
    obtain ⟨a', n', c', er', l', hO', hB', hP', ⟨h, -⟩ | ⟨-, hne⟩⟩ := hR
    · cases h
    obtain ⟨hoc, hof⟩ := hO'.facts
    have h1' := hoc 1
    have hf1' := hof 1
    simp at h1'
    clear hoc hof
    have hne' : (er' == 0) = false := by simpa using hne
    go_wp2_with fail
    go_ret
    exact ⟨rfl, ⟨a', n', c', er', l', hO', hB', hP', .inr ⟨rfl, hne⟩⟩, hX1⟩
  | cons x l =>
    rcases hs with ⟨rfl, rfl⟩ | ⟨rfl, hne⟩
    · obtain ⟨b, o, rfl, -, hx, hc1, hc2, htl⟩ := hB.tail
      have hbx : w.cell? ⟨b, o, none⟩ = some (.int .u8 x.toNat) := by rw [cell_ph]; exact cellAt_mono (hP.trans (phX_ple g w)) hx
      by_cases hc : c = 1
      · subst hc
        have hl0 : l = [] := by cases l with | nil => rfl | cons y l => simp at hc1
        subst hl0
        go_wp2_with fail
        go_ret
        refine ⟨rfl, ⟨_, _, _, 0, [], by simpa using hO.set 0 (.slice (some ⟨b, o, none⟩) 0 0), ?_, hP.trans (phX_mono (hX.set 0 _)), .inl ⟨rfl, rfl⟩⟩, hX.set 0 _⟩
        exact htl (some ⟨b, o, none⟩) (by simp)
      · go_wp2_with fail
        go_ret
        refine ⟨rfl, ⟨_, _, _, 0, l, by simpa using hO.set 0 (.slice (some ⟨b, o + 1, none⟩) l.length (c - 1)), ?_, hP.trans (phX_mono (hX.set 0 _)), .inl ⟨rfl, rfl⟩⟩, hX.set 0 _⟩
        exact htl (some ⟨b, o + 1, none⟩) (.inl rfl)
    · have hS : nextS none = (0, none) := rfl
      rw [hS]
      have hne' : (er == 0) = false := by simpa using hne
      go_wp2_with fail
      go_ret
      exact ⟨rfl, ⟨a, _, c, er, _, hO, hB, hP, .inr ⟨rfl, hne⟩⟩, hX⟩
end Go.Proofs.Ytebhdjeognpljaa
