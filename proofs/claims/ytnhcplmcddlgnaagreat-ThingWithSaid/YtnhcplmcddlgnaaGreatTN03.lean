/- The memory of a call under way: boxes and slices of its own that it may still write (chunks), what is read and stands (H), and nothing old changed.; More on the memory of a call: a slice that a call has made.; Mem across the steps of a range over a function.; wire.Writer: its methods add bytes to the writer's own buffer.; the encodings of numbers and lists tell them apart.; priorartref02: Uint, Zigzag, Int, Ints: the bytes of numbers.; wire.Reader: its methods take bytes from the reader's own slice.; wire.Reader: Uint, Int.; wire.Reader: what Uint reads; Int.; wire.Reader: lists.; wire.Read.; what is read of ints and lists of them.; The memory of a call under way, where a reader (block g) changes.; The memory of a call under way, and a reader: an append of one's own; the chain of three reads of a value.; bytes of one's own, whatever they are; slices of bytes as strings.; thing.keyOf.; thing.write and thing.Encode. -/
import Derived.Lib.Zigzag
import Derived.Lib.SliceRun
import Derived.Lib.VarintDec
import Derived.Laws.Bits64
import Derived.Laws.Bits64b
import Derived.Lib.SlBytesRow
import Derived.Lib.BufferRead
import Derived.Test.YtnhcplmcddlgnaaGreatTN00
import Derived.Test.YtnhcplmcddlgnaaGreatTN01
import Derived.Test.YtnhcplmcddlgnaaGreatTN02
namespace Go.Proofs.YtnhcplmcddlgnaaGreat
open Go.RowKit
set_option linter.unusedSimpArgs false
set_option linter.unusedVariables false
structure Chunk where
  foot : Option Nat
  ok : PH → World → Prop
  lt : ∀ {H w k}, ok H w → foot = some k → k < w.heap.size
  loc : ∀ {H w w'}, ok H w → (∀ k, foot = some k → w'.heap[k]? = w.heap[k]?) → ok H w'
  mono : ∀ {H H' w}, ok H w → PLe H H' → ok H' w
/-- a block of just these cells -/
def box (b : Nat) (c : Array Value) (T : TypeId) : Chunk where
  foot := some b
  ok := fun _ w => Own w b c T
  lt := fun h e => by cases e; exact h.lt
  loc := fun h e => by unfold Own at *; rw [e b rfl]; exact h
  mono := fun h _ => h
def OwnC {α : Type} (H : PH) (w : World) (E : PH → List Value → α → Prop) (sz : Nat) (T : TypeId) (v : Value) (xs : List α) : Prop :=
  (v = .slice none 0 0 ∧ xs = []) ∨
  ∃ g cap cur, v = .slice (some ⟨g, 0, none⟩) xs.length cap ∧ w.heap[g]? = some (.cells cur T (0, 0)) ∧ xs.length ≤ cap ∧ cap ≤ maxLen ∧ cur.size = cap * sz ∧ Cells H E sz (cur.toList.take (xs.length * sz)) xs
/-- a slice whole in a block of its own, or nil -/
def own {α : Type} {E : PH → List Value → α → Prop} (hm : Mono E) (sz : Nat) (T : TypeId) (v : Value) (xs : List α) : Chunk where
  foot := v.ownBlock
  ok := fun H w => OwnC H w E sz T v xs
  lt := fun h e => by
    rcases h with ⟨rfl, _⟩ | ⟨g, cap, cur, rfl, h1, _⟩
    · cases e
    · cases e; exact (Array.getElem?_eq_some_iff.1 h1).1
  loc := fun h e => by
    rcases h with h | ⟨g, cap, cur, rfl, h1, h2⟩
    · exact .inl h
    · exact .inr ⟨g, cap, cur, rfl, by rw [e g rfl]; exact h1, h2⟩
  mono := fun h hl => by
    rcases h with h | ⟨g, cap, cur, rfl, h1, h2, h3, h4, h5⟩
    · exact .inl h
    · exact .inr ⟨g, cap, cur, rfl, h1, h2, h3, h4, h5.mono fun _ _ => hm _ _ _ _ hl⟩
def nop : Chunk := ⟨none, fun _ _ => True, fun _ e => (by cases e), fun _ _ => trivial, fun _ _ => trivial⟩
structure Mem (w0 : World) (H0 : PH) (L : List Chunk) (H : PH) (w : World) : Prop where
  l0 : PLe H0 (ph w0)
  le : PLe H0 H
  ub : PLe H (up H0 w0 w)
  ex : Ext w0 w
  ok : ∀ (i : Nat) (c : Chunk), L[i]? = some c → c.ok H w
  fr : ∀ (i : Nat) (c : Chunk), L[i]? = some c → ∀ k, c.foot = some k → w0.heap.size ≤ k ∧ H k = none
  ap : ∀ (i j : Nat) (c d : Chunk), i ≠ j → L[i]? = some c → L[j]? = some d → ∀ k, c.foot = some k → d.foot ≠ some k
theorem up_sub {H : PH} {w w1 w' : World} (h : PLe H (ph w)) (e : Ext w w1) : PLe (up H w1 w') (up H w w') := by
  intro k o hk
  unfold up at *
  have := e.size
  split at hk
  · have h1 := ph_lt (h k o hk); rw [if_pos h1]; exact hk
  · rw [if_neg (by omega)]; exact hk
theorem Cells.get {α : Type} {E : PH → List Value → α → Prop} {H : PH} {sz : Nat} : ∀ {xs : List α} {c : List Value} (k : Nat) (h : k < xs.length), Cells H E sz c xs → ∃ cs, cs.length = sz ∧ (∀ j, j < sz → c[k * sz + j]? = some (cs.getD j undef)) ∧ E H cs xs[k]
  | [], _, k, hk, _ => by simp at hk
  | y :: ys, c, 0, _, hc => by
    obtain ⟨cs, rest, rfl, h1, h2, h3⟩ := hc
    exact ⟨cs, h1, fun j hj => by rw [Nat.zero_mul, Nat.zero_add, List.getElem?_append_left (by omega)]; simp [List.getD_eq_getElem?_getD, show j < cs.length by omega], h2⟩
  | y :: ys, c, k + 1, hk, hc => by
    obtain ⟨cs, rest, rfl, h1, h2, h3⟩ := hc
    obtain ⟨ds, g1, g2, g3⟩ := Cells.get k (by simpa using hk) h3
    refine ⟨ds, g1, fun j hj => ?_, g3⟩
    rw [List.getElem?_append_right (by rw [Nat.add_mul]; omega), ← g2 j hj]
    congr 1; rw [Nat.add_mul]; omega
theorem Cells.set1 {α : Type} {E : PH → List Value → α → Prop} {H : PH} {u : Value} {x : α} (hx : E H [u] x) : ∀ {xs : List α} {c : List Value} (k : Nat), k < xs.length → Cells H E 1 c xs → Cells H E 1 (c.set k u) (xs.set k x)
  | [], _, k, hk, _ => by simp at hk
  | y :: ys, c, 0, _, hc => by
    obtain ⟨cs, rest, rfl, h1, h2, h3⟩ := hc
    match cs, h1 with
    | [a], _ => exact ⟨[u], rest, rfl, rfl, hx, h3⟩
  | y :: ys, c, k + 1, hk, hc => by
    obtain ⟨cs, rest, rfl, h1, h2, h3⟩ := hc
    match cs, h1 with
    | [a], _ => exact ⟨[a], rest.set k u, rfl, rfl, h2, Cells.set1 hx k (by simpa using hk) h3⟩
theorem Cells.set3 {α : Type} {E : PH → List Value → α → Prop} {H : PH} {u v t : Value} {x : α} (hx : E H [u, v, t] x) : ∀ {xs : List α} {c : List Value} (k : Nat), k < xs.length → Cells H E 3 c xs → Cells H E 3 (((c.set (k * 3) u).set (k * 3 + 1) v).set (k * 3 + 2) t) (xs.set k x)
  | [], _, k, hk, _ => by simp at hk
  | y :: ys, c, 0, _, hc => by
    obtain ⟨cs, rest, rfl, h1, h2, h3⟩ := hc
    match cs, h1 with
    | [a, b, d], _ => exact ⟨[u, v, t], rest, rfl, rfl, hx, h3⟩
  | y :: ys, c, k + 1, hk, hc => by
    obtain ⟨cs, rest, rfl, h1, h2, h3⟩ := hc
    match cs, h1 with
    | [a, b, d], _ =>
      refine ⟨[a, b, d], ((rest.set (k * 3) u).set (k * 3 + 1) v).set (k * 3 + 2) t, ?_, rfl, h2, Cells.set3 hx k (by simpa using hk) h3⟩
      have e1 : (k + 1) * 3 = k * 3 + 1 + 1 + 1 := by omega
      have e2 : (k + 1) * 3 + 1 = k * 3 + 1 + 1 + 1 + 1 := by omega
      have e3 : (k + 1) * 3 + 2 = k * 3 + 2 + 1 + 1 + 1 := by omega
      rw [e2, e3, e1]
      rfl
section
variable {w0 w w' : World} {H0 H : PH} {L : List Chunk}
theorem Mem.start (w : World) (H : PH) (h : PLe H (ph w)) : Mem w H [] H w :=
  ⟨h, PLe.refl _, ple_up h, Ext.rfl' w, by simp, by simp, by simp⟩
theorem Mem.ple (h : Mem w0 H0 L H w) : PLe H (ph w) := h.ub.trans (up_ple h.l0 h.ex)
theorem Mem.lt (h : Mem w0 H0 L H w) {i : Nat} {c : Chunk} (hi : L[i]? = some c) {k : Nat} (hk : c.foot = some k) : k < w.heap.size := c.lt (h.ok i c hi) hk
/-- a call that returns nothing of memory; a new block that nobody writes -/
theorem Mem.ext (h : Mem w0 H0 L H w) (e : Ext w w') : Mem w0 H0 L H w' :=
  ⟨h.l0, h.le, h.ub.trans (up_then h.ex e), h.ex.then e, fun i c hi => c.loc (h.ok i c hi) fun k hk => e.block k (h.lt hi hk), h.fr, h.ap⟩
/-- all that a call has made joins what is read -/
theorem Mem.up (h : Mem w0 H0 L H w) (e : Ext w w') : Mem w0 H0 L (up H w w') w' := by
  have hl : PLe H (Proofs.YtnhcplmcddlgnaaGreat.up H w w') := ple_up h.ple
  exact ⟨h.l0, h.le.trans hl, (up_mono h.ub).trans (up_up h.ex e), h.ex.then e, fun i c hi => c.mono (c.loc (h.ok i c hi) fun k hk => e.block k (h.lt hi hk)) hl,
    fun i c hi k hk => ⟨(h.fr i c hi k hk).1, up_none (h.fr i c hi k hk).2 (h.lt hi hk)⟩, h.ap⟩
theorem getElem?_snoc {α : Type} {l : List α} {x y : α} {i : Nat} (h : (l ++ [x])[i]? = some y) : l[i]? = some y ∨ i = l.length ∧ x = y := by
  rcases Nat.lt_trichotomy i l.length with hi | hi | hi
  · rw [List.getElem?_append_left hi] at h; exact .inl h
  · subst hi; simp at h; exact .inr ⟨rfl, h⟩
  · rw [List.getElem?_append_right (by omega), List.getElem?_eq_none (by simp; omega)] at h; cases h
/-- a chunk more -/
theorem Mem.add (h : Mem w0 H0 L H w) (c : Chunk) (hc : c.ok H w) (hf : ∀ k, c.foot = some k → w0.heap.size ≤ k ∧ H k = none ∧ ∀ (i : Nat) (d : Chunk), L[i]? = some d → d.foot ≠ some k) : Mem w0 H0 (L ++ [c]) H w := by
  refine ⟨h.l0, h.le, h.ub, h.ex, fun i d hi => ?_, fun i d hi k hk => ?_, fun i j d e hij hi hj k hk he => ?_⟩
  · rcases getElem?_snoc hi with hi | ⟨-, rfl⟩
    · exact h.ok i d hi
    · exact hc
  · rcases getElem?_snoc hi with hi | ⟨-, rfl⟩
    · exact h.fr i d hi k hk
    · exact ⟨(hf k hk).1, (hf k hk).2.1⟩
  · rcases getElem?_snoc hi with h1 | ⟨h1, rfl⟩
    · rcases getElem?_snoc hj with h2 | ⟨h2, rfl⟩
      · exact h.ap i j d e hij h1 h2 k hk he
      · exact (hf k he).2.2 i d h1 hk
    · rcases getElem?_snoc hj with h2 | ⟨h2, rfl⟩
      · exact (hf k hk).2.2 j e h2 he
      · exact hij (h1.trans h2.symm)
theorem fresh_none (h : PLe H (ph w)) {k : Nat} (hk : w.heap.size ≤ k) : H k = none := by
  cases hx : H k with
  | none => rfl
  | some o => exact absurd (ph_lt (h _ _ hx)) (by omega)
/-- a new block of one's own -/
theorem Mem.new (h : Mem w0 H0 L H w) (c : Array Value) (T : TypeId) : Mem w0 H0 (L ++ [box w.heap.size c T]) H (w.alloc (.cells c T)) := by
  refine (h.ext (Ext.new w _)).add _ (Own.new w c T) fun k hk => ?_
  cases hk
  exact ⟨h.ex.size, fresh_none h.ple (Nat.le_refl _), fun i d hi he => by have := h.lt hi he; omega⟩
theorem Mem.new' (h : Mem w0 H0 L H w) (c : Array Value) (T : TypeId) {n : Nat} (hn : n = w.heap.size) : Mem w0 H0 (L ++ [box n c T]) H (w.alloc (.cells c T)) := by
  subst hn; exact h.new c T
/-- an empty slice -/
theorem Mem.nil (h : Mem w0 H0 L H w) {α : Type} {E : PH → List Value → α → Prop} (hm : Mono E) (sz : Nat) (T : TypeId) : Mem w0 H0 (L ++ [own hm sz T (.slice none 0 0) ([] : List α)]) H w :=
  h.add _ (.inl ⟨rfl, rfl⟩) fun k hk => by cases hk
theorem Mem.put (h : Mem w0 H0 L H w) (i : Nat) {c c' : Chunk} (hi : L[i]? = some c) (hok : c'.ok H w') (hf : ∀ k, c'.foot = some k → c.foot = some k ∨ w.heap.size ≤ k) (he : Ext w0 w')
    (hb : ∀ k, k < w.heap.size → c.foot ≠ some k → w'.heap[k]? = w.heap[k]?) : Mem w0 H0 (L.set i c') H w' := by
  have hil : i < L.length := (List.getElem?_eq_some_iff.1 hi).1
  have get : ∀ {j d}, (L.set i c')[j]? = some d → j = i ∧ d = c' ∨ j ≠ i ∧ L[j]? = some d := by
    intro j d hj
    by_cases hij : i = j
    · subst hij; rw [List.getElem?_set_self hil] at hj; exact .inl ⟨rfl, (Option.some.inj hj).symm⟩
    · rw [List.getElem?_set_ne hij] at hj; exact .inr ⟨Ne.symm hij, hj⟩
  refine ⟨h.l0, h.le, fun k o hk => ?_, he, fun j d hj => ?_, fun j d hj k hk => ?_, fun j l d e hjl hj hl k hk hke => ?_⟩
  · have h1 := h.ub k o hk
    unfold Proofs.YtnhcplmcddlgnaaGreat.up at *
    split
    · rename_i hlt; rw [if_pos hlt] at h1; exact h1
    · rename_i hlt; rw [if_neg hlt] at h1
      show w'.heap[k]? = some o
      rw [hb k (ph_lt h1) fun e => by rw [(h.fr i c hi k e).2] at hk; cases hk]
      exact h1
  · rcases get hj with ⟨-, rfl⟩ | ⟨hji, hj⟩
    · exact hok
    · exact d.loc (h.ok j d hj) fun k hk => hb k (h.lt hj hk) fun e => h.ap i j c d (Ne.symm hji) hi hj k e hk
  · rcases get hj with ⟨-, rfl⟩ | ⟨-, hj⟩
    · rcases hf k hk with h1 | h1
      · exact h.fr i c hi k h1
      · exact ⟨Nat.le_trans h.ex.size h1, fresh_none h.ple h1⟩
    · exact h.fr j d hj k hk
  · rcases get hj with ⟨h1, rfl⟩ | ⟨h1, g1⟩
    · rcases get hl with ⟨h2, rfl⟩ | ⟨h2, g2⟩
      · exact hjl (h1.trans h2.symm)
      · rcases hf k hk with h3 | h3
        · exact h.ap i l c e (Ne.symm h2) hi g2 k h3 hke
        · have := h.lt g2 hke; omega
    · rcases get hl with ⟨h2, rfl⟩ | ⟨h2, g2⟩
      · rcases hf k hke with h3 | h3
        · exact h.ap i j c d (Ne.symm h1) hi g1 k h3 hk
        · have := h.lt g1 hk; omega
      · exact h.ap j l d e hjl g1 g2 k hk hke
/-- a box is written -/
theorem Mem.set (h : Mem w0 H0 L H w) (i : Nat) {b : Nat} {c : Array Value} {T : TypeId} (hi : L[i]? = some (box b c T)) (j : Nat) (v : Value) : Mem w0 H0 (L.set i (box b (c.setIfInBounds j v) T)) H (w.setCell ⟨b, j, none⟩ v) := by
  refine h.put i hi (Own.set (h.ok i _ hi) j v) (fun k hk => .inl hk) (h.ex.set' (h.fr i _ hi b rfl).1 v) fun k hk hne => ?_
  rw [Below.heap_setCell _ _ _ _ (fun e => hne (by rw [e]; rfl))]
/-- some of the chunks, in another order -/
theorem Mem.pick (h : Mem w0 H0 L H w) (idx : List Nat) (hn : idx.Nodup) : Mem w0 H0 (idx.map fun i => (L[i]?).getD nop) H w := by
  have get : ∀ {i : Nat} {c}, (idx.map fun i => (L[i]?).getD nop)[i]? = some c → ∃ j, idx[i]? = some j ∧ (L[j]? = some c ∨ c = nop) := by
    intro i c hi
    rw [List.getElem?_map] at hi
    cases hx : idx[i]? with
    | none => simp [hx] at hi
    | some j =>
      simp only [hx, Option.map_some, Option.some.injEq] at hi
      refine ⟨j, rfl, ?_⟩
      cases hy : L[j]? with
      | none => simp [hy] at hi; exact .inr hi.symm
      | some d => simp [hy] at hi; subst hi; exact .inl rfl
  refine ⟨h.l0, h.le, h.ub, h.ex, fun i c hi => ?_, fun i c hi k hk => ?_, fun i j c d hij hi hj k hk hk' => ?_⟩
  · obtain ⟨j, -, hj | rfl⟩ := get hi
    · exact h.ok j c hj
    · trivial
  · obtain ⟨j, -, hj | rfl⟩ := get hi
    · exact h.fr j c hj k hk
    · cases hk
  · obtain ⟨i', h1, h2 | rfl⟩ := get hi
    · obtain ⟨j', h3, h4 | rfl⟩ := get hj
      · refine h.ap i' j' c d (fun e => ?_) h2 h4 k hk hk'
        subst e
        obtain ⟨hil, h1⟩ := List.getElem?_eq_some_iff.1 h1
        obtain ⟨hjl, h3⟩ := List.getElem?_eq_some_iff.1 h3
        exact hij ((List.getElem_inj hn).1 (h1.trans h3.symm))
      · cases hk'
    · cases hk
/-- a box, in the walk's words -/
theorem Mem.box (h : Mem w0 H0 L H w) (i : Nat) {b : Nat} {c : Array Value} {T : TypeId} (hi : L[i]? = some (box b c T)) : Own w b c T := h.ok i _ hi
section
variable {α : Type} {E : PH → List Value → α → Prop} {hm : Mono E} {sz : Nat} {T : TypeId} {v : Value} {xs ys : List α}
theorem OwnC.form (h : OwnC H w E sz T v xs) : ∃ a cap, v = .slice a xs.length cap ∧ xs.length ≤ 9223372036854775807 := by
  rcases h with ⟨rfl, rfl⟩ | ⟨g, cap, cur, rfl, h1, h2, h3, h4, h5⟩
  · exact ⟨none, 0, rfl, by simp⟩
  · exact ⟨_, cap, rfl, by unfold maxLen at h3; omega⟩
theorem Mem.ownS (h : Mem w0 H0 L H w) (i : Nat) (hi : L[i]? = some (own hm sz T v xs)) : OwnS w0.heap.size H w E sz T v xs := by
  have h1 : OwnC H w E sz T v xs := h.ok i _ hi
  rcases h1 with h1 | ⟨g, cap, cur, rfl, h1, h2, h3, h4, h5⟩
  · exact .inl h1
  · have := h.fr i _ hi g rfl
    exact .inr ⟨g, cap, cur, rfl, this.1, this.2, h1, h2, h3, h4, h5⟩
theorem OwnS.c {base : Nat} (h : OwnS base H w E sz T v xs) : OwnC H w E sz T v xs := by
  rcases h with h | ⟨g, cap, cur, rfl, h1, h2, h3, h4, h5, h6, h7⟩
  · exact .inl h
  · exact .inr ⟨g, cap, cur, rfl, h3, h4, h5, h6, h7⟩
theorem Mem.form (h : Mem w0 H0 L H w) (i : Nat) (hi : L[i]? = some (own hm sz T v xs)) : ∃ a cap, v = .slice a xs.length cap ∧ xs.length ≤ 9223372036854775807 := OwnC.form (h.ok i _ hi)
/-- an own slice, read -/
theorem Mem.rep (h : Mem w0 H0 L H w) (i : Nat) (hi : L[i]? = some (own hm sz T v xs)) : SliceRep E sz (ph w) v xs := (h.ownS i hi).rep hm h.ple
theorem Mem.src (h : Mem w0 H0 L H w) (i : Nat) (hi : L[i]? = some (own hm sz T v xs)) : Src w H E sz v xs := Src.ofOwn (h.ownS i hi)
/-- element k of an own slice -/
theorem Mem.get (h : Mem w0 H0 L H w) (i : Nat) (hi : L[i]? = some (own hm sz T v xs)) (k : Nat) (hk : k < xs.length) : ∃ g cap cs, v = .slice (some ⟨g, 0, none⟩) xs.length cap ∧ cs.length = sz ∧ (∀ j, j < sz → w.cell? ⟨g, k * sz + j, none⟩ = some (cs.getD j undef)) ∧ E H cs xs[k] ∧ g < w.heap.size := by
  have h4 : OwnC H w E sz T v xs := h.ok i _ hi
  rcases h4 with ⟨rfl, rfl⟩ | ⟨g, cap, cur, rfl, k1, k2, k3, k4, k5⟩
  · simp at hk
  · obtain ⟨cs, h1, h2, h3⟩ := k5.get k hk
    refine ⟨g, cap, cs, rfl, h1, fun j hj => ?_, h3, (Array.getElem?_eq_some_iff.1 k1).1⟩
    have := h2 j hj
    rw [List.getElem?_take] at this
    split at this
    · rw [cell_of_row w g _ cur T (0, 0) k1]; simpa using this
    · cases this
/-- what is read goes into a bigger one: box or slice i is written no more -/
theorem Mem.freeze (h : Mem w0 H0 L H w) (i : Nat) {c : Chunk} (hi : L[i]? = some c) : ∃ H', PLe H H' ∧ Mem w0 H0 (L.set i nop) H' w ∧ ∀ k, c.foot = some k → H' k = w.heap[k]? := by
  have hil : i < L.length := (List.getElem?_eq_some_iff.1 hi).1
  have get : ∀ {j d}, (L.set i nop)[j]? = some d → j = i ∧ d = nop ∨ j ≠ i ∧ L[j]? = some d := by
    intro j d hj
    by_cases hij : i = j
    · subst hij; rw [List.getElem?_set_self hil] at hj; exact .inl ⟨rfl, (Option.some.inj hj).symm⟩
    · rw [List.getElem?_set_ne hij] at hj; exact .inr ⟨Ne.symm hij, hj⟩
  refine ⟨fun k => if c.foot = some k then w.heap[k]? else H k, ?_, ?_, fun k hk => by simp [hk]⟩
  · intro k o hk
    show (if c.foot = some k then w.heap[k]? else H k) = some o
    rw [if_neg fun e => by rw [(h.fr i c hi k e).2] at hk; cases hk]
    exact hk
  · have hle : PLe H fun k => if c.foot = some k then w.heap[k]? else H k := by
      intro k o hk
      show (if c.foot = some k then w.heap[k]? else H k) = some o
      rw [if_neg fun e => by rw [(h.fr i c hi k e).2] at hk; cases hk]
      exact hk
    refine ⟨h.l0, h.le.trans hle, fun k o hk => ?_, h.ex, fun j d hj => ?_, fun j d hj k hk => ?_, fun j l d e hjl hj hl k hk hke => ?_⟩
    · split at hk
      · rename_i hf
        unfold Proofs.YtnhcplmcddlgnaaGreat.up
        rw [if_neg (by have := (h.fr i c hi k hf).1; omega)]
        exact hk
      · exact h.ub k o hk
    · rcases get hj with ⟨-, rfl⟩ | ⟨-, hj⟩
      · trivial
      · exact d.mono (h.ok j d hj) hle
    · rcases get hj with ⟨-, rfl⟩ | ⟨hji, hj⟩
      · cases hk
      · refine ⟨(h.fr j d hj k hk).1, ?_⟩
        show (if c.foot = some k then w.heap[k]? else H k) = none
        rw [if_neg fun e => h.ap i j c d (Ne.symm hji) hi hj k e hk]
        exact (h.fr j d hj k hk).2
    · rcases get hj with ⟨h1, rfl⟩ | ⟨h1, hj⟩
      · cases hk
      · rcases get hl with ⟨h2, rfl⟩ | ⟨h2, hl⟩
        · cases hke
        · exact h.ap j l d e hjl hj hl k hk hke
theorem Mem.freezeS (h : Mem w0 H0 L H w) (i : Nat) (hi : L[i]? = some (own hm sz T v xs)) : ∃ H', PLe H H' ∧ Mem w0 H0 (L.set i nop) H' w ∧ SliceRep E sz H' v xs := by
  obtain ⟨H', h1, h2, h3⟩ := h.freeze i hi
  refine ⟨H', h1, h2, ?_⟩
  have h4 : OwnC H w E sz T v xs := h.ok i _ hi
  rcases h4 with ⟨rfl, rfl⟩ | ⟨g, cap, cur, rfl, k1, k2, k3, k4, k5⟩
  · exact SliceRep.nil E sz _
  · refine ⟨_, cap, rfl, k2, k3, .inr ⟨g, 0, rfl, k5.row (fun _ _ => hm _ _ _ _ h1) fun j u hu => ?_⟩⟩
    have : H' g = some (.cells cur T (0, 0)) := by rw [h3 g rfl]; exact k1
    simp only [cellAt, this, Nat.zero_add]
    rw [List.getElem?_take] at hu
    split at hu
    · simpa using hu
    · cases hu
theorem Mem.freezeB (h : Mem w0 H0 L H w) (i : Nat) {b : Nat} {c : Array Value} (hi : L[i]? = some (Proofs.YtnhcplmcddlgnaaGreat.box b c T)) : ∃ H', PLe H H' ∧ Mem w0 H0 (L.set i nop) H' w ∧ ∀ j, cellAt H' b j = c[j]? := by
  obtain ⟨H', h1, h2, h3⟩ := h.freeze i hi
  refine ⟨H', h1, h2, fun j => ?_⟩
  have h4 : Own w b c T := h.ok i _ hi
  have : H' b = some (.cells c T (0, 0)) := by rw [h3 b rfl]; exact h4
  simp [cellAt, this]
/-- handed back -/
theorem Mem.repUp (h : Mem w0 H0 L H w) (i : Nat) (hi : L[i]? = some (own hm sz T v xs)) : SliceRep E sz (Proofs.YtnhcplmcddlgnaaGreat.up H0 w0 w) v xs := by
  have h1 := h.ownS i hi
  rcases h1 with ⟨rfl, rfl⟩ | ⟨g, cap, cur, rfl, h1, h2, h3, h4, h5, h6, h7⟩
  · exact SliceRep.nil E sz _
  · refine ⟨_, cap, rfl, h4, h5, .inr ⟨g, 0, rfl, h7.row (fun _ _ => hm _ _ _ _ h.ub) fun j u hu => ?_⟩⟩
    have : Proofs.YtnhcplmcddlgnaaGreat.up H0 w0 w g = some (.cells cur T (0, 0)) := by unfold Proofs.YtnhcplmcddlgnaaGreat.up; rw [if_neg (by omega)]; exact h3
    simp only [cellAt, this, Nat.zero_add]
    rw [List.getElem?_take] at hu
    split at hu
    · simpa using hu
    · cases hu
/-- a box as a slice of one's own -/
theorem Mem.asOwn (h : Mem w0 H0 L H w) (i : Nat) {g n : Nat} {cur : Array Value} (hi : L[i]? = some (Proofs.YtnhcplmcddlgnaaGreat.box g cur T)) (hm : Mono E) (hn : xs.length ≤ n) (hmx : n ≤ maxLen) (hs : cur.size = n * sz) (hc : Cells H E sz (cur.toList.take (xs.length * sz)) xs) :
    Mem w0 H0 (L.set i (own hm sz T (.slice (some ⟨g, 0, none⟩) xs.length n) xs)) H w :=
  h.put i hi (c' := own hm sz T _ xs) (.inr ⟨g, n, cur, rfl, h.ok i _ hi, hn, hmx, hs, hc⟩) (fun k hk => .inl hk) h.ex fun _ _ _ => rfl
/-- .. and back -/
theorem Mem.asBox (h : Mem w0 H0 L H w) (i : Nat) (hi : L[i]? = some (own hm sz T v xs)) : (v = .slice none 0 0 ∧ xs = []) ∨ ∃ g cap cur, v = .slice (some ⟨g, 0, none⟩) xs.length cap ∧ xs.length ≤ cap ∧ cap ≤ maxLen ∧ cur.size = cap * sz ∧ Cells H E sz (cur.toList.take (xs.length * sz)) xs ∧ Mem w0 H0 (L.set i (Proofs.YtnhcplmcddlgnaaGreat.box g cur T)) H w := by
  have h4 : OwnC H w E sz T v xs := h.ok i _ hi
  rcases h4 with h4 | ⟨g, cap, cur, rfl, k1, k2, k3, k4, k5⟩
  · exact .inl h4
  · exact .inr ⟨g, cap, cur, rfl, k2, k3, k4, k5, h.put i hi (c' := Proofs.YtnhcplmcddlgnaaGreat.box g cur T) k1 (fun k hk => .inl hk) h.ex fun _ _ _ => rfl⟩
/-- the walk's arm at an append -/
theorem wpList_append_M {P : Program} {ops : Array Oper} {rest : List Oper} {o : Oper} {a : Act} {Q : Exit → Act → World → Prop} (i : Nat) (hgd : o.guard = none) (s x : Operand) (t : TypeId)
    (ho : o.op = .call { callee := .builtin .append, args := #[s, x], argTypes := #[t, t] }) {z : Value} {bytes : Nat}
    (ht : P.underlying t = some (.slice T)) (hinfo : (P.info? T).map (fun i => (i.zero, i.size, i.bytes)) = some (some z, sz, bytes)) (hzs : z.cells.size = sz)
    {vx : Value} (hs : a.eval s = v) (hx : a.eval x = vx) (hS : Mem w0 H0 L H w) (hi : L[i]? = some (own hm sz T v xs)) (hsrc : Src w H E sz vx ys)
    (hone : ∀ cs x, E H cs x → ∀ u ∈ cs, u.oneCell' = true) (hbytes : (xs.length + ys.length) * bytes ≤ 140737488355328) (hcnt : xs.length + ys.length ≤ 140737488355328)
    (h : ∀ v' w', Mem w0 H0 (L.set i (own hm sz T v' (xs ++ ys))) H w' → wpList P ops Q rest (a.put o.dst v') w') :
    wpList P ops Q (o :: rest) a w := by
  refine wpList_append_S hgd s x t T ho z bytes ht hinfo hzs hs hx (hS.ownS i hi) hsrc hS.ple hS.ex.size hone hbytes hcnt fun v' w' h1 h2 h3 => h v' w' ?_
  refine hS.put i hi (c' := own hm sz T v' (xs ++ ys)) h1.c h3 (hS.ex.grown h2 fun k hk => (hS.fr i _ hi k hk).1) fun k hk hne => h2.block k hk (fun e => hne e.symm)
end
end
end Go.Proofs.YtnhcplmcddlgnaaGreat
namespace Go.Proofs.YtnhcplmcddlgnaaGreat
open Go.RowKit
set_option linter.unusedSimpArgs false
set_option linter.unusedVariables false
section
variable {w0 w w' : World} {H0 H : PH} {L : List Chunk}
variable {α : Type} {E : PH → List Value → α → Prop} {hm : Mono E} {sz : Nat} {T : TypeId} {v : Value} {xs ys : List α}
/-- a slice that a call has made joins one's own -/
theorem Mem.take (h : Mem w0 H0 L H w) (e : Ext w w') {H' : PH} (ho : OwnS w.heap.size H' w' E sz T v xs) (hm : Mono E) (hl : PLe H' (Proofs.YtnhcplmcddlgnaaGreat.up noH w w')) : ∃ H2, PLe H H2 ∧ PLe H' H2 ∧ Mem w0 H0 (L ++ [own hm sz T v xs]) H2 w' := by
  have hge : ∀ k o, H' k = some o → w.heap.size ≤ k := by
    intro k o hk
    have := hl k o hk
    unfold Proofs.YtnhcplmcddlgnaaGreat.up at this
    split at this
    · cases this
    · omega
  have h1 : PLe H fun k => if k < w.heap.size then H k else H' k := by
    intro k o hk
    show (if k < w.heap.size then H k else H' k) = some o
    rw [if_pos (ph_lt (h.ple k o hk))]; exact hk
  have h2 : PLe H' fun k => if k < w.heap.size then H k else H' k := by
    intro k o hk
    show (if k < w.heap.size then H k else H' k) = some o
    rw [if_neg (by have := hge k o hk; omega)]; exact hk
  refine ⟨_, h1, h2, ?_⟩
  have hM : Mem w0 H0 L (fun k => if k < w.heap.size then H k else H' k) w' := by
    refine ⟨h.l0, h.le.trans h1, fun k o hk => ?_, h.ex.then e, fun i c hi => c.mono (c.loc (h.ok i c hi) fun k hk => e.block k (h.lt hi hk)) h1, fun i c hi k hk => ⟨(h.fr i c hi k hk).1, ?_⟩, h.ap⟩
    · split at hk
      · exact up_then h.ex e k o (h.ub k o hk)
      · have h3 := hl k o hk
        have := h.ex.size
        unfold Proofs.YtnhcplmcddlgnaaGreat.up at h3 ⊢
        rw [if_neg (by omega)] at h3 ⊢
        exact h3
    · show (if k < w.heap.size then H k else H' k) = none
      rw [if_pos (h.lt hi hk)]; exact (h.fr i c hi k hk).2
  refine hM.add _ ?_ fun k hk => ?_
  · have h3 := ho.c
    exact (own hm sz T v xs).mono h3 h2
  · have h3 := ho.lt k hk
    refine ⟨Nat.le_trans h.ex.size h3.1, ?_, fun i d hi he => by have := h.lt hi he; omega⟩
    show (if k < w.heap.size then H k else H' k) = none
    rw [if_neg (by omega)]; exact h3.2.2
end
end Go.Proofs.YtnhcplmcddlgnaaGreat
namespace Go.Proofs.YtnhcplmcddlgnaaGreat
open Go.RowKit Go.Shelf
set_option linter.unusedSimpArgs false
set_option linter.unusedVariables false
section
variable {w0 A B w w' : World} {H0 H : PH} {L : List Chunk}
section
variable {α : Type} {E : PH → List Value → α → Prop} {hm : Mono E} {sz : Nat} {T : TypeId} {v : Value} {xs ys : List α}
end
end
end Go.Proofs.YtnhcplmcddlgnaaGreat
namespace Go.Proofs.YtnhcplmcddlgnaaGreat
open Go.RowKit
set_option linter.unusedSimpArgs false
set_option linter.unusedVariables false
theorem infoByte : (Tryz.prog.info? 5).map (fun i => (i.zero, i.size, i.bytes)) = some (some (.int .u8 0), 1, 1) := by kernel_rfl
theorem one_ByteR {h : PH} : ∀ cs x, ByteR h cs x → ∀ u ∈ cs, u.oneCell' = true := by
  rintro cs x rfl u hu
  obtain rfl := List.mem_singleton.1 hu
  rfl
/-- all blocks but the writer's two stand as they stood -/
structure ExtW (w w' : World) (g : Nat) (row : Option Nat) : Prop where
  os : w'.os = w.os
  tape : w'.tape = w.tape
  output : w'.output = w.output
  size : w.heap.size ≤ w'.heap.size
  block : ∀ k, k < w.heap.size → k ≠ g → row ≠ some k → w'.heap[k]? = w.heap[k]?
theorem ExtW.rfl' (w : World) (g : Nat) (row : Option Nat) : ExtW w w g row := ⟨rfl, rfl, rfl, Nat.le_refl _, fun _ _ _ _ => rfl⟩
theorem ExtW.then {a b c : World} {g : Nat} {row row' : Option Nat} (h : ExtW a b g row) (k : ExtW b c g row') (hr : ∀ i, row' = some i → row = some i ∨ a.heap.size ≤ i) : ExtW a c g row :=
  ⟨k.os.trans h.os, k.tape.trans h.tape, k.output.trans h.output, Nat.le_trans h.size k.size, fun i hi hg hn => by
    rw [k.block i (by have := h.size; omega) hg (fun he => by rcases hr i he with h1 | h1; exact hn h1; omega)]
    exact h.block i hi hg hn⟩
theorem Ext.toW {a b : World} (h : Ext a b) (g : Nat) (row : Option Nat) : ExtW a b g row := ⟨h.os, h.tape, h.output, h.size, fun k hk _ _ => h.block k hk⟩
theorem ExtW.toExt {w0 w w' : World} {g : Nat} {row : Option Nat} (h : Ext w0 w) (k : ExtW w w' g row) (hg : w0.heap.size ≤ g) (hr : ∀ i, row = some i → w0.heap.size ≤ i) : Ext w0 w' :=
  ⟨k.os.trans h.os, k.tape.trans h.tape, k.output.trans h.output, Nat.le_trans h.size k.size, fun i hi => by
    rw [k.block i (by have := h.size; omega) (by omega) (fun he => by have := hr i he; omega)]
    exact h.block i hi⟩
theorem Own.keepW {w w' : World} {g b : Nat} {row : Option Nat} {c : Array Value} {T : TypeId} (h : Own w b c T) (e : ExtW w w' g row) (h1 : b ≠ g) (h2 : row ≠ some b) : Own w' b c T := by
  unfold Own; rw [e.block b h.lt h1 h2]; exact h
/-- block g is a writer that holds the bytes xs, in block row -/
def Wr (base : Nat) (w : World) (g : Nat) (row : Option Nat) (xs : List UInt8) : Prop :=
  ∃ v, Own w g #[v] 74 ∧ v.ownBlock = row ∧ OwnS base noH w ByteR 1 5 v xs ∧ row ≠ some g ∧ base ≤ g ∧ base ≤ w.heap.size
theorem Wr.row {base : Nat} {w : World} {g : Nat} {row : Option Nat} {xs : List UInt8} (h : Wr base w g row xs) : ∀ k, row = some k → base ≤ k ∧ k < w.heap.size := by
  obtain ⟨v, h1, rfl, h2, -⟩ := h
  intro k hk
  exact ⟨(h2.lt k hk).1, (h2.lt k hk).2.1⟩
theorem Wr.lt {base : Nat} {w : World} {g : Nat} {row : Option Nat} {xs : List UInt8} (h : Wr base w g row xs) : base ≤ g ∧ g < w.heap.size := by
  obtain ⟨v, h1, rfl, h2, h3, h4, -⟩ := h
  exact ⟨h4, h1.lt⟩
theorem Wr.keep {base : Nat} {w w' : World} {g : Nat} {row : Option Nat} {xs : List UInt8} (h : Wr base w g row xs) (e : Ext w w') : Wr base w' g row xs := by
  obtain ⟨v, h1, h2, h3, h4, h5, h6⟩ := h
  exact ⟨v, h1.keep e, h2, h3.keep e, h4, h5, Nat.le_trans h6 e.size⟩
/-- from w to w' the writer got to the bytes xs -/
def Wto (base : Nat) (w : World) (g : Nat) (row : Option Nat) (xs : List UInt8) (w' : World) : Prop :=
  ∃ row', Wr base w' g row' xs ∧ ExtW w w' g row ∧ (∀ k, row' = some k → row = some k ∨ w.heap.size ≤ k)
theorem Wto.rfl' {base : Nat} {w : World} {g : Nat} {row : Option Nat} {xs : List UInt8} (h : Wr base w g row xs) : Wto base w g row xs w := ⟨row, h, ExtW.rfl' _ _ _, fun _ h => .inl h⟩
theorem Wto.then {base : Nat} {w w1 w2 : World} {g : Nat} {row row' : Option Nat} {ys : List UInt8} (hx : ExtW w w1 g row) (hr : ∀ k, row' = some k → row = some k ∨ w.heap.size ≤ k) (h : Wto base w1 g row' ys w2) : Wto base w g row ys w2 := by
  obtain ⟨r2, h1, h2, h3⟩ := h
  refine ⟨r2, h1, hx.then h2 hr, fun k hk => ?_⟩
  rcases h3 k hk with h4 | h4
  · exact hr k h4
  · right; exact Nat.le_trans hx.size h4
/-- what a method of the writer leaves -/
def WrP (base : Nat) (w : World) (g : Nat) (row : Option Nat) (xs : List UInt8) (e : Ending) (w' : World) : Prop :=
  e = .returned (.tuple #[]) ∧ Wto base w g row xs w'
/-- one append and the store of what it gives -/
theorem Wr.step {base : Nat} {w : World} {o : Obj} {g : Nat} {v v' : Value} {row : Option Nat} {ys : List UInt8} (hW : Own w g #[v] 74) (hg : base ≤ g) (hb : base ≤ w.heap.size) (hne : row ≠ some g)
    {w2 : World} (ho : OwnS base noH w2 ByteR 1 5 v' ys) (hgr : (w.alloc o).grownBy w2 row) (hk : ∀ k, v'.ownBlock = some k → row = some k ∨ w.heap.size + 1 ≤ k) :
    Own w2 g #[v] 74 ∧ Hid (Wto base w g row ys (w2.setCell ⟨g, 0, none⟩ v')) := by
  have hx := Ext.new w o
  have hs1 := hx.size
  have hgl := hW.lt
  have hW2 : Own w2 g #[v] 74 := (hW.keep hx).grown hgr (fun e => hne e.symm)
  have hng : v'.ownBlock ≠ some g := by
    intro he
    rcases hk g he with h1 | h1
    · exact hne h1
    · omega
  have hs2 : (w.alloc o).heap.size ≤ w2.heap.size := hgr.size
  refine ⟨hW2, ⟨_, ⟨v', by simpa using hW2.set 0 v', rfl, ho.keepB (fun k hk => ?_) (fun _ _ => rfl) (fun _ _ h => h), hng, hg, by simp; omega⟩, ⟨?_, ?_, ?_, ?_, ?_⟩, ?_⟩⟩
  · exact Below.heap_setCell _ _ _ _ (fun h => hng (by rw [hk]; exact congrArg some h))
  · exact hgr.os.trans hx.os
  · exact hgr.tape.trans hx.tape
  · exact hgr.output.trans hx.output
  · simp; omega
  · intro k hk1 hk2 hk3
    rw [Below.heap_setCell _ _ _ _ hk2, hgr.block k (by omega) (fun e => hk3 e.symm)]
    exact hx.block k hk1
  · intro k hk'
    rcases hk k hk' with h1 | h1
    · exact .inl h1
    · right; omega
abbrev uvar := Lib.uvarint
abbrev zig := Lib.zigzag
theorem uvar_small {n : Nat} (h : n < 128) : uvar n = [n.toUInt8] := Lib.uvarint_small h
theorem uvar_big {n : Nat} (h : ¬ n < 128) : uvar n = (n % 128 + 128).toUInt8 :: uvar (n / 128) := Lib.uvarint_big (by omega)
theorem uvar_len10 {n : Nat} (h : n ≤ 18446744073709551615) : (uvar n).length ≤ 10 := Lib.uvarint_length64 (by omega)
theorem zig_le {n : Int} (h : I64 n) : zig n ≤ 18446744073709551615 := Nat.le_of_lt_succ (Lib.zigzag_lt h.1 h.2)
theorem zigzag_c (n : Int) (w : World) (hn : I64 n) : Calls Tryz.prog 102 #[.int .i64 n] w (RetV w (.int .u64 (zig n))) := by
  obtain ⟨h1, h2⟩ := hn
  by_cases h0 : 0 ≤ n
  · have hz : bits BinOp.xor IntKind.u64 (n * 2) (n / 9223372036854775808) = (zig n : Int) := by
      have e1 : n / 9223372036854775808 = ((0 : Nat) : Int) := by omega
      have e2 : n * 2 = (((2 * n).toNat : Nat) : Int) := by omega
      rw [e1, e2, bits_xor_u64_nat _ _ (by omega) (by omega), Nat.xor_zero, zig, Lib.zigzag, if_pos h0]
    go_enter Tryz.func102, Tryz.ntmps102
    go_wp2_with fail
    go_ret
    exact ⟨rfl, (by with_reducible repeat (first | assumption | exact Ext.rfl' _ | exact Ext.new _ _ | refine Ext.alloc' ?_ _ | refine Ext.drew' ?_ | refine Ext.drewN' ?_ _ | (refine Ext.set' ?_ ?_ _; rotate_left; focus (first | omega | (simp; done) | (simp; omega))) | (refine Ext.then (b := ?_) ?_ ?_; rotate_left; rotate_left; assumption)))⟩
  · have hz : bits BinOp.xor IntKind.u64 (IntKind.u64.wrap (IntKind.u64.wrap n * 2)) (IntKind.u64.wrap (n / 9223372036854775808)) = (zig n : Int) := by
      have e1 : IntKind.u64.wrap (n / 9223372036854775808) = ((2 ^ 64 - 1 : Nat) : Int) := by rw [IntKind.wrap_u64]; omega
      have e2 : IntKind.u64.wrap (IntKind.u64.wrap n * 2) = (((2 * n + 18446744073709551616).toNat : Nat) : Int) := by rw [IntKind.wrap_u64, IntKind.wrap_u64]; omega
      rw [e1, e2, bits_xor_u64_nat _ _ (by omega) (by omega), Nat.xor_comm, Lib.xor_ones64 _ (by omega), zig, Lib.zigzag, if_neg h0]
      omega
    go_enter Tryz.func102, Tryz.ntmps102
    go_wp2_with fail
    go_ret
    exact ⟨rfl, (by with_reducible repeat (first | assumption | exact Ext.rfl' _ | exact Ext.new _ _ | refine Ext.alloc' ?_ _ | refine Ext.drew' ?_ | refine Ext.drewN' ?_ _ | (refine Ext.set' ?_ ?_ _; rotate_left; focus (first | omega | (simp; done) | (simp; omega))) | (refine Ext.then (b := ?_) ?_ ?_; rotate_left; rotate_left; assumption)))⟩
set_option maxRecDepth 100000 in
set_option maxHeartbeats 400000 in
theorem uint_c (base g : Nat) (row : Option Nat) (xs : List UInt8) (n : Nat) (w : World) (hn : n ≤ 18446744073709551615) (hW : Wr base w g row xs) (hlen : xs.length ≤ 1000000000) :
    Calls Tryz.prog 101 #[.pointer (some ⟨g, 0, none⟩), .int .u64 n] w (WrP base w g row (xs ++ uvar n)) := by
  have h10 := uvar_len10 hn
  go_enter Tryz.func101, Tryz.ntmps101
  go_wp2_with fail
  go_loopw [1] (fun i wr => ∃ m : Nat, i = .int .u64 m ∧ m ≤ 18446744073709551615 ∧ ∃ pre, Hid (uvar n = pre ++ uvar m) ∧ pre.length ≤ 10 ∧ Wto base w g row (xs ++ pre) wr) (fun i _ => (intOf i).toNat)
  case atStart => exact ⟨n, rfl, hn, [], Lib.hid rfl, by simp, Wto.rfl' (by simpa using hW)⟩
  case round =>
    obtain ⟨m, rfl, hm, pre, hpre, hpl, row', hWr, hx, hrow⟩ := hrel
    replace hrow := Lib.hid hrow
    obtain ⟨v, hO, hv, hS, hne, hg, hb⟩ := hWr
    obtain ⟨zs, hzs⟩ : ∃ zs, Hid (xs ++ pre = zs) := ⟨_, Lib.hid rfl⟩
    have hzl : zs.length ≤ 1000000010 := by rw [← hzs.out]; simp; omega
    rw [hzs.out] at hS
    obtain ⟨a, c, rfl, hl⟩ := hS.form
    obtain ⟨hoc, hof⟩ := hO.facts
    have hgl := hO.lt
    by_cases h128 : m < 128
    · have hE : ByteR noH [.int .u8 m] m.toUInt8 := by unfold ByteR; rw [show (m.toUInt8).toNat = m by simp; omega]
      have hum := Lib.hid (uvar_small h128)
      generalize m.toUInt8 = y at *
      go_wp2_with (at_builtin; refine wpList_append_S (E := ByteR) (H := noH) (base := base) (ys := [y]) rfl _ _ 49 5 rfl (.int .u8 0) 1 Tryz.underlying49 infoByte rfl rfl rfl (hS.keep (by with_reducible repeat (first | assumption | exact Ext.rfl' _ | exact Ext.new _ _ | refine Ext.alloc' ?_ _ | refine Ext.drew' ?_ | refine Ext.drewN' ?_ _ | (refine Ext.set' ?_ ?_ _; rotate_left; focus (first | omega | (simp; done) | (simp; omega))) | (refine Ext.then (b := ?_) ?_ ?_; rotate_left; rotate_left; assumption)))) (Src.lit1 hE rfl (fun j => by simp [go_sem])) (noH_le _) ?c2 one_ByteR ?c3 ?c4 ?c5)
      case c2 => simp; omega
      case c3 => simp; omega
      case c4 => simp; omega
      case c5 =>
        intro l' w2 hl1 hg1 hn1
        obtain ⟨hO2, hR⟩ := Wr.step hO hg hb hne hl1 hg1 hn1
        obtain ⟨a', c', rfl, -⟩ := hl1.form
        obtain ⟨hoc2, hof2⟩ := hO2.facts
        have hgl2 := hO2.lt
        clear hS hg1 hn1 hoc hof hl1
        go_wp2_with fail
        have hT := Wto.then hx hrow.out hR.out
        rw [show (zs ++ [y]).length = zs.length + 1 by simp, ← hzs.out, List.append_assoc, ← hum.out, ← hpre.out, hzs.out] at hT
        exact bodyPost_ret (v := .tuple #[]) (by simp [results, Tryz.results101, go_sem]) rfl ⟨rfl, hT⟩
    · have hE : ByteR noH [.int .u8 (m % 128 + 128)] (m % 128 + 128).toUInt8 := by unfold ByteR; rw [show ((m % 128 + 128).toUInt8).toNat = m % 128 + 128 by simp; omega]; simp
      have hum := Lib.hid (uvar_big h128)
      generalize (m % 128 + 128).toUInt8 = y at *
      have hor : bits .or .u8 ((m : Int) % 256) 128 = ((m % 128 + 128 : Int)) := by
        rw [Lib.u8_or128_any _ (by omega) (by omega)]
        omega
      go_wp2_with (at_builtin; refine wpList_append_S (E := ByteR) (H := noH) (base := base) (ys := [y]) rfl _ _ 49 5 rfl (.int .u8 0) 1 Tryz.underlying49 infoByte rfl rfl rfl (hS.keep (by with_reducible repeat (first | assumption | exact Ext.rfl' _ | exact Ext.new _ _ | refine Ext.alloc' ?_ _ | refine Ext.drew' ?_ | refine Ext.drewN' ?_ _ | (refine Ext.set' ?_ ?_ _; rotate_left; focus (first | omega | (simp; done) | (simp; omega))) | (refine Ext.then (b := ?_) ?_ ?_; rotate_left; rotate_left; assumption)))) (Src.lit1 hE rfl (fun j => by simp [go_sem])) (noH_le _) ?c2 one_ByteR ?c3 ?c4 ?c5)
      case c2 => simp; omega
      case c3 => simp; omega
      case c4 => simp; omega
      case c5 =>
        intro l' w2 hl1 hg1 hn1
        obtain ⟨hO2, hR⟩ := Wr.step hO hg hb hne hl1 hg1 hn1
        obtain ⟨a', c', rfl, -⟩ := hl1.form
        obtain ⟨hoc2, hof2⟩ := hO2.facts
        have hgl2 := hO2.lt
        clear hS hg1 hn1 hoc hof hl1
        go_wp2_with fail
        go_roundw
        case rel =>
          have hT := Wto.then hx hrow.out hR.out
          rw [List.length_append, List.length_singleton] at hT
          have hpre2 : uvar n = (pre ++ [y]) ++ uvar (m / 128) := by rw [hpre.out, hum.out]; simp
          refine ⟨m / 128, by go_num, by omega, pre ++ [y], hpre2, ?_, ?_⟩
          · have := congrArg List.length hpre2
            rw [List.length_append] at this
            omega
          · rw [← List.append_assoc, hzs.out]; exact hT
        case measure => simp [intOf]; omega
/-- one number, by its sign's zig-zag -/
def encI (n : Int) : List UInt8 := uvar (zig n)
theorem encI_len {n : Int} (h : I64 n) : (encI n).length ≤ 10 := uvar_len10 (zig_le h)
theorem int_c (base g : Nat) (row : Option Nat) (xs : List UInt8) (n : Int) (w : World) (hn : I64 n) (hW : Wr base w g row xs) (hlen : xs.length ≤ 1000000000) :
    Calls Tryz.prog 73 #[.pointer (some ⟨g, 0, none⟩), .int .i64 n] w (WrP base w g row (xs ++ encI n)) := by
  have hz := zig_le hn
  go_enter Tryz.func73, Tryz.ntmps73
  go_wp2_with fail
  refine (zigzag_c n _ hn).mono ?_
  rintro e w1 ⟨rfl, hb1⟩
  go_wp2_with fail
  refine (uint_c base g row xs _ _ hz (hW.keep hb1) hlen).mono ?_
  rintro e w2 ⟨rfl, hT⟩
  go_wp2_with fail
  exact bodyPost_ret (v := .tuple #[]) (by simp [results, Tryz.results73, go_sem]) rfl ⟨rfl, Wto.then (hb1.toW g row) (fun _ h => .inl h) hT⟩
def encL (l : List Int) : List UInt8 := l.flatMap encI
def encInts (l : List Int) : List UInt8 := uvar l.length ++ encL l
theorem encL_len {l : List Int} (h : ∀ x ∈ l, I64 x) : (encL l).length ≤ 10 * l.length := by
  induction l with
  | nil => simp [encL]
  | cons x l ih =>
    have h1 := encI_len (h x (by simp))
    have h2 := ih fun y hy => h y (by simp [hy])
    simp only [encL, List.flatMap_cons, List.length_append, List.length_cons] at *
    omega
theorem encL_snoc (l : List Int) (k : Nat) (h : k < l.length) : encL (l.take (k + 1)) = encL (l.take k) ++ encI l[k] := by
  unfold encL; rw [take_snoc l k h, List.flatMap_append]; simp
/-- memory below base stands while the writer writes -/
theorem Wto.ple {H : PH} {base : Nat} {w w' : World} {g : Nat} {row : Option Nat} {xs ys : List UInt8} (hP : PLe H (ph w)) (hB : ∀ k, base ≤ k → H k = none) (hW : Wr base w g row xs) (h : Wto base w g row ys w') : PLe H (ph w') := by
  obtain ⟨r, h1, h2, h3⟩ := h
  intro k o hk
  have hk1 := ph_lt (hP k o hk)
  have hk2 : k < base := by
    rcases Nat.lt_or_ge k base with h | h
    · exact h
    · rw [hB k h] at hk; cases hk
  show w'.heap[k]? = some o
  rw [h2.block k hk1 (by have := hW.lt; omega) (fun e => by have := hW.row k e; omega)]
  exact hP k o hk
theorem Wto.own {base : Nat} {w w' : World} {g b : Nat} {row : Option Nat} {ys : List UInt8} {c : Array Value} {T : TypeId} (hO : Own w b c T) (hW : Wto base w g row ys w') (h1 : b ≠ g) (h2 : row ≠ some b) : Own w' b c T := by
  obtain ⟨r, h3, h4, h5⟩ := hW
  exact hO.keepW h4 h1 h2
theorem IntsR.all {H : PH} {v : Value} {l : List Int} (h : IntsR H v l) : ∀ x ∈ l, I64 x := by
  obtain ⟨a, c, rfl, h1, h⟩ := h.form
  intro x hx
  obtain ⟨k, hk, rfl⟩ := List.mem_iff_getElem.1 hx
  obtain ⟨b, o, cs, -, -, -, -, h2⟩ := h.get k hk
  exact h2
set_option maxHeartbeats 400000 in
theorem ints_c (H : PH) (base g : Nat) (row : Option Nat) (xs : List UInt8) (l : List Int) (vl : Value) (w : World) (hP : PLe H (ph w)) (hB : ∀ k, base ≤ k → H k = none) (hl : IntsR H vl l) (hW : Wr base w g row xs) (hlen : xs.length + 10 * l.length + 10 ≤ 1000000000) :
    Calls Tryz.prog 72 #[.pointer (some ⟨g, 0, none⟩), vl] w (WrP base w g row (xs ++ encInts l)) := by
  obtain ⟨a, c, rfl, hll, hl⟩ := hl.form
  have hB' := Lib.hid hB; clear hB
  go_enter Tryz.func72, Tryz.ntmps72
  go_wp2_with fail
  refine (uint_c base g row xs l.length _ (by omega) hW (by omega)).mono ?_
  rintro e w1 ⟨rfl, hT⟩
  have hul : (uvar l.length).length ≤ 10 := uvar_len10 (by omega)
  go_wp2_with fail
  go_loopw [13] (fun i wr => ∃ k : Nat, k ≤ l.length ∧ i = .int .i64 k ∧ Wto base w g row (xs ++ uvar l.length ++ encL (l.take k)) wr) (fun i _ => l.length - (intOf i).toNat)
  case atStart => exact ⟨0, Nat.zero_le _, rfl, by simpa [encL] using hT⟩
  case round =>
    obtain ⟨k, hk, rfl, hTr⟩ := hrel
    have hPr := Wto.ple hP hB'.out hW hTr
    by_cases hlt : k < l.length
    · obtain ⟨b, o, rfl, h0, hi, hbl⟩ := IntsR.at (hl.mono mono_IntR hPr) k hlt
      have hs := encL_snoc l k hlt
      have hi64 := IntsR.all hl
      have hel : (encL (l.take k)).length ≤ 10 * k := by
        have := encL_len (l := l.take k) fun x hx => hi64 x (List.mem_of_mem_take hx)
        rw [List.length_take] at this; omega
      obtain ⟨row', hWr, hx, hr⟩ := hTr
      replace hs := Lib.hid hs
      replace hr := Lib.hid hr
      generalize l[k] = x at *
      clear hl hi64
      go_wp2_with fail
      refine (int_c base g row' _ x _ hi hWr (by simp only [List.length_append]; omega)).mono ?_
      rintro e w2 ⟨rfl, hT2⟩
      have hT3 := Wto.then hx hr.out hT2
      rw [List.append_assoc _ _ (encI x), ← hs.out] at hT3
      clear hT2 hWr hx hPr
      go_wp2_with fail
      go_roundw
      case rel => exact ⟨k + 1, by omega, by go_num, hT3⟩
      case measure => simp [intOf]; omega
    · go_wp2_with fail
      rw [List.take_of_length_le (by omega), List.append_assoc] at hTr
      exact bodyPost_ret (v := .tuple #[]) (by simp [results, Tryz.results72, go_sem]) rfl ⟨rfl, hTr⟩
theorem Src.keep {α : Type} {E : PH → List Value → α → Prop} {sz : Nat} {H : PH} {w w' : World} {v : Value} {xs : List α} (h : Src w H E sz v xs) (e : Ext w w') : Src w' H E sz v xs := by
  obtain ⟨a, cap, rfl, h1, h2⟩ := h
  refine ⟨a, cap, rfl, h1, ?_⟩
  rcases h2 with h2 | ⟨ad, c, rfl, h3, h4⟩
  · exact .inl h2
  · refine .inr ⟨ad, c, rfl, h3, fun j u hu => ?_⟩
    have h5 := h4 j u hu
    rw [← h5]
    exact Below.cell e (World.block_lt_of_cell? w _ h5)
/-- a fresh slice of bytes comes back -/
def FreshB (w : World) (xs : List UInt8) (e : Ending) (w' : World) : Prop := ∃ v, e = .returned v ∧ OwnS w.heap.size noH w' ByteR 1 5 v xs ∧ Ext w w'
set_option maxRecDepth 100000 in
theorem clone_c (vs : Value) (xs : List UInt8) (w : World) (hs : Src w noH ByteR 1 vs xs) (hlen : xs.length ≤ 2000000000) :
    Calls Tryz.prog 74 #[vs] w (FreshB w xs) := by
  have hS := hs
  have q46 : ∀ (w : World) (a : Option Addr) (n c n' c' : Nat), (binOp .eql 49 (.slice a n c) (.slice none n' c')).run Tryz.prog w = .ok (.bool a.isNone) w := fun w a n c n' c' => Lib.run_eql_slice_nil w _ _ a n c n' c' Tryz.underlying49
  obtain ⟨a, cap, rfl, h1, h2⟩ := hs
  cases a with
  | none =>
    have : xs = [] := by
      rcases h2 with h2 | ⟨_, _, h, _⟩
      · exact h2
      · cases h
    subst this
    clear h2
    go_enter Tryz.func74, Tryz.ntmps74
    go_wp2_with fail
    go_ret
    exact ⟨_, rfl, OwnS.nil _ _ _ _ _ _, (by with_reducible repeat (first | assumption | exact Ext.rfl' _ | exact Ext.new _ _ | refine Ext.alloc' ?_ _ | refine Ext.drew' ?_ | refine Ext.drewN' ?_ _ | (refine Ext.set' ?_ ?_ _; rotate_left; focus (first | omega | (simp; done) | (simp; omega))) | (refine Ext.then (b := ?_) ?_ ?_; rotate_left; rotate_left; assumption)))⟩
  | some a =>
    clear h2
    go_enter Tryz.func74, Tryz.ntmps74
    go_wp2_with (at_builtin; refine wpList_append_S (E := ByteR) (H := noH) (base := w.heap.size) (xs := []) (ys := xs) rfl _ _ 49 5 rfl (.int .u8 0) 1 Tryz.underlying49 infoByte rfl rfl rfl (OwnS.ofNew (Nat.le_refl _) (Own.new _ _ _) rfl (by simp [maxLen]) rfl rfl) (hS.keep (by with_reducible repeat (first | assumption | exact Ext.rfl' _ | exact Ext.new _ _ | refine Ext.alloc' ?_ _ | refine Ext.drew' ?_ | refine Ext.drewN' ?_ _ | (refine Ext.set' ?_ ?_ _; rotate_left; focus (first | omega | (simp; done) | (simp; omega))) | (refine Ext.then (b := ?_) ?_ ?_; rotate_left; rotate_left; assumption)))) (noH_le _) ?c2 one_ByteR ?c3 ?c4 ?c5)
    case c2 => simp
    case c3 => simp; omega
    case c4 => simp; omega
    case c5 =>
      intro l' w2 hl1 hg1 hn1
      have hb2 : Ext w w2 := Ext.grown (by with_reducible repeat (first | assumption | exact Ext.rfl' _ | exact Ext.new _ _ | refine Ext.alloc' ?_ _ | refine Ext.drew' ?_ | refine Ext.drewN' ?_ _ | (refine Ext.set' ?_ ?_ _; rotate_left; focus (first | omega | (simp; done) | (simp; omega))) | (refine Ext.then (b := ?_) ?_ ?_; rotate_left; rotate_left; assumption))) hg1 (fun k e => by simp [Value.ownBlock] at e; omega)
      clear hg1 hn1 hS
      go_wp2_with fail
      go_ret
      exact ⟨_, rfl, hl1, hb2⟩
set_option maxRecDepth 100000 in
theorem done_c (base g : Nat) (row : Option Nat) (xs : List UInt8) (w : World) (hW : Wr base w g row xs) (hlen : xs.length ≤ 2000000000) :
    Calls Tryz.prog 56 #[.pointer (some ⟨g, 0, none⟩)] w (FreshB w xs) := by
  obtain ⟨v, hO, hv, hS, hne, hg, hb⟩ := hW
  obtain ⟨a, c, rfl, hl⟩ := hS.form
  obtain ⟨hoc, hof⟩ := hO.facts
  have hgl := hO.lt
  go_enter Tryz.func56, Tryz.ntmps56
  go_wp2_with fail
  refine (clone_c _ xs _ (Src.ofOwn (hS.keep (by with_reducible repeat (first | assumption | exact Ext.rfl' _ | exact Ext.new _ _ | refine Ext.alloc' ?_ _ | refine Ext.drew' ?_ | refine Ext.drewN' ?_ _ | (refine Ext.set' ?_ ?_ _; rotate_left; focus (first | omega | (simp; done) | (simp; omega))) | (refine Ext.then (b := ?_) ?_ ?_; rotate_left; rotate_left; assumption))))) hlen).mono ?_
  rintro e w1 ⟨v1, rfl, hF, hb1⟩
  go_wp2_with fail
  go_ret
  exact ⟨_, rfl, hF, (by with_reducible repeat (first | assumption | exact Ext.rfl' _ | exact Ext.new _ _ | refine Ext.alloc' ?_ _ | refine Ext.drew' ?_ | refine Ext.drewN' ?_ _ | (refine Ext.set' ?_ ?_ _; rotate_left; focus (first | omega | (simp; done) | (simp; omega))) | (refine Ext.then (b := ?_) ?_ ?_; rotate_left; rotate_left; assumption)))⟩
theorem ph_none {w : World} {k : Nat} (h : w.heap.size ≤ k) : ph w k = none := by
  cases hx : ph w k with
  | none => rfl
  | some o => exact absurd (ph_lt hx) (by omega)
theorem Wr.fresh (w : World) : Wr w.heap.size (w.alloc (.cells #[.slice none 0 0] 74)) w.heap.size none [] :=
  ⟨_, Own.new _ _ _, rfl, OwnS.nil _ _ _ _ _ _, by simp, Nat.le_refl _, by simp⟩
theorem OwnS.base {α : Type} {b0 base : Nat} {H : PH} {w : World} {E : PH → List Value → α → Prop} {sz : Nat} {T : TypeId} {v : Value} {xs : List α} (h : OwnS base H w E sz T v xs) (hb : b0 ≤ base) : OwnS b0 H w E sz T v xs := by
  rcases h with h | ⟨g, cap, cur, h1, h2, h3⟩
  · exact .inl h
  · exact .inr ⟨g, cap, cur, h1, Nat.le_trans hb h2, h3⟩
end Go.Proofs.YtnhcplmcddlgnaaGreat
namespace Go.Proofs.YtnhcplmcddlgnaaGreat
set_option linter.unusedSimpArgs false
set_option linter.unusedVariables false
end Go.Proofs.YtnhcplmcddlgnaaGreat
namespace Go.Proofs.YtnhcplmcddlgnaaGreat
open Go.RowKit
set_option linter.unusedSimpArgs false
set_option linter.unusedVariables false
theorem Mem.init {w0 w : World} {H0 H : PH} {L : List Chunk} {c : Chunk} (h : Mem w0 H0 (L ++ [c]) H w) : Mem w0 H0 L H w := by
  have h1 := h.pick (List.range L.length) List.nodup_range
  have e : (List.range L.length).map (fun i => ((L ++ [c])[i]?).getD nop) = L := by
    refine List.ext_getElem (by simp) fun i hi _ => ?_
    have hi' : i < L.length := by simpa using hi
    simp [List.getElem?_append_left hi', hi']
  rw [e] at h1; exact h1
/-- bytes under way: v holds xs, in memory made since w0, beside the boxes K; F stands -/
def MB (w0 : World) (K : List Chunk) (F : PH) (v : Value) (xs : List UInt8) (w : World) : Prop := ∃ H, PLe F H ∧ Mem w0 noH (Proofs.YtnhcplmcddlgnaaGreat.own mono_ByteR 1 5 v xs :: K) H w
theorem MB.start (w : World) : MB w [] noH (.slice none 0 0) [] w := ⟨noH, PLe.refl _, (Mem.start w noH (noH_le _)).nil mono_ByteR 1 5⟩
theorem MB.box {w0 w : World} {K : List Chunk} {F : PH} {v : Value} {xs : List UInt8} (h : MB w0 K F v xs w) (c : Array Value) (T : TypeId) : MB w0 (K ++ [Proofs.YtnhcplmcddlgnaaGreat.box w.heap.size c T]) F v xs (w.alloc (.cells c T)) := by
  obtain ⟨H, hF, h⟩ := h
  exact ⟨H, hF, h.new c T⟩
theorem MB.keep {w0 w w' : World} {K : List Chunk} {F : PH} {v : Value} {xs : List UInt8} (h : MB w0 K F v xs w) (e : Ext w w') : MB w0 K F v xs w' := by
  obtain ⟨H, hF, h⟩ := h
  exact ⟨H, hF, h.ext e⟩
theorem MB.ex {w0 w : World} {K : List Chunk} {F : PH} {v : Value} {xs : List UInt8} (h : MB w0 K F v xs w) : Ext w0 w := by
  obtain ⟨H, hF, h⟩ := h
  exact h.ex
theorem MB.form {w0 w : World} {K : List Chunk} {F : PH} {v : Value} {xs : List UInt8} (h : MB w0 K F v xs w) : ∃ a cap, v = .slice a xs.length cap ∧ xs.length ≤ 9223372036854775807 := by
  obtain ⟨H, hF, h⟩ := h
  exact h.form 0 rfl
theorem MB.own {w0 w : World} {K : List Chunk} {F : PH} {v : Value} {xs : List UInt8} (h : MB w0 K F v xs w) : OwnS w0.heap.size noH w ByteR 1 5 v xs := by
  obtain ⟨H, hF, h⟩ := h
  exact (h.ownS 0 rfl).keepB (fun _ _ => rfl) (fun _ _ => rfl) (fun _ _ h => h)
theorem MB.fresh {w0 w : World} {K : List Chunk} {F : PH} {v : Value} {xs : List UInt8} (h : MB w0 K F v xs w) : FreshB w0 xs (.returned v) w := ⟨v, rfl, h.own, h.ex⟩
theorem MB.src {w0 w : World} {K : List Chunk} {F : PH} {v : Value} {xs : List UInt8} (h : MB w0 K F v xs w) : Src w noH ByteR 1 v xs := by
  exact Src.ofOwn h.own
theorem MB.rep {w0 w : World} {K : List Chunk} {F : PH} {v : Value} {xs : List UInt8} (h : MB w0 K F v xs w) : BytesR (ph w) v xs := h.own.rep mono_ByteR (noH_le _)
/-- a fresh slice beside it -/
theorem MB.take {w0 w w' : World} {K : List Chunk} {F : PH} {v vx : Value} {xs ys : List UInt8} (h : MB w0 K F v xs w) (e : Ext w w') (ho : OwnS w.heap.size noH w' ByteR 1 5 vx ys) : MB w0 K F v xs w' ∧ MB w0 [] F vx ys w' := by
  obtain ⟨H, hF, h⟩ := h
  obtain ⟨H2, hl, -, h2⟩ := h.take e ho mono_ByteR (noH_le _)
  refine ⟨⟨H2, hF.trans hl, h2.init⟩, ⟨H2, hF.trans hl, ?_⟩⟩
  have h3 := h2.pick [K.length + 1] (by simp)
  simpa using h3
theorem MB.ple {w0 w : World} {K : List Chunk} {F : PH} {v : Value} {xs : List UInt8} (h : MB w0 K F v xs w) : PLe F (ph w) := by
  obtain ⟨H, hF, h⟩ := h
  exact hF.trans h.ple
/-- a call has made new memory, which stands -/
theorem MB.up {w0 w w' : World} {K : List Chunk} {F : PH} {v : Value} {xs : List UInt8} (h : MB w0 K F v xs w) (e : Ext w w') : MB w0 K (Proofs.YtnhcplmcddlgnaaGreat.up F w w') v xs w' := by
  obtain ⟨H, hF, h⟩ := h
  exact ⟨_, up_mono hF, h.up e⟩
end Go.Proofs.YtnhcplmcddlgnaaGreat
namespace Go.Proofs.YtnhcplmcddlgnaaGreat
open Go.RowKit
set_option linter.unusedSimpArgs false
set_option linter.unusedVariables false
theorem ExtW.set {w w' : World} {g : Nat} (h : ExtW w w' g none) (j : Nat) (v : Value) : ExtW w (w'.setCell ⟨g, j, none⟩ v) g none :=
  ⟨h.os, h.tape, h.output, by simpa using h.size, fun k hk hg hr => by
    rw [Below.heap_setCell _ _ _ _ hg]; exact h.block k hk hg hr⟩
end Go.Proofs.YtnhcplmcddlgnaaGreat
namespace Go.Proofs.YtnhcplmcddlgnaaGreat
open Go.RowKit
set_option linter.unusedSimpArgs false
set_option linter.unusedVariables false
end Go.Proofs.YtnhcplmcddlgnaaGreat
namespace Go.Proofs.YtnhcplmcddlgnaaGreat
open Go.RowKit
set_option linter.unusedSimpArgs false
set_option linter.unusedVariables false
end Go.Proofs.YtnhcplmcddlgnaaGreat
namespace Go.Proofs.YtnhcplmcddlgnaaGreat
open Go.RowKit
set_option linter.unusedSimpArgs false
set_option linter.unusedVariables false
theorem ExtW.grown {w0 w w' : World} {g : Nat} {row : Option Nat} (h : ExtW w0 w g none) (gr : w.grownBy w' row) (hr : ∀ k, row = some k → w0.heap.size ≤ k) : ExtW w0 w' g none :=
  ⟨gr.os.trans h.os, gr.tape.trans h.tape, gr.output.trans h.output, Nat.le_trans h.size gr.size, fun k hk hg hn => by
    rw [gr.block k (by have := h.size; omega) (fun e => by have := hr k e.symm; omega)]
    exact h.block k hk hg hn⟩
end Go.Proofs.YtnhcplmcddlgnaaGreat
namespace Go.Proofs.YtnhcplmcddlgnaaGreat
open Go.RowKit
set_option linter.unusedSimpArgs false
set_option linter.unusedVariables false
end Go.Proofs.YtnhcplmcddlgnaaGreat
namespace Go.Proofs.YtnhcplmcddlgnaaGreat
open Go.RowKit
set_option linter.unusedSimpArgs false
set_option linter.unusedVariables false
end Go.Proofs.YtnhcplmcddlgnaaGreat
namespace Go.Proofs.YtnhcplmcddlgnaaGreat
open Go.RowKit
set_option linter.unusedSimpArgs false
set_option linter.unusedVariables false
/-- memory made since there were n blocks -/
def MemX (n : Nat) (L : List Chunk) (H : PH) (w : World) : Prop := ∃ w0, w0.heap.size = n ∧ Mem w0 noH L H w
theorem MemX.start (w : World) : MemX w.heap.size [] noH w := ⟨w, rfl, Mem.start w noH (noH_le _)⟩
/-- a call that changes block g alone -/
theorem MemX.reader {n : Nat} {L : List Chunk} {H : PH} {w w' : World} {g : Nat} (h : MemX n L H w) (e : ExtW w w' g none) (hg : g < n) : MemX n L H w' := by
  obtain ⟨w0, rfl, hM⟩ := h
  have hgl : g < w.heap.size := Nat.lt_of_lt_of_le hg hM.ex.size
  have hgl' : g < w'.heap.size := Nat.lt_of_lt_of_le hgl e.size
  refine ⟨{ w0 with heap := w0.heap.setIfInBounds g w'.heap[g] }, by simp, ?_⟩
  have hne : ∀ {i : Nat} {c : Chunk}, L[i]? = some c → ∀ k, c.foot = some k → k ≠ g := fun hi k hk => by have := (hM.fr _ _ hi k hk).1; omega
  have hHg : ∀ k o, H k = some o → w0.heap.size ≤ k := by
    intro k o hk
    have := hM.ub k o hk
    unfold up at this
    split at this
    · cases this
    · omega
  have hex : Ext { w0 with heap := w0.heap.setIfInBounds g w'.heap[g] } w' := by
    refine ⟨e.os.trans hM.ex.os, e.tape.trans hM.ex.tape, e.output.trans hM.ex.output, by simpa using Nat.le_trans hM.ex.size e.size, fun k hk => ?_⟩
    have hk' : k < w0.heap.size := by simpa using hk
    show w'.heap[k]? = (w0.heap.setIfInBounds g w'.heap[g])[k]?
    by_cases hkg : g = k
    · subst hkg
      rw [Array.getElem?_setIfInBounds_self_of_lt hk']; simp [hgl']
    · rw [Array.getElem?_setIfInBounds_ne hkg, e.block k (Nat.lt_of_lt_of_le hk' hM.ex.size) (fun h => hkg h.symm) (by simp)]
      exact hM.ex.block k hk'
  refine ⟨noH_le _, hM.le, fun k o hk => ?_, hex, fun i c hi => c.loc (hM.ok i c hi) fun k hk => e.block k (hM.lt hi hk) (hne hi k hk) (by simp), fun i c hi k hk => ⟨by simpa using (hM.fr i c hi k hk).1, (hM.fr i c hi k hk).2⟩, hM.ap⟩
  have h1 := hM.ub k o hk
  have h2 := hHg k o hk
  unfold up at h1 ⊢
  rw [if_neg (by omega)] at h1
  rw [if_neg (by simp; omega)]
  show w'.heap[k]? = some o
  rw [e.block k (ph_lt h1) (by omega) (by simp)]; exact h1
/-- a step of the memory's own -/
theorem MemX.step {n : Nat} {L L' : List Chunk} {H H' : PH} {w w' : World} (h : MemX n L H w) (f : ∀ w0, Mem w0 noH L H w → Mem w0 noH L' H' w') : MemX n L' H' w' := by
  obtain ⟨w0, h1, h2⟩ := h
  exact ⟨w0, h1, f w0 h2⟩
/-- a slice that such a call has made -/
theorem MemX.take {α : Type} {E : PH → List Value → α → Prop} {sz : Nat} {T : TypeId} {v : Value} {xs : List α} {n : Nat} {L : List Chunk} {H : PH} {w w' : World} {g : Nat} (h : MemX n L H w) (e : ExtW w w' g none) (hg : g < n) (ho : OwnS w.heap.size noH w' E sz T v xs) (hm : Mono E) :
    MemX n (L ++ [own hm sz T v xs]) H w' := by
  have h1 := h.reader e hg
  obtain ⟨w0, hn, hM⟩ := h
  obtain ⟨w1, hn1, hM1⟩ := h1
  refine ⟨w1, hn1, hM1.add _ ((own hm sz T v xs).mono ho.c (noH_le H)) fun k hk => ?_⟩
  have h3 := ho.lt k hk
  refine ⟨by have := hM.ex.size; omega, fresh_none hM.ple h3.1, fun i d hi he => ?_⟩
  have := hM.lt hi he
  omega
end Go.Proofs.YtnhcplmcddlgnaaGreat
namespace Go.Proofs.YtnhcplmcddlgnaaGreat
open Go.RowKit
set_option linter.unusedSimpArgs false
set_option linter.unusedVariables false
theorem Mem.same {w0 w3 w5 : World} {L L' : List Chunk} {H H' : PH} (h3 : Mem w0 noH L H w3) (h5 : Mem w0 noH L' H' w5) : ∀ k, k < w0.heap.size → w5.heap[k]? = w3.heap[k]? := by
  intro k hk
  rw [h5.ex.block k hk, h3.ex.block k hk]
theorem ExtW.cells {w w1 : World} {g : Nat} (h : ExtW w w1 g none) : (∀ b o, b < w.heap.size → b ≠ g → w1.cell? ⟨b, o, none⟩ = w.cell? ⟨b, o, none⟩) ∧ (∀ b o, b < w.heap.size → b ≠ g → w1.frozen? ⟨b, o, none⟩ = w.frozen? ⟨b, o, none⟩) ∧ w.heap.size ≤ w1.heap.size := by
  refine ⟨fun b o hb hg => ?_, fun b o hb hg => ?_, h.size⟩
  · unfold World.cell?; rw [h.block b hb hg (by simp)]
  · unfold World.frozen?; rw [h.block b hb hg (by simp)]
end Go.Proofs.YtnhcplmcddlgnaaGreat
namespace Go.Proofs.YtnhcplmcddlgnaaGreat
open Go.RowKit
set_option linter.unusedSimpArgs false
set_option linter.unusedVariables false
def byteV (b : UInt8) : Value := .int .u8 b.toNat
theorem cells_byteV {h : PH} : ∀ {xs : List UInt8} {c : List Value}, Cells h ByteR 1 c xs ↔ c = xs.map byteV
  | [], c => by simp [Cells]
  | x :: xs, c => by
    constructor
    · rintro ⟨cs, rest, rfl, h1, h2, h3⟩
      cases h2
      rw [cells_byteV.1 h3]; rfl
    · rintro rfl
      exact ⟨[byteV x], xs.map byteV, rfl, rfl, rfl, cells_byteV.2 rfl⟩
def isB (o : Option Value) : Prop := ∃ x : UInt8, o = some (byteV x)
/-- v is n bytes of one's own -/
def AnyB (base n : Nat) (v : Value) (w : World) : Prop := (v = .slice none 0 0 ∧ n = 0) ∨
  ∃ g cap cur, v = .slice (some ⟨g, 0, none⟩) n cap ∧ base ≤ g ∧ w.heap[g]? = some (.cells cur 5 (0, 0)) ∧ n ≤ cap ∧ cap ≤ maxLen ∧ cur.size = cap ∧ ∀ j : Nat, j < n → isB cur[j]?
/-- what lay stays, and bytes stay bytes -/
structure Lb (base : Nat) (w w' : World) : Prop where
  os : w'.os = w.os
  tape : w'.tape = w.tape
  output : w'.output = w.output
  size : w.heap.size ≤ w'.heap.size
  block : ∀ k, k < w.heap.size → w'.heap[k]? = w.heap[k]? ∨ (base ≤ k ∧ ∃ (c c' : Array Value), w.heap[k]? = some (.cells c 5 (0, 0)) ∧ w'.heap[k]? = some (.cells c' 5 (0, 0)) ∧ c'.size = c.size ∧ ∀ j : Nat, isB c[j]? → isB c'[j]?)
theorem Lb.ext {W w w' : World} (h : Ext W w) (k : Lb W.heap.size w w') : Ext W w' :=
  ⟨k.os.trans h.os, k.tape.trans h.tape, k.output.trans h.output, Nat.le_trans h.size k.size, fun i hi => by
    rcases k.block i (by have := h.size; omega) with h1 | ⟨h1, -⟩
    · rw [h1]; exact h.block i hi
    · omega⟩
theorem AnyB.keep {base n : Nat} {v : Value} {w w' : World} (h : AnyB base n v w) (k : Lb base w w') : AnyB base n v w' := by
  rcases h with h | ⟨g, cap, cur, h1, h2, h3, h4, h5, h6, h7⟩
  · exact .inl h
  · rcases k.block g (Array.getElem?_eq_some_iff.1 h3).1 with h8 | ⟨-, c, c', q1, q2, q3, q4⟩
    · exact .inr ⟨g, cap, cur, h1, h2, by rw [h8]; exact h3, h4, h5, h6, h7⟩
    · rw [h3] at q1; cases q1
      exact .inr ⟨g, cap, c', h1, h2, q2, h4, h5, by omega, fun j hj => q4 j (h7 j hj)⟩
theorem AnyB.ofOwn {base : Nat} {v : Value} {w : World} {xs : List UInt8} (h : OwnS base noH w ByteR 1 5 v xs) : AnyB base xs.length v w := by
  rcases h with ⟨rfl, rfl⟩ | ⟨g, cap, cur, rfl, h1, h2, h3, h4, h5, h6, h7⟩
  · exact .inl ⟨rfl, rfl⟩
  · refine .inr ⟨g, cap, cur, rfl, h1, h3, h4, h5, by omega, fun j hj => ?_⟩
    rw [cells_byteV] at h7
    have h8 : (cur.toList.take (xs.length * 1))[j]? = some (byteV xs[j]) := by rw [h7]; simp [hj]
    rw [List.getElem?_take, if_pos (by omega)] at h8
    exact ⟨xs[j], by simpa using h8⟩
theorem anyB_list : ∀ (n : Nat) (c : List Value), (∀ j, j < n → isB c[j]?) → ∃ xs : List UInt8, xs.length = n ∧ c.take n = xs.map byteV
  | 0, c, _ => ⟨[], rfl, by simp⟩
  | n + 1, c, h => by
    obtain ⟨x, hx⟩ := h 0 (by omega)
    cases c with
    | nil => simp at hx
    | cons a c =>
      obtain ⟨xs, h1, h2⟩ := anyB_list n c fun j hj => by simpa using h (j + 1) (by omega)
      refine ⟨x :: xs, by simp [h1], ?_⟩
      simp at hx
      rw [List.take_succ_cons, h2, hx]; rfl
theorem AnyB.own {base n : Nat} {v : Value} {w : World} (h : AnyB base n v w) : ∃ xs, xs.length = n ∧ OwnS base noH w ByteR 1 5 v xs := by
  rcases h with ⟨rfl, rfl⟩ | ⟨g, cap, cur, rfl, h1, h3, h4, h5, h6, h7⟩
  · exact ⟨[], rfl, OwnS.nil _ _ _ _ _ _⟩
  · obtain ⟨xs, h8, h9⟩ := anyB_list n cur.toList fun j hj => by simpa using h7 j hj
    subst h8
    exact ⟨xs, rfl, .inr ⟨g, cap, cur, rfl, h1, rfl, h3, h4, h5, by omega, by rw [cells_byteV, Nat.mul_one]; exact h9⟩⟩
theorem AnyB.rep {base n : Nat} {v : Value} {w : World} (h : AnyB base n v w) : ∃ xs, xs.length = n ∧ BytesR (ph w) v xs := by
  obtain ⟨xs, h1, h2⟩ := h.own
  exact ⟨xs, h1, h2.rep mono_ByteR (noH_le _)⟩
theorem AnyB.form {base n : Nat} {v : Value} {w : World} (h : AnyB base n v w) : ∃ a cap, v = .slice a n cap := by
  rcases h with ⟨rfl, rfl⟩ | ⟨g, cap, cur, rfl, -⟩
  · exact ⟨none, 0, rfl⟩
  · exact ⟨_, cap, rfl⟩
section
variable {P : Program}
end
/-- a byte of one's own is written -/
theorem AnyB.set {base n c : Nat} {a : Option Addr} {w : World} (h : AnyB base n (.slice a n c) w) (k : Nat) (hk : k < n) (x : UInt8) : ∃ g, a = some ⟨g, 0, none⟩ ∧ base ≤ g ∧ g < w.heap.size ∧ (∃ u, w.cell? ⟨g, k, none⟩ = some u) ∧ w.frozen? ⟨g, k, none⟩ = false ∧ AnyB base n (.slice a n c) (w.setCell ⟨g, k, none⟩ (byteV x)) := by
  rcases h with ⟨h1, rfl⟩ | ⟨g, cap, cur, h1, h2, h3, h4, h5, h6, h7⟩
  · omega
  · cases h1
    have hO : Own w g cur 5 := h3
    obtain ⟨y, hy⟩ := h7 k hk
    refine ⟨g, rfl, h2, hO.lt, ⟨byteV y, by rw [hO.facts.1]; exact hy⟩, hO.facts.2 k, .inr ⟨g, c, cur.setIfInBounds k (byteV x), rfl, h2, hO.set k _, h4, h5, by simpa using h6, fun j hj => ?_⟩⟩
    by_cases e : k = j
    · subst e
      exact ⟨x, by rw [Array.getElem?_setIfInBounds_self_of_lt (by omega)]⟩
    · rw [Array.getElem?_setIfInBounds_ne e]; exact h7 j hj
end Go.Proofs.YtnhcplmcddlgnaaGreat
namespace Go.Proofs.YtnhcplmcddlgnaaGreat
open Go.RowKit
set_option linter.unusedSimpArgs false
set_option linter.unusedVariables false
set_option maxHeartbeats 400000 in
theorem keyOf_c (v : Val) (w : World) (h1 : I64 v.attr) (h2 : I64 v.n.num) (h3 : I64 v.n.den) :
    Calls Tryz.prog 67 #[.agg #[.int .i64 v.attr, .int .i64 v.n.num, .int .i64 v.n.den]] w (RetV w (.agg #[.int .i64 v.attr, .int .i64 v.n.num, .int .i64 v.n.den])) := by
  go_enter Tryz.func67, Tryz.ntmps67
  go_wp2_with fail
  exact bodyPost_ret (v := .agg #[.int .i64 v.attr, .int .i64 v.n.num, .int .i64 v.n.den]) (by simp [results, Tryz.results67, go_sem]) rfl ⟨rfl, (by with_reducible repeat (first | assumption | exact Ext.rfl' _ | exact Ext.new _ _ | refine Ext.alloc' ?_ _ | refine Ext.drew' ?_ | refine Ext.drewN' ?_ _ | (refine Ext.set' ?_ ?_ _; rotate_left; focus (first | omega | (simp; done) | (simp; omega))) | (refine Ext.then (b := ?_) ?_ ?_; rotate_left; rotate_left; assumption)))⟩
end Go.Proofs.YtnhcplmcddlgnaaGreat
namespace Go.Proofs.YtnhcplmcddlgnaaGreat
open Go.RowKit
set_option linter.unusedSimpArgs false
set_option linter.unusedVariables false
def encV (v : Val) : List UInt8 := encL [v.attr, v.n.num, v.n.den]
def encVs (l : List Val) : List UInt8 := l.flatMap encV
mutual
def enc : Thing → List UInt8
  | .mk c v p => encInts c ++ encI v.length ++ encVs v ++ encI p.length ++ encTs p
def encTs : List Thing → List UInt8
  | [] => []
  | x :: xs => enc x ++ encTs xs
end
theorem encTs_eq : ∀ l : List Thing, encTs l = l.flatMap enc
  | [] => rfl
  | x :: xs => by simp [encTs, encTs_eq xs]
theorem enc_eq (t : Thing) : enc t = encInts t.cls ++ encI t.vals.length ++ encVs t.vals ++ encI t.parts.length ++ encTs t.parts := by
  cases t; rfl
theorem encVs_snoc (l : List Val) (k : Nat) (h : k < l.length) : encVs (l.take (k + 1)) = encVs (l.take k) ++ encV l[k] := by
  unfold encVs; rw [take_snoc l k h, List.flatMap_append]; simp
theorem encTs_snoc (l : List Thing) (k : Nat) (h : k < l.length) : encTs (l.take (k + 1)) = encTs (l.take k) ++ enc l[k] := by
  rw [encTs_eq, encTs_eq, take_snoc l k h, List.flatMap_append]; simp
theorem SliceRep.all {α : Type} {E : PH → List Value → α → Prop} {sz : Nat} {H : PH} {v : Value} {l : List α} (h : SliceRep E sz H v l) : ∀ x ∈ l, ∃ cs, E H cs x := by
  obtain ⟨a, c, rfl, h1, h⟩ := h.form
  intro x hx
  obtain ⟨k, hk, rfl⟩ := List.mem_iff_getElem.1 hx
  obtain ⟨b, o, cs, -, -, -, h2⟩ := h.get k hk
  exact ⟨cs, h2⟩
theorem encV_len {H : PH} {cs : List Value} {v : Val} (h : ValR H cs v) : (encV v).length ≤ 30 :=
  encL_len (l := [v.attr, v.n.num, v.n.den]) (by simp; exact h.2)
theorem encVs_len {l : List Val} (h : ∀ v ∈ l, (encV v).length ≤ 30) : (encVs l).length ≤ 30 * l.length := by
  induction l with
  | nil => simp [encVs]
  | cons x l ih =>
    have h1 := h x (by simp)
    have h2 := ih fun y hy => h y (by simp [hy])
    simp only [encVs, List.flatMap_cons, List.length_append, List.length_cons] at *
    omega
theorem encTs_len {l : List Thing} (h : ∀ v ∈ l, (enc v).length ≤ 30 * v.bulk) : (encTs l).length ≤ 30 * sumN Thing.bulk l := by
  rw [encTs_eq]
  induction l with
  | nil => simp [sumN]
  | cons x l ih =>
    have h1 := h x (by simp)
    have h2 := ih fun y hy => h y (by simp [hy])
    simp only [List.flatMap_cons, List.length_append, sumN] at *
    omega
theorem i64_nat {n : Nat} (h : n ≤ 9223372036854775807) : I64 (n : Int) := by unfold I64; omega
theorem encInts_len {l : List Int} (h : ∀ x ∈ l, I64 x) (hl : l.length ≤ 9223372036854775807) : (encInts l).length ≤ 10 + 10 * l.length := by
  have h1 := encL_len h
  have h2 := uvar_len10 (n := l.length) (by omega)
  simp only [encInts, List.length_append]; omega
theorem enc_len (t : Thing) : ∀ {H : PH} {cs : List Value}, ThingR H cs t → (enc t).length ≤ 30 * t.bulk := by
  induction t using Thing.ind with
  | h t ih =>
    intro H cs hr
    obtain ⟨a1, c1, a2, c2, a3, c3, rfl, l1, l2, l3, hc, hv, hp⟩ := hr.form
    have g1 := encInts_len (IntsR.all hc) l1
    have g2 := encI_len (i64_nat l2)
    have g3 := encI_len (i64_nat l3)
    have g4 := encVs_len (l := t.vals) fun v h => by obtain ⟨cs, h⟩ := hv.all v h; exact encV_len h
    have g5 := encTs_len (l := t.parts) fun v h => by obtain ⟨cs, h'⟩ := hp.all v h; exact ih v h h'
    rw [enc_eq, Thing.bulk_eq]
    simp only [List.length_append]
    omega
theorem run_index3 (x y z v : Value) (j : Nat) (hj : (#[x, y, z] : Array Value)[j]? = some v) (w : World) : (Instr.index 90 (.agg #[x, y, z]) (.int .i64 j)).run Tryz.prog w = .ok v w := by
  have h3 : j < 3 := by have := (Array.getElem?_eq_some_iff.1 hj).1; simpa using this
  unfold Instr.index
  simp [Instr.index, run_underlying (w := w) Tryz.underlying90, asIntOf, h3, go_sem]
  simpa [h3] using hj
theorem ThingsR.atH {H : PH} {w : World} {a : Option Addr} {n cap : Nat} {xs : List Thing} (hr : ThingsR H (.slice a n cap) xs) (hl : PLe H (ph w)) (k : Nat) (hk : k < xs.length) :
    ∃ b o a1 c1 a2 c2 a3 c3, a = some ⟨b, o, none⟩ ∧ w.cell? ⟨b, o + k * 3, none⟩ = some (.slice a1 xs[k].cls.length c1) ∧ w.cell? ⟨b, o + k * 3 + 1, none⟩ = some (.slice a2 xs[k].vals.length c2) ∧
      w.cell? ⟨b, o + k * 3 + 2, none⟩ = some (.slice a3 xs[k].parts.length c3) ∧ ThingR H [.slice a1 xs[k].cls.length c1, .slice a2 xs[k].vals.length c2, .slice a3 xs[k].parts.length c3] xs[k] ∧ b < w.heap.size := by
  obtain ⟨b, o, cs, h1, h2, h3, h5⟩ := hr.get k hk
  obtain ⟨a1, c1, a2, c2, a3, c3, rfl, -⟩ := h5.form
  have g0 := cellAt_mono hl (h3 0 (by omega))
  have g1 := cellAt_mono hl (h3 1 (by omega))
  have g2 := cellAt_mono hl (h3 2 (by omega))
  rw [← cell_ph] at g0 g1 g2
  exact ⟨b, o, a1, c1, a2, c2, a3, c3, h1, g0, g1, g2, h5, cell_lt g0⟩
/-- between two steps of write: the writer has got to ys, and the box stands -/
def St (base : Nat) (w : World) (g : Nat) (row : Option Nat) (bx : Nat) (c : Array Value) (T : TypeId) (ys : List UInt8) (wr : World) : Prop :=
  ∃ r, Wr base wr g r ys ∧ ExtW w wr g row ∧ (∀ k, r = some k → row = some k ∨ w.heap.size ≤ k) ∧ Own wr bx c T ∧ bx ≠ g ∧ r ≠ some bx
section
variable {base : Nat} {w : World} {g : Nat} {row : Option Nat} {bx : Nat} {c : Array Value} {T : TypeId} {ys zs : List UInt8} {w1 w2 : World}
theorem St.ext (h : St base w g row bx c T ys w1) (e : Ext w1 w2) : St base w g row bx c T ys w2 := by
  obtain ⟨r, h1, h2, h3, h4, h5⟩ := h
  exact ⟨r, h1.keep e, h2.then (e.toW g r) h3, h3, h4.keep e, h5⟩
theorem St.wto (h : St base w g row bx c T ys w1) : Wto base w g row ys w1 := by
  obtain ⟨r, h1, h2, h3, h4, h5⟩ := h
  exact ⟨r, h1, h2, h3⟩
theorem St.own (h : St base w g row bx c T ys w1) : Own w1 bx c T := by
  obtain ⟨r, h1, h2, h3, h4, h5⟩ := h
  exact h4
theorem St.call {f : FuncId} {args : Array Value} {P : Program} (h : St base w g row bx c T ys w1) (e : Ext w1 w2)
    (hc : ∀ row', Wr base w2 g row' ys → Calls P f args w2 (WrP base w2 g row' zs)) :
    Calls P f args w2 (fun e w3 => e = .returned (.tuple #[]) ∧ St base w g row bx c T zs w3) := by
  obtain ⟨r, h1, h2, h3, h4, h5, h6⟩ := h.ext e
  refine (hc r h1).mono ?_
  rintro e w3 ⟨rfl, r', hT1, hT2, hT3⟩
  refine ⟨rfl, r', hT1, h2.then hT2 h3, fun k hk => ?_, h4.keepW hT2 h5 h6, h5, fun e => ?_⟩
  · rcases hT3 k hk with h | h
    · exact h3 k h
    · right; exact Nat.le_trans h2.size h
  · rcases hT3 bx e with h | h
    · exact h6 h
    · have := h4.lt; omega
end
set_option maxRecDepth 100000 in
set_option maxHeartbeats 2000000 in
theorem write_c (H : PH) (base g : Nat) (hB : ∀ k, base ≤ k → H k = none) (t : Thing) : ∀ (cs : List Value) (row : Option Nat) (xs : List UInt8) (w : World), ThingR H cs t → PLe H (ph w) → Wr base w g row xs → xs.length + 30 * t.bulk ≤ 1000000000 →
    Calls Tryz.prog 55 #[.pointer (some ⟨g, 0, none⟩), .agg cs.toArray] w (WrP base w g row (xs ++ enc t)) := by
  have hB' := Lib.hid hB; clear hB
  induction t using Thing.ind with
  | h t ih =>
    intro cs row xs w hr hP hW hlen
    obtain ⟨a1, c1, a2, c2, a3, c3, rfl, l1, l2, l3, hc, hv, hp⟩ := hr.form
    have HI := Lib.hid ih; clear ih
    have hbk := Thing.bulk_eq t
    have hgl := hW.lt
    have hS : St base w g row w.heap.size #[.slice a1 t.cls.length c1, .slice a2 t.vals.length c2, .slice a3 t.parts.length c3] 27 xs (w.alloc (.cells #[.slice a1 t.cls.length c1, .slice a2 t.vals.length c2, .slice a3 t.parts.length c3] 27)) :=
      ⟨row, hW.keep (Ext.new _ _), (Ext.new _ _).toW _ _, fun _ h => .inl h, Own.new _ _ _, by omega, fun e => by have := hW.row _ e; omega⟩
    have el1 := encInts_len (IntsR.all hc) l1
    have el2 := encI_len (i64_nat l2)
    have el3 := encI_len (i64_nat l3)
    go_enter Tryz.func55, Tryz.ntmps55
    go_wp2_with fail
    refine (hS.call (Ext.rfl' _) fun row' hWr => ints_c H base g row' _ t.cls _ _ (hP.trans (Ext.ple (by with_reducible repeat (first | assumption | exact Ext.rfl' _ | exact Ext.new _ _ | refine Ext.alloc' ?_ _ | refine Ext.drew' ?_ | refine Ext.drewN' ?_ _ | (refine Ext.set' ?_ ?_ _; rotate_left; focus (first | omega | (simp; done) | (simp; omega))) | (refine Ext.then (b := ?_) ?_ ?_; rotate_left; rotate_left; assumption))))) hB'.out hc hWr (by omega)).mono ?_
    rintro e w1 ⟨rfl, hS1⟩
    obtain ⟨hoc, hof⟩ := hS1.own.facts
    clear hS
    go_wp2_with fail
    refine (hS1.call (by with_reducible repeat (first | assumption | exact Ext.rfl' _ | exact Ext.new _ _ | refine Ext.alloc' ?_ _ | refine Ext.drew' ?_ | refine Ext.drewN' ?_ _ | (refine Ext.set' ?_ ?_ _; rotate_left; focus (first | omega | (simp; done) | (simp; omega))) | (refine Ext.then (b := ?_) ?_ ?_; rotate_left; rotate_left; assumption))) fun row' hWr => int_c base g row' _ _ _ (i64_nat l2) hWr (by simp only [List.length_append]; omega)).mono ?_
    rintro e w2 ⟨rfl, hS2⟩
    clear hS1 hoc hof
    obtain ⟨hoc, hof⟩ := hS2.own.facts
    have hbl := hS2.own.lt
    generalize hx : xs ++ encInts t.cls ++ encI t.vals.length = ys at *
    have hyl : ys.length ≤ xs.length + 20 + 10 * t.cls.length := by rw [← hx]; simp only [List.length_append]; omega
    replace hx := Lib.hid hx
    go_wp2_with fail
    go_loopw [22] (fun i wr => ∃ k : Nat, k ≤ t.vals.length ∧ i = .int .i64 k ∧ St base w g row w.heap.size #[.slice a1 t.cls.length c1, .slice a2 t.vals.length c2, .slice a3 t.parts.length c3] 27 (ys ++ encVs (t.vals.take k)) wr) (fun i _ => t.vals.length - (intOf i).toNat)
    case atStart => exact ⟨0, Nat.zero_le _, rfl, by simpa [encVs] using hS2⟩
    case round =>
      clear hoc hof hS2
      obtain ⟨k, hk, rfl, hSr⟩ := hrel
      have hPr := Wto.ple hP hB'.out hW hSr.wto
      by_cases hlt : k < t.vals.length
      · obtain ⟨b, o, rfl, h0, h1, h2, i0, i1, i2, hbl2⟩ := ValsR.at (hv.mono mono_ValR hPr) k hlt
        have hs := Lib.hid (encVs_snoc t.vals k hlt)
        have hel : (encVs (t.vals.take k)).length ≤ 30 * k := by
          have := encVs_len (l := t.vals.take k) fun v h => by obtain ⟨cs, h⟩ := hv.all v (List.mem_of_mem_take h); exact encV_len h
          rw [List.length_take] at this; omega
        have hel2 := encV_len (H := H) (v := t.vals[k]) ⟨rfl, i0, i1, i2⟩
        generalize t.vals[k] = v at *
        generalize hys : ys ++ encVs (t.vals.take k) = ys' at *
        have hyl' : ys'.length ≤ ys.length + 30 * k := by rw [← hys]; simp only [List.length_append]; omega
        replace hys := Lib.hid hys
        clear hv
        go_wp2_with fail
        refine (keyOf_c v _ i0 i1 i2).mono ?_
        rintro e w3 ⟨rfl, hb3⟩
        replace hSr := hSr.ext (w2 := w3) (by with_reducible repeat (first | assumption | exact Ext.rfl' _ | exact Ext.new _ _ | refine Ext.alloc' ?_ _ | refine Ext.drew' ?_ | refine Ext.drewN' ?_ _ | (refine Ext.set' ?_ ?_ _; rotate_left; focus (first | omega | (simp; done) | (simp; omega))) | (refine Ext.then (b := ?_) ?_ ?_; rotate_left; rotate_left; assumption)))
        go_wp2_with fail
        go_loopw [28] (fun i wq => ∃ j : Nat, j ≤ 3 ∧ i = .int .i64 j ∧ St base w g row w.heap.size #[.slice a1 t.cls.length c1, .slice (some ⟨b, o, none⟩) t.vals.length c2, .slice a3 t.parts.length c3] 27 (ys' ++ encL ([v.attr, v.n.num, v.n.den].take j)) wq) (fun i _ => 3 - (intOf i).toNat)
        case atStart => exact ⟨0, by omega, rfl, by simpa [encL] using hSr⟩
        case round =>
          clear hSr
          obtain ⟨j, hj, rfl, hSq⟩ := hrel
          by_cases hj3 : j < 3
          · have hel3 := encL_len (l := [v.attr, v.n.num, v.n.den].take j) (fun x hx => by
              have := List.mem_of_mem_take hx
              simp at this
              rcases this with rfl | rfl | rfl <;> assumption)
            have hel4 : ([v.attr, v.n.num, v.n.den].take j).length ≤ 3 := by simp; omega
            have hs4 := encL_snoc [v.attr, v.n.num, v.n.den] j hj3
            obtain ⟨x, hx4, hx5⟩ : ∃ x, I64 x ∧ (#[Value.int .i64 v.attr, .int .i64 v.n.num, .int .i64 v.n.den] : Array Value)[j]? = some (.int .i64 x) ∧ [v.attr, v.n.num, v.n.den][j] = x := by
              match j, hj3 with
              | 0, _ => exact ⟨_, i0, rfl, rfl⟩
              | 1, _ => exact ⟨_, i1, rfl, rfl⟩
              | 2, _ => exact ⟨_, i2, rfl, rfl⟩
            obtain ⟨hx5, hx6⟩ := hx5
            rw [hx6] at hs4
            replace hs4 := Lib.hid hs4
            have hix := run_index3 _ _ _ _ j hx5
            clear hx5 hx6 h0 h1 h2
            go_wp2_with fail
            refine (hSq.call (by with_reducible repeat (first | assumption | exact Ext.rfl' _ | exact Ext.new _ _ | refine Ext.alloc' ?_ _ | refine Ext.drew' ?_ | refine Ext.drewN' ?_ _ | (refine Ext.set' ?_ ?_ _; rotate_left; focus (first | omega | (simp; done) | (simp; omega))) | (refine Ext.then (b := ?_) ?_ ?_; rotate_left; rotate_left; assumption))) fun row' hWr => int_c base g row' _ x _ hx4 hWr (by simp only [List.length_append]; omega)).mono ?_
            rintro e w4 ⟨rfl, hS4⟩
            rw [List.append_assoc, ← hs4.out] at hS4
            clear hSq
            go_wp2_with fail
            go_roundw
            case rel => exact ⟨j + 1, by omega, by go_num, hS4⟩
            case measure => simp [intOf]; omega
          · have hj4 : ([v.attr, v.n.num, v.n.den].take j) = [v.attr, v.n.num, v.n.den] := List.take_of_length_le (by simp; omega)
            rw [hj4, ← hys.out, List.append_assoc] at hSq
            replace hSq := Lib.hid hSq
            go_wp2_with fail
            go_roundw
            case rel => exact ⟨k + 1, by omega, by go_num, by rw [hs.out]; exact hSq.out⟩
            case measure => simp [intOf]; omega
      · rw [List.take_of_length_le (by omega)] at hSr
        obtain ⟨hoc, hof⟩ := hSr.own.facts
        have hbl := hSr.own.lt
        have elv : (encVs t.vals).length ≤ 30 * t.vals.length := encVs_len fun v h => by obtain ⟨cs, h⟩ := hv.all v h; exact encV_len h
        clear hPr hv hr
        go_wp2_with fail
        refine (hSr.call (by with_reducible repeat (first | assumption | exact Ext.rfl' _ | exact Ext.new _ _ | refine Ext.alloc' ?_ _ | refine Ext.drew' ?_ | refine Ext.drewN' ?_ _ | (refine Ext.set' ?_ ?_ _; rotate_left; focus (first | omega | (simp; done) | (simp; omega))) | (refine Ext.then (b := ?_) ?_ ?_; rotate_left; rotate_left; assumption))) fun row' hWr => int_c base g row' _ _ _ (i64_nat l3) hWr (by simp only [List.length_append]; omega)).mono ?_
        rintro e w3 ⟨rfl, hS3⟩
        clear hSr hoc hof hbl
        obtain ⟨hoc, hof⟩ := hS3.own.facts
        have hbl := hS3.own.lt
        generalize hzs : ys ++ encVs t.vals ++ encI t.parts.length = zs at *
        have hzl : zs.length ≤ ys.length + 30 * t.vals.length + 10 := by rw [← hzs]; simp only [List.length_append]; omega
        replace hzs := Lib.hid hzs
        go_wp2_with fail
        go_loopw [44] (fun i wr => ∃ k : Nat, k ≤ t.parts.length ∧ i = .int .i64 k ∧ St base w g row w.heap.size #[.slice a1 t.cls.length c1, .slice a2 t.vals.length c2, .slice a3 t.parts.length c3] 27 (zs ++ encTs (t.parts.take k)) wr) (fun i _ => t.parts.length - (intOf i).toNat)
        case atStart => exact ⟨0, Nat.zero_le _, rfl, by simpa [encTs] using hS3⟩
        case round =>
          clear hoc hof hS3
          obtain ⟨k, hk, rfl, hSr⟩ := hrel
          have hPr := Wto.ple hP hB'.out hW hSr.wto
          by_cases hlt : k < t.parts.length
          · obtain ⟨b, o, b1, d1, b2, d2, b3, d3, rfl, h0, h1, h2, hE, hbl2⟩ := ThingsR.atH hp hPr k hlt
            have hs := Lib.hid (encTs_snoc t.parts k hlt)
            have hel : (encTs (t.parts.take k)).length ≤ 30 * sumN Thing.bulk (t.parts.take k) := encTs_len fun v h => by obtain ⟨cs, h⟩ := hp.all v (List.mem_of_mem_take h); exact enc_len v h
            have hst := sumN_take Thing.bulk t.parts k hlt
            have hst2 := sumN_take_le Thing.bulk t.parts (k + 1)
            rw [hst] at hst2
            have hmem := Lib.hid (List.getElem_mem hlt)
            clear hp hst
            generalize t.parts[k] = x at *
            go_wp2_with fail
            refine (hSr.call (w2 := wr.alloc _) (by with_reducible repeat (first | assumption | exact Ext.rfl' _ | exact Ext.new _ _ | refine Ext.alloc' ?_ _ | refine Ext.drew' ?_ | refine Ext.drewN' ?_ _ | (refine Ext.set' ?_ ?_ _; rotate_left; focus (first | omega | (simp; done) | (simp; omega))) | (refine Ext.then (b := ?_) ?_ ?_; rotate_left; rotate_left; assumption))) fun row' hWr => HI.out x hmem.out _ row' _ _ hE (hPr.trans (Ext.ple (by with_reducible repeat (first | assumption | exact Ext.rfl' _ | exact Ext.new _ _ | refine Ext.alloc' ?_ _ | refine Ext.drew' ?_ | refine Ext.drewN' ?_ _ | (refine Ext.set' ?_ ?_ _; rotate_left; focus (first | omega | (simp; done) | (simp; omega))) | (refine Ext.then (b := ?_) ?_ ?_; rotate_left; rotate_left; assumption))))) hWr (by simp only [List.length_append]; omega)).mono ?_
            rintro e w4 ⟨rfl, hS4⟩
            rw [List.append_assoc, ← hs.out] at hS4
            clear hSr hPr h0 h1 h2 hE
            go_wp2_with fail
            go_roundw
            case rel => exact ⟨k + 1, by omega, by go_num, hS4⟩
            case measure => simp [intOf]; omega
          · rw [List.take_of_length_le (by omega), ← hzs.out, ← hx.out] at hSr
            clear hPr hp
            go_wp2_with fail
            refine bodyPost_ret (v := .tuple #[]) (by simp [results, Tryz.results55, go_sem]) rfl ⟨rfl, ?_⟩
            have := hSr.wto
            rw [enc_eq]
            simpa only [List.append_assoc] using this
/-- what Encode returns -/
noncomputable def encOf (t : Thing) : List UInt8 := if validV t = 0 then enc t else []
def EncP (w : World) (t : Thing) (e : Ending) (w' : World) : Prop :=
  ∃ v, e = .returned (.tuple #[v, .int .i64 (validV t)]) ∧ OwnS w.heap.size noH w' ByteR 1 5 v (encOf t) ∧ Ext w w'
theorem encode_c (t : Thing) (cs : List Value) (w : World) (hr : ThingR (ph w) cs t) (hs : t.bulk ≤ 1000000) :
    Calls Tryz.prog 25 #[.agg cs.toArray] w (EncP w t) := by
  obtain ⟨a1, c1, a2, c2, a3, c3, rfl, l1, l2, l3, -, -, -⟩ := hr.form
  have hel := enc_len t hr
  go_enter Tryz.func25, Tryz.ntmps25
  go_wp2_with fail
  refine (valid_c t _ _ (mono_ThingR _ _ _ _ (Ext.ple (by with_reducible repeat (first | assumption | exact Ext.rfl' _ | exact Ext.new _ _ | refine Ext.alloc' ?_ _ | refine Ext.drew' ?_ | refine Ext.drewN' ?_ _ | (refine Ext.set' ?_ ?_ _; rotate_left; focus (first | omega | (simp; done) | (simp; omega))) | (refine Ext.then (b := ?_) ?_ ?_; rotate_left; rotate_left; assumption)))) hr) hs).mono ?_
  rintro e w1 ⟨rfl, hb1⟩
  have ho : Own w1 _ _ _ := Own.keep (Own.new _ _ _) hb1
  obtain ⟨hoc, hof⟩ := ho.facts
  have hbl := ho.lt
  have hb : Ext w w1 := (by with_reducible repeat (first | assumption | exact Ext.rfl' _ | exact Ext.new _ _ | refine Ext.alloc' ?_ _ | refine Ext.drew' ?_ | refine Ext.drewN' ?_ _ | (refine Ext.set' ?_ ?_ _; rotate_left; focus (first | omega | (simp; done) | (simp; omega))) | (refine Ext.then (b := ?_) ?_ ?_; rotate_left; rotate_left; assumption)))
  clear hb1
  by_cases hv : validV t = 0
  · have hE : Hid (EncP w t = fun e w' => ∃ v, e = .returned (.tuple #[v, .int .i64 0]) ∧ OwnS w.heap.size noH w' ByteR 1 5 v (enc t) ∧ Ext w w') := by
      show _ = _
      funext e w'
      unfold EncP encOf; rw [if_pos hv, hv]
    rw [hv]
    go_wp2_with fail
    refine (write_c (ph w1) w1.heap.size w1.heap.size (fun k hk => ph_none hk) t _ none [] _ (mono_ThingR _ _ _ _ (Ext.ple (by with_reducible repeat (first | assumption | exact Ext.rfl' _ | exact Ext.new _ _ | refine Ext.alloc' ?_ _ | refine Ext.drew' ?_ | refine Ext.drewN' ?_ _ | (refine Ext.set' ?_ ?_ _; rotate_left; focus (first | omega | (simp; done) | (simp; omega))) | (refine Ext.then (b := ?_) ?_ ?_; rotate_left; rotate_left; assumption)))) hr) (Ext.ple (by with_reducible repeat (first | assumption | exact Ext.rfl' _ | exact Ext.new _ _ | refine Ext.alloc' ?_ _ | refine Ext.drew' ?_ | refine Ext.drewN' ?_ _ | (refine Ext.set' ?_ ?_ _; rotate_left; focus (first | omega | (simp; done) | (simp; omega))) | (refine Ext.then (b := ?_) ?_ ?_; rotate_left; rotate_left; assumption)))) (Wr.fresh w1) (by simp; omega)).mono ?_
    rintro e w2 ⟨rfl, row, hW, hx, -⟩
    have hb2 : Ext w w2 := hx.toExt (by with_reducible repeat (first | assumption | exact Ext.rfl' _ | exact Ext.new _ _ | refine Ext.alloc' ?_ _ | refine Ext.drew' ?_ | refine Ext.drewN' ?_ _ | (refine Ext.set' ?_ ?_ _; rotate_left; focus (first | omega | (simp; done) | (simp; omega))) | (refine Ext.then (b := ?_) ?_ ?_; rotate_left; rotate_left; assumption))) hb.size (fun i hi => by cases hi)
    clear hoc hof hbl hx
    go_wp2_with fail
    refine (done_c w1.heap.size w1.heap.size row _ _ hW (by simp; omega)).mono ?_
    rintro e w3 ⟨v, rfl, hF, hb3⟩
    have hs2 := hb2.size
    obtain ⟨a, c, rfl, -⟩ := hF.form
    go_wp2_with fail
    rw [hE.out]
    rw [List.nil_append] at hF
    exact bodyPost_ret (v := .tuple #[.slice a (enc t).length c, .int .i64 0]) (by simp [results, Tryz.results25, go_sem]) rfl ⟨_, rfl, hF.base (by omega), (by with_reducible repeat (first | assumption | exact Ext.rfl' _ | exact Ext.new _ _ | refine Ext.alloc' ?_ _ | refine Ext.drew' ?_ | refine Ext.drewN' ?_ _ | (refine Ext.set' ?_ ?_ _; rotate_left; focus (first | omega | (simp; done) | (simp; omega))) | (refine Ext.then (b := ?_) ?_ ?_; rotate_left; rotate_left; assumption)))⟩
  · have hE : Hid (EncP w t = fun e w' => ∃ v, e = .returned (.tuple #[v, .int .i64 (validV t)]) ∧ OwnS w.heap.size noH w' ByteR 1 5 v [] ∧ Ext w w') := by
      show _ = _
      funext e w'
      unfold EncP encOf; rw [if_neg hv]
    have hvb : (validV t == 0) = false := by simpa using hv
    replace hv := Lib.hid hv
    generalize validV t = z at *
    clear hel
    go_wp2_with fail
    rw [hE.out]
    exact bodyPost_ret (v := .tuple #[.slice none 0 0, .int .i64 z]) (by simp [results, Tryz.results25, go_sem]) rfl ⟨_, rfl, OwnS.nil _ _ _ _ _ _, (by with_reducible repeat (first | assumption | exact Ext.rfl' _ | exact Ext.new _ _ | refine Ext.alloc' ?_ _ | refine Ext.drew' ?_ | refine Ext.drewN' ?_ _ | (refine Ext.set' ?_ ?_ _; rotate_left; focus (first | omega | (simp; done) | (simp; omega))) | (refine Ext.then (b := ?_) ?_ ?_; rotate_left; rotate_left; assumption)))⟩
end Go.Proofs.YtnhcplmcddlgnaaGreat
