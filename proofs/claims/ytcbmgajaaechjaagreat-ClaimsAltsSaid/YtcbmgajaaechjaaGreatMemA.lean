/- The memory of a call under way: boxes and slices of its own that it may still write (chunks), what is read and stands (H), and nothing old changed.; More on the memory of a call: a slice that a call has made.; Mem across the steps of a range over a function. -/
import Derived.Test.YtcbmgajaaechjaaGreatOwnS
import Derived.Test.YtcbmgajaaechjaaGreatRets
namespace Go.Proofs.YtcbmgajaaechjaaGreat
open Go.RowKit
set_option linter.unusedSimpArgs false
set_option linter.unusedVariables false
structure Chunk where
  foot : Option Nat
  ok : PH → World → Prop
  lt : ∀ {H w k}, ok H w → foot = some k → k < w.heap.size
  loc : ∀ {H w w'}, ok H w → (∀ k, foot = some k → w'.heap[k]? = w.heap[k]?) → ok H w'
  mono : ∀ {H H' w}, ok H w → PLe H H' → ok H' w
/-- a block of just these cells -/
def box (b : Nat) (c : Array Value) (T : TypeId) : Chunk where
  foot := some b
  ok := fun _ w => Own w b c T
  lt := fun h e => by cases e; exact h.lt
  loc := fun h e => by unfold Own at *; rw [e b rfl]; exact h
  mono := fun h _ => h
def OwnC {α : Type} (H : PH) (w : World) (E : PH → List Value → α → Prop) (sz : Nat) (T : TypeId) (v : Value) (xs : List α) : Prop :=
  (v = .slice none 0 0 ∧ xs = []) ∨
  ∃ g cap cur, v = .slice (some ⟨g, 0, none⟩) xs.length cap ∧ w.heap[g]? = some (.cells cur T (0, 0)) ∧ xs.length ≤ cap ∧ cap ≤ maxLen ∧ cur.size = cap * sz ∧ Cells H E sz (cur.toList.take (xs.length * sz)) xs
/-- a slice whole in a block of its own, or nil -/
def own {α : Type} {E : PH → List Value → α → Prop} (hm : Mono E) (sz : Nat) (T : TypeId) (v : Value) (xs : List α) : Chunk where
  foot := v.ownBlock
  ok := fun H w => OwnC H w E sz T v xs
  lt := fun h e => by
    rcases h with ⟨rfl, _⟩ | ⟨g, cap, cur, rfl, h1, _⟩
    · cases e
    · cases e; exact (Array.getElem?_eq_some_iff.1 h1).1
  loc := fun h e => by
    rcases h with h | ⟨g, cap, cur, rfl, h1, h2⟩
    · exact .inl h
    · exact .inr ⟨g, cap, cur, rfl, by rw [e g rfl]; exact h1, h2⟩
  mono := fun h hl => by
    rcases h with h | ⟨g, cap, cur, rfl, h1, h2, h3, h4, h5⟩
    · exact .inl h
    · exact .inr ⟨g, cap, cur, rfl, h1, h2, h3, h4, h5.mono fun _ _ => hm _ _ _ _ hl⟩
def nop : Chunk := ⟨none, fun _ _ => True, fun _ e => (by cases e), fun _ _ => trivial, fun _ _ => trivial⟩
structure Mem (w0 : World) (H0 : PH) (L : List Chunk) (H : PH) (w : World) : Prop where
  l0 : PLe H0 (ph w0)
  le : PLe H0 H
  ub : PLe H (up H0 w0 w)
  ex : Ext w0 w
  ok : ∀ (i : Nat) (c : Chunk), L[i]? = some c → c.ok H w
  fr : ∀ (i : Nat) (c : Chunk), L[i]? = some c → ∀ k, c.foot = some k → w0.heap.size ≤ k ∧ H k = none
  ap : ∀ (i j : Nat) (c d : Chunk), i ≠ j → L[i]? = some c → L[j]? = some d → ∀ k, c.foot = some k → d.foot ≠ some k
theorem up_sub {H : PH} {w w1 w' : World} (h : PLe H (ph w)) (e : Ext w w1) : PLe (up H w1 w') (up H w w') := by
  intro k o hk
  unfold up at *
  have := e.size
  split at hk
  · have h1 := ph_lt (h k o hk); rw [if_pos h1]; exact hk
  · rw [if_neg (by omega)]; exact hk
theorem Cells.get {α : Type} {E : PH → List Value → α → Prop} {H : PH} {sz : Nat} : ∀ {xs : List α} {c : List Value} (k : Nat) (h : k < xs.length), Cells H E sz c xs → ∃ cs, cs.length = sz ∧ (∀ j, j < sz → c[k * sz + j]? = some (cs.getD j undef)) ∧ E H cs xs[k]
  | [], _, k, hk, _ => by simp at hk
  | y :: ys, c, 0, _, hc => by
    obtain ⟨cs, rest, rfl, h1, h2, h3⟩ := hc
    exact ⟨cs, h1, fun j hj => by rw [Nat.zero_mul, Nat.zero_add, List.getElem?_append_left (by omega)]; simp [List.getD_eq_getElem?_getD, show j < cs.length by omega], h2⟩
  | y :: ys, c, k + 1, hk, hc => by
    obtain ⟨cs, rest, rfl, h1, h2, h3⟩ := hc
    obtain ⟨ds, g1, g2, g3⟩ := Cells.get k (by simpa using hk) h3
    refine ⟨ds, g1, fun j hj => ?_, g3⟩
    rw [List.getElem?_append_right (by rw [Nat.add_mul]; omega), ← g2 j hj]
    congr 1; rw [Nat.add_mul]; omega
theorem Cells.set1 {α : Type} {E : PH → List Value → α → Prop} {H : PH} {u : Value} {x : α} (hx : E H [u] x) : ∀ {xs : List α} {c : List Value} (k : Nat), k < xs.length → Cells H E 1 c xs → Cells H E 1 (c.set k u) (xs.set k x)
  | [], _, k, hk, _ => by simp at hk
  | y :: ys, c, 0, _, hc => by
    obtain ⟨cs, rest, rfl, h1, h2, h3⟩ := hc
    match cs, h1 with
    | [a], _ => exact ⟨[u], rest, rfl, rfl, hx, h3⟩
  | y :: ys, c, k + 1, hk, hc => by
    obtain ⟨cs, rest, rfl, h1, h2, h3⟩ := hc
    match cs, h1 with
    | [a], _ => exact ⟨[a], rest.set k u, rfl, rfl, h2, Cells.set1 hx k (by simpa using hk) h3⟩
theorem Cells.set3 {α : Type} {E : PH → List Value → α → Prop} {H : PH} {u v t : Value} {x : α} (hx : E H [u, v, t] x) : ∀ {xs : List α} {c : List Value} (k : Nat), k < xs.length → Cells H E 3 c xs → Cells H E 3 (((c.set (k * 3) u).set (k * 3 + 1) v).set (k * 3 + 2) t) (xs.set k x)
  | [], _, k, hk, _ => by simp at hk
  | y :: ys, c, 0, _, hc => by
    obtain ⟨cs, rest, rfl, h1, h2, h3⟩ := hc
    match cs, h1 with
    | [a, b, d], _ => exact ⟨[u, v, t], rest, rfl, rfl, hx, h3⟩
  | y :: ys, c, k + 1, hk, hc => by
    obtain ⟨cs, rest, rfl, h1, h2, h3⟩ := hc
    match cs, h1 with
    | [a, b, d], _ =>
      refine ⟨[a, b, d], ((rest.set (k * 3) u).set (k * 3 + 1) v).set (k * 3 + 2) t, ?_, rfl, h2, Cells.set3 hx k (by simpa using hk) h3⟩
      have e1 : (k + 1) * 3 = k * 3 + 1 + 1 + 1 := by omega
      have e2 : (k + 1) * 3 + 1 = k * 3 + 1 + 1 + 1 + 1 := by omega
      have e3 : (k + 1) * 3 + 2 = k * 3 + 2 + 1 + 1 + 1 := by omega
      rw [e2, e3, e1]
      rfl
section
variable {w0 w w' : World} {H0 H : PH} {L : List Chunk}
theorem Mem.start (w : World) (H : PH) (h : PLe H (ph w)) : Mem w H [] H w :=
  ⟨h, PLe.refl _, ple_up h, Ext.rfl' w, by simp, by simp, by simp⟩
theorem Mem.ple (h : Mem w0 H0 L H w) : PLe H (ph w) := h.ub.trans (up_ple h.l0 h.ex)
theorem Mem.lt (h : Mem w0 H0 L H w) {i : Nat} {c : Chunk} (hi : L[i]? = some c) {k : Nat} (hk : c.foot = some k) : k < w.heap.size := c.lt (h.ok i c hi) hk
/-- a call that returns nothing of memory; a new block that nobody writes -/
theorem Mem.ext (h : Mem w0 H0 L H w) (e : Ext w w') : Mem w0 H0 L H w' :=
  ⟨h.l0, h.le, h.ub.trans (up_then h.ex e), h.ex.then e, fun i c hi => c.loc (h.ok i c hi) fun k hk => e.block k (h.lt hi hk), h.fr, h.ap⟩
/-- all that a call has made joins what is read -/
theorem Mem.up (h : Mem w0 H0 L H w) (e : Ext w w') : Mem w0 H0 L (up H w w') w' := by
  have hl : PLe H (Proofs.YtcbmgajaaechjaaGreat.up H w w') := ple_up h.ple
  exact ⟨h.l0, h.le.trans hl, (up_mono h.ub).trans (up_up h.ex e), h.ex.then e, fun i c hi => c.mono (c.loc (h.ok i c hi) fun k hk => e.block k (h.lt hi hk)) hl,
    fun i c hi k hk => ⟨(h.fr i c hi k hk).1, up_none (h.fr i c hi k hk).2 (h.lt hi hk)⟩, h.ap⟩
theorem getElem?_snoc {α : Type} {l : List α} {x y : α} {i : Nat} (h : (l ++ [x])[i]? = some y) : l[i]? = some y ∨ i = l.length ∧ x = y := by
  rcases Nat.lt_trichotomy i l.length with hi | hi | hi
  · rw [List.getElem?_append_left hi] at h; exact .inl h
  · subst hi; simp at h; exact .inr ⟨rfl, h⟩
  · rw [List.getElem?_append_right (by omega), List.getElem?_eq_none (by simp; omega)] at h; cases h
/-- a chunk more -/
theorem Mem.add (h : Mem w0 H0 L H w) (c : Chunk) (hc : c.ok H w) (hf : ∀ k, c.foot = some k → w0.heap.size ≤ k ∧ H k = none ∧ ∀ (i : Nat) (d : Chunk), L[i]? = some d → d.foot ≠ some k) : Mem w0 H0 (L ++ [c]) H w := by
  refine ⟨h.l0, h.le, h.ub, h.ex, fun i d hi => ?_, fun i d hi k hk => ?_, fun i j d e hij hi hj k hk he => ?_⟩
  · rcases getElem?_snoc hi with hi | ⟨-, rfl⟩
    · exact h.ok i d hi
    · exact hc
  · rcases getElem?_snoc hi with hi | ⟨-, rfl⟩
    · exact h.fr i d hi k hk
    · exact ⟨(hf k hk).1, (hf k hk).2.1⟩
  · rcases getElem?_snoc hi with h1 | ⟨h1, rfl⟩
    · rcases getElem?_snoc hj with h2 | ⟨h2, rfl⟩
      · exact h.ap i j d e hij h1 h2 k hk he
      · exact (hf k he).2.2 i d h1 hk
    · rcases getElem?_snoc hj with h2 | ⟨h2, rfl⟩
      · exact (hf k hk).2.2 j e h2 he
      · exact hij (h1.trans h2.symm)
theorem fresh_none (h : PLe H (ph w)) {k : Nat} (hk : w.heap.size ≤ k) : H k = none := by
  cases hx : H k with
  | none => rfl
  | some o => exact absurd (ph_lt (h _ _ hx)) (by omega)
/-- a new block of one's own -/
theorem Mem.new (h : Mem w0 H0 L H w) (c : Array Value) (T : TypeId) : Mem w0 H0 (L ++ [box w.heap.size c T]) H (w.alloc (.cells c T)) := by
  refine (h.ext (Ext.new w _)).add _ (Own.new w c T) fun k hk => ?_
  cases hk
  exact ⟨h.ex.size, fresh_none h.ple (Nat.le_refl _), fun i d hi he => by have := h.lt hi he; omega⟩
theorem Mem.new' (h : Mem w0 H0 L H w) (c : Array Value) (T : TypeId) {n : Nat} (hn : n = w.heap.size) : Mem w0 H0 (L ++ [box n c T]) H (w.alloc (.cells c T)) := by
  subst hn; exact h.new c T
/-- an empty slice -/
theorem Mem.nil (h : Mem w0 H0 L H w) {α : Type} {E : PH → List Value → α → Prop} (hm : Mono E) (sz : Nat) (T : TypeId) : Mem w0 H0 (L ++ [own hm sz T (.slice none 0 0) ([] : List α)]) H w :=
  h.add _ (.inl ⟨rfl, rfl⟩) fun k hk => by cases hk
theorem Mem.put (h : Mem w0 H0 L H w) (i : Nat) {c c' : Chunk} (hi : L[i]? = some c) (hok : c'.ok H w') (hf : ∀ k, c'.foot = some k → c.foot = some k ∨ w.heap.size ≤ k) (he : Ext w0 w')
    (hb : ∀ k, k < w.heap.size → c.foot ≠ some k → w'.heap[k]? = w.heap[k]?) : Mem w0 H0 (L.set i c') H w' := by
  have hil : i < L.length := (List.getElem?_eq_some_iff.1 hi).1
  have get : ∀ {j d}, (L.set i c')[j]? = some d → j = i ∧ d = c' ∨ j ≠ i ∧ L[j]? = some d := by
    intro j d hj
    by_cases hij : i = j
    · subst hij; rw [List.getElem?_set_self hil] at hj; exact .inl ⟨rfl, (Option.some.inj hj).symm⟩
    · rw [List.getElem?_set_ne hij] at hj; exact .inr ⟨Ne.symm hij, hj⟩
  refine ⟨h.l0, h.le, fun k o hk => ?_, he, fun j d hj => ?_, fun j d hj k hk => ?_, fun j l d e hjl hj hl k hk hke => ?_⟩
  · have h1 := h.ub k o hk
    unfold Proofs.YtcbmgajaaechjaaGreat.up at *
    split
    · rename_i hlt; rw [if_pos hlt] at h1; exact h1
    · rename_i hlt; rw [if_neg hlt] at h1
      show w'.heap[k]? = some o
      rw [hb k (ph_lt h1) fun e => by rw [(h.fr i c hi k e).2] at hk; cases hk]
      exact h1
  · rcases get hj with ⟨-, rfl⟩ | ⟨hji, hj⟩
    · exact hok
    · exact d.loc (h.ok j d hj) fun k hk => hb k (h.lt hj hk) fun e => h.ap i j c d (Ne.symm hji) hi hj k e hk
  · rcases get hj with ⟨-, rfl⟩ | ⟨-, hj⟩
    · rcases hf k hk with h1 | h1
      · exact h.fr i c hi k h1
      · exact ⟨Nat.le_trans h.ex.size h1, fresh_none h.ple h1⟩
    · exact h.fr j d hj k hk
  · rcases get hj with ⟨h1, rfl⟩ | ⟨h1, g1⟩
    · rcases get hl with ⟨h2, rfl⟩ | ⟨h2, g2⟩
      · exact hjl (h1.trans h2.symm)
      · rcases hf k hk with h3 | h3
        · exact h.ap i l c e (Ne.symm h2) hi g2 k h3 hke
        · have := h.lt g2 hke; omega
    · rcases get hl with ⟨h2, rfl⟩ | ⟨h2, g2⟩
      · rcases hf k hke with h3 | h3
        · exact h.ap i j c d (Ne.symm h1) hi g1 k h3 hk
        · have := h.lt g1 hk; omega
      · exact h.ap j l d e hjl g1 g2 k hk hke
/-- a box is written -/
theorem Mem.set (h : Mem w0 H0 L H w) (i : Nat) {b : Nat} {c : Array Value} {T : TypeId} (hi : L[i]? = some (box b c T)) (j : Nat) (v : Value) : Mem w0 H0 (L.set i (box b (c.setIfInBounds j v) T)) H (w.setCell ⟨b, j, none⟩ v) := by
  refine h.put i hi (Own.set (h.ok i _ hi) j v) (fun k hk => .inl hk) (h.ex.set' (h.fr i _ hi b rfl).1 v) fun k hk hne => ?_
  rw [Below.heap_setCell _ _ _ _ (fun e => hne (by rw [e]; rfl))]
/-- some of the chunks, in another order -/
theorem Mem.pick (h : Mem w0 H0 L H w) (idx : List Nat) (hn : idx.Nodup) : Mem w0 H0 (idx.map fun i => (L[i]?).getD nop) H w := by
  have get : ∀ {i : Nat} {c}, (idx.map fun i => (L[i]?).getD nop)[i]? = some c → ∃ j, idx[i]? = some j ∧ (L[j]? = some c ∨ c = nop) := by
    intro i c hi
    rw [List.getElem?_map] at hi
    cases hx : idx[i]? with
    | none => simp [hx] at hi
    | some j =>
      simp only [hx, Option.map_some, Option.some.injEq] at hi
      refine ⟨j, rfl, ?_⟩
      cases hy : L[j]? with
      | none => simp [hy] at hi; exact .inr hi.symm
      | some d => simp [hy] at hi; subst hi; exact .inl rfl
  refine ⟨h.l0, h.le, h.ub, h.ex, fun i c hi => ?_, fun i c hi k hk => ?_, fun i j c d hij hi hj k hk hk' => ?_⟩
  · obtain ⟨j, -, hj | rfl⟩ := get hi
    · exact h.ok j c hj
    · trivial
  · obtain ⟨j, -, hj | rfl⟩ := get hi
    · exact h.fr j c hj k hk
    · cases hk
  · obtain ⟨i', h1, h2 | rfl⟩ := get hi
    · obtain ⟨j', h3, h4 | rfl⟩ := get hj
      · refine h.ap i' j' c d (fun e => ?_) h2 h4 k hk hk'
        subst e
        obtain ⟨hil, h1⟩ := List.getElem?_eq_some_iff.1 h1
        obtain ⟨hjl, h3⟩ := List.getElem?_eq_some_iff.1 h3
        exact hij ((List.getElem_inj hn).1 (h1.trans h3.symm))
      · cases hk'
    · cases hk
/-- a box, in the walk's words -/
theorem Mem.box (h : Mem w0 H0 L H w) (i : Nat) {b : Nat} {c : Array Value} {T : TypeId} (hi : L[i]? = some (box b c T)) : Own w b c T := h.ok i _ hi
section
variable {α : Type} {E : PH → List Value → α → Prop} {hm : Mono E} {sz : Nat} {T : TypeId} {v : Value} {xs ys : List α}
theorem OwnC.form (h : OwnC H w E sz T v xs) : ∃ a cap, v = .slice a xs.length cap ∧ xs.length ≤ 9223372036854775807 := by
  rcases h with ⟨rfl, rfl⟩ | ⟨g, cap, cur, rfl, h1, h2, h3, h4, h5⟩
  · exact ⟨none, 0, rfl, by simp⟩
  · exact ⟨_, cap, rfl, by unfold maxLen at h3; omega⟩
theorem Mem.ownS (h : Mem w0 H0 L H w) (i : Nat) (hi : L[i]? = some (own hm sz T v xs)) : OwnS w0.heap.size H w E sz T v xs := by
  have h1 : OwnC H w E sz T v xs := h.ok i _ hi
  rcases h1 with h1 | ⟨g, cap, cur, rfl, h1, h2, h3, h4, h5⟩
  · exact .inl h1
  · have := h.fr i _ hi g rfl
    exact .inr ⟨g, cap, cur, rfl, this.1, this.2, h1, h2, h3, h4, h5⟩
theorem OwnS.c {base : Nat} (h : OwnS base H w E sz T v xs) : OwnC H w E sz T v xs := by
  rcases h with h | ⟨g, cap, cur, rfl, h1, h2, h3, h4, h5, h6, h7⟩
  · exact .inl h
  · exact .inr ⟨g, cap, cur, rfl, h3, h4, h5, h6, h7⟩
theorem Mem.form (h : Mem w0 H0 L H w) (i : Nat) (hi : L[i]? = some (own hm sz T v xs)) : ∃ a cap, v = .slice a xs.length cap ∧ xs.length ≤ 9223372036854775807 := OwnC.form (h.ok i _ hi)
/-- an own slice, read -/
theorem Mem.rep (h : Mem w0 H0 L H w) (i : Nat) (hi : L[i]? = some (own hm sz T v xs)) : SliceRep E sz (ph w) v xs := (h.ownS i hi).rep hm h.ple
theorem Mem.src (h : Mem w0 H0 L H w) (i : Nat) (hi : L[i]? = some (own hm sz T v xs)) : Src w H E sz v xs := Src.ofOwn (h.ownS i hi)
/-- element k of an own slice -/
theorem Mem.get (h : Mem w0 H0 L H w) (i : Nat) (hi : L[i]? = some (own hm sz T v xs)) (k : Nat) (hk : k < xs.length) : ∃ g cap cs, v = .slice (some ⟨g, 0, none⟩) xs.length cap ∧ cs.length = sz ∧ (∀ j, j < sz → w.cell? ⟨g, k * sz + j, none⟩ = some (cs.getD j undef)) ∧ E H cs xs[k] ∧ g < w.heap.size := by
  have h4 : OwnC H w E sz T v xs := h.ok i _ hi
  rcases h4 with ⟨rfl, rfl⟩ | ⟨g, cap, cur, rfl, k1, k2, k3, k4, k5⟩
  · simp at hk
  · obtain ⟨cs, h1, h2, h3⟩ := k5.get k hk
    refine ⟨g, cap, cs, rfl, h1, fun j hj => ?_, h3, (Array.getElem?_eq_some_iff.1 k1).1⟩
    have := h2 j hj
    rw [List.getElem?_take] at this
    split at this
    · rw [cell_of_row w g _ cur T (0, 0) k1]; simpa using this
    · cases this
/-- what is read goes into a bigger one: box or slice i is written no more -/
theorem Mem.freeze (h : Mem w0 H0 L H w) (i : Nat) {c : Chunk} (hi : L[i]? = some c) : ∃ H', PLe H H' ∧ Mem w0 H0 (L.set i nop) H' w ∧ ∀ k, c.foot = some k → H' k = w.heap[k]? := by
  have hil : i < L.length := (List.getElem?_eq_some_iff.1 hi).1
  have get : ∀ {j d}, (L.set i nop)[j]? = some d → j = i ∧ d = nop ∨ j ≠ i ∧ L[j]? = some d := by
    intro j d hj
    by_cases hij : i = j
    · subst hij; rw [List.getElem?_set_self hil] at hj; exact .inl ⟨rfl, (Option.some.inj hj).symm⟩
    · rw [List.getElem?_set_ne hij] at hj; exact .inr ⟨Ne.symm hij, hj⟩
  refine ⟨fun k => if c.foot = some k then w.heap[k]? else H k, ?_, ?_, fun k hk => by simp [hk]⟩
  · intro k o hk
    show (if c.foot = some k then w.heap[k]? else H k) = some o
    rw [if_neg fun e => by rw [(h.fr i c hi k e).2] at hk; cases hk]
    exact hk
  · have hle : PLe H fun k => if c.foot = some k then w.heap[k]? else H k := by
      intro k o hk
      show (if c.foot = some k then w.heap[k]? else H k) = some o
      rw [if_neg fun e => by rw [(h.fr i c hi k e).2] at hk; cases hk]
      exact hk
    refine ⟨h.l0, h.le.trans hle, fun k o hk => ?_, h.ex, fun j d hj => ?_, fun j d hj k hk => ?_, fun j l d e hjl hj hl k hk hke => ?_⟩
    · split at hk
      · rename_i hf
        unfold Proofs.YtcbmgajaaechjaaGreat.up
        rw [if_neg (by have := (h.fr i c hi k hf).1; omega)]
        exact hk
      · exact h.ub k o hk
    · rcases get hj with ⟨-, rfl⟩ | ⟨-, hj⟩
      · trivial
      · exact d.mono (h.ok j d hj) hle
    · rcases get hj with ⟨-, rfl⟩ | ⟨hji, hj⟩
      · cases hk
      · refine ⟨(h.fr j d hj k hk).1, ?_⟩
        show (if c.foot = some k then w.heap[k]? else H k) = none
        rw [if_neg fun e => h.ap i j c d (Ne.symm hji) hi hj k e hk]
        exact (h.fr j d hj k hk).2
    · rcases get hj with ⟨h1, rfl⟩ | ⟨h1, hj⟩
      · cases hk
      · rcases get hl with ⟨h2, rfl⟩ | ⟨h2, hl⟩
        · cases hke
        · exact h.ap j l d e hjl hj hl k hk hke
theorem Mem.freezeS (h : Mem w0 H0 L H w) (i : Nat) (hi : L[i]? = some (own hm sz T v xs)) : ∃ H', PLe H H' ∧ Mem w0 H0 (L.set i nop) H' w ∧ SliceRep E sz H' v xs := by
  obtain ⟨H', h1, h2, h3⟩ := h.freeze i hi
  refine ⟨H', h1, h2, ?_⟩
  have h4 : OwnC H w E sz T v xs := h.ok i _ hi
  rcases h4 with ⟨rfl, rfl⟩ | ⟨g, cap, cur, rfl, k1, k2, k3, k4, k5⟩
  · exact SliceRep.nil E sz _
  · refine ⟨_, cap, rfl, k2, k3, .inr ⟨g, 0, rfl, k5.row (fun _ _ => hm _ _ _ _ h1) fun j u hu => ?_⟩⟩
    have : H' g = some (.cells cur T (0, 0)) := by rw [h3 g rfl]; exact k1
    simp only [cellAt, this, Nat.zero_add]
    rw [List.getElem?_take] at hu
    split at hu
    · simpa using hu
    · cases hu
theorem Mem.freezeB (h : Mem w0 H0 L H w) (i : Nat) {b : Nat} {c : Array Value} (hi : L[i]? = some (Proofs.YtcbmgajaaechjaaGreat.box b c T)) : ∃ H', PLe H H' ∧ Mem w0 H0 (L.set i nop) H' w ∧ ∀ j, cellAt H' b j = c[j]? := by
  obtain ⟨H', h1, h2, h3⟩ := h.freeze i hi
  refine ⟨H', h1, h2, fun j => ?_⟩
  have h4 : Own w b c T := h.ok i _ hi
  have : H' b = some (.cells c T (0, 0)) := by rw [h3 b rfl]; exact h4
  simp [cellAt, this]
/-- handed back -/
theorem Mem.repUp (h : Mem w0 H0 L H w) (i : Nat) (hi : L[i]? = some (own hm sz T v xs)) : SliceRep E sz (Proofs.YtcbmgajaaechjaaGreat.up H0 w0 w) v xs := by
  have h1 := h.ownS i hi
  rcases h1 with ⟨rfl, rfl⟩ | ⟨g, cap, cur, rfl, h1, h2, h3, h4, h5, h6, h7⟩
  · exact SliceRep.nil E sz _
  · refine ⟨_, cap, rfl, h4, h5, .inr ⟨g, 0, rfl, h7.row (fun _ _ => hm _ _ _ _ h.ub) fun j u hu => ?_⟩⟩
    have : Proofs.YtcbmgajaaechjaaGreat.up H0 w0 w g = some (.cells cur T (0, 0)) := by unfold Proofs.YtcbmgajaaechjaaGreat.up; rw [if_neg (by omega)]; exact h3
    simp only [cellAt, this, Nat.zero_add]
    rw [List.getElem?_take] at hu
    split at hu
    · simpa using hu
    · cases hu
/-- a box as a slice of one's own -/
theorem Mem.asOwn (h : Mem w0 H0 L H w) (i : Nat) {g n : Nat} {cur : Array Value} (hi : L[i]? = some (Proofs.YtcbmgajaaechjaaGreat.box g cur T)) (hm : Mono E) (hn : xs.length ≤ n) (hmx : n ≤ maxLen) (hs : cur.size = n * sz) (hc : Cells H E sz (cur.toList.take (xs.length * sz)) xs) :
    Mem w0 H0 (L.set i (own hm sz T (.slice (some ⟨g, 0, none⟩) xs.length n) xs)) H w :=
  h.put i hi (c' := own hm sz T _ xs) (.inr ⟨g, n, cur, rfl, h.ok i _ hi, hn, hmx, hs, hc⟩) (fun k hk => .inl hk) h.ex fun _ _ _ => rfl
/-- .. and back -/
theorem Mem.asBox (h : Mem w0 H0 L H w) (i : Nat) (hi : L[i]? = some (own hm sz T v xs)) : (v = .slice none 0 0 ∧ xs = []) ∨ ∃ g cap cur, v = .slice (some ⟨g, 0, none⟩) xs.length cap ∧ xs.length ≤ cap ∧ cap ≤ maxLen ∧ cur.size = cap * sz ∧ Cells H E sz (cur.toList.take (xs.length * sz)) xs ∧ Mem w0 H0 (L.set i (Proofs.YtcbmgajaaechjaaGreat.box g cur T)) H w := by
  have h4 : OwnC H w E sz T v xs := h.ok i _ hi
  rcases h4 with h4 | ⟨g, cap, cur, rfl, k1, k2, k3, k4, k5⟩
  · exact .inl h4
  · exact .inr ⟨g, cap, cur, rfl, k2, k3, k4, k5, h.put i hi (c' := Proofs.YtcbmgajaaechjaaGreat.box g cur T) k1 (fun k hk => .inl hk) h.ex fun _ _ _ => rfl⟩
/-- the walk's arm at an append -/
theorem wpList_append_M {P : Program} {ops : Array Oper} {rest : List Oper} {o : Oper} {a : Act} {Q : Exit → Act → World → Prop} (i : Nat) (hgd : o.guard = none) (s x : Operand) (t : TypeId)
    (ho : o.op = .call { callee := .builtin .append, args := #[s, x], argTypes := #[t, t] }) {z : Value} {bytes : Nat}
    (ht : P.underlying t = some (.slice T)) (hinfo : (P.info? T).map (fun i => (i.zero, i.size, i.bytes)) = some (some z, sz, bytes)) (hzs : z.cells.size = sz)
    {vx : Value} (hs : a.eval s = v) (hx : a.eval x = vx) (hS : Mem w0 H0 L H w) (hi : L[i]? = some (own hm sz T v xs)) (hsrc : Src w H E sz vx ys)
    (hone : ∀ cs x, E H cs x → ∀ u ∈ cs, u.oneCell' = true) (hbytes : (xs.length + ys.length) * bytes ≤ 140737488355328) (hcnt : xs.length + ys.length ≤ 140737488355328)
    (h : ∀ v' w', Mem w0 H0 (L.set i (own hm sz T v' (xs ++ ys))) H w' → wpList P ops Q rest (a.put o.dst v') w') :
    wpList P ops Q (o :: rest) a w := by
  refine wpList_append_S hgd s x t T ho z bytes ht hinfo hzs hs hx (hS.ownS i hi) hsrc hS.ple hS.ex.size hone hbytes hcnt fun v' w' h1 h2 h3 => h v' w' ?_
  refine hS.put i hi (c' := own hm sz T v' (xs ++ ys)) h1.c h3 (hS.ex.grown h2 fun k hk => (hS.fr i _ hi k hk).1) fun k hk hne => h2.block k hk (fun e => hne e.symm)
end
end
end Go.Proofs.YtcbmgajaaechjaaGreat
namespace Go.Proofs.YtcbmgajaaechjaaGreat
open Go.RowKit
set_option linter.unusedSimpArgs false
set_option linter.unusedVariables false
section
variable {w0 w w' : World} {H0 H : PH} {L : List Chunk}
variable {α : Type} {E : PH → List Value → α → Prop} {hm : Mono E} {sz : Nat} {T : TypeId} {v : Value} {xs ys : List α}
/-- a slice that a call has made joins one's own -/
theorem Mem.take (h : Mem w0 H0 L H w) (e : Ext w w') {H' : PH} (ho : OwnS w.heap.size H' w' E sz T v xs) (hm : Mono E) (hl : PLe H' (Proofs.YtcbmgajaaechjaaGreat.up noH w w')) : ∃ H2, PLe H H2 ∧ PLe H' H2 ∧ Mem w0 H0 (L ++ [own hm sz T v xs]) H2 w' := by
  have hge : ∀ k o, H' k = some o → w.heap.size ≤ k := by
    intro k o hk
    have := hl k o hk
    unfold Proofs.YtcbmgajaaechjaaGreat.up at this
    split at this
    · cases this
    · omega
  have h1 : PLe H fun k => if k < w.heap.size then H k else H' k := by
    intro k o hk
    show (if k < w.heap.size then H k else H' k) = some o
    rw [if_pos (ph_lt (h.ple k o hk))]; exact hk
  have h2 : PLe H' fun k => if k < w.heap.size then H k else H' k := by
    intro k o hk
    show (if k < w.heap.size then H k else H' k) = some o
    rw [if_neg (by have := hge k o hk; omega)]; exact hk
  refine ⟨_, h1, h2, ?_⟩
  have hM : Mem w0 H0 L (fun k => if k < w.heap.size then H k else H' k) w' := by
    refine ⟨h.l0, h.le.trans h1, fun k o hk => ?_, h.ex.then e, fun i c hi => c.mono (c.loc (h.ok i c hi) fun k hk => e.block k (h.lt hi hk)) h1, fun i c hi k hk => ⟨(h.fr i c hi k hk).1, ?_⟩, h.ap⟩
    · split at hk
      · exact up_then h.ex e k o (h.ub k o hk)
      · have h3 := hl k o hk
        have := h.ex.size
        unfold Proofs.YtcbmgajaaechjaaGreat.up at h3 ⊢
        rw [if_neg (by omega)] at h3 ⊢
        exact h3
    · show (if k < w.heap.size then H k else H' k) = none
      rw [if_pos (h.lt hi hk)]; exact (h.fr i c hi k hk).2
  refine hM.add _ ?_ fun k hk => ?_
  · have h3 := ho.c
    exact (own hm sz T v xs).mono h3 h2
  · have h3 := ho.lt k hk
    refine ⟨Nat.le_trans h.ex.size h3.1, ?_, fun i d hi he => by have := h.lt hi he; omega⟩
    show (if k < w.heap.size then H k else H' k) = none
    rw [if_neg (by omega)]; exact h3.2.2
end
end Go.Proofs.YtcbmgajaaechjaaGreat
namespace Go.Proofs.YtcbmgajaaechjaaGreat
open Go.RowKit Go.Shelf
set_option linter.unusedSimpArgs false
set_option linter.unusedVariables false
section
variable {w0 A B w w' : World} {H0 H : PH} {L : List Chunk}
/-- it stays while blocks that are not its own turn -/
theorem Mem.grownN {row : Option Nat} (h : Mem w0 H0 L H A) (hg : A.grownBy B row) (hw : ∀ r, row = some r → w0.heap.size ≤ r ∧ H r = none ∧ ∀ (i : Nat) (c : Chunk), L[i]? = some c → c.foot ≠ some r) : Mem w0 H0 L H B := by
  refine ⟨h.l0, h.le, fun k o hk => ?_, h.ex.grown hg fun k hk => (hw k hk).1, fun i c hi => c.loc (h.ok i c hi) fun k hk => hg.block k (h.lt hi hk) fun e => (hw k e.symm).2.2 i c hi hk, h.fr, h.ap⟩
  have h1 := h.ub k o hk
  unfold Proofs.YtcbmgajaaechjaaGreat.up at *
  split
  · rename_i hlt; rw [if_pos hlt] at h1; exact h1
  · rename_i hlt; rw [if_neg hlt] at h1
    show B.heap[k]? = some o
    rw [hg.block k (ph_lt h1) fun e => by rw [(hw k e.symm).2.1] at hk; cases hk]
    exact h1
def Chunk.isC (c : Chunk) : Prop := ∀ H w k, c.ok H w → c.foot = some k → ∃ cs T, w.heap[k]? = some (.cells cs T (0, 0))
theorem isC_box (b : Nat) (c : Array Value) (T : TypeId) : (box b c T).isC := fun H w k h hk => by cases hk; exact ⟨_, _, h⟩
theorem isC_own {α : Type} {E : PH → List Value → α → Prop} (hm : Mono E) (sz : Nat) (T : TypeId) (v : Value) (xs : List α) : (own hm sz T v xs).isC := fun H w k h hk => by
  have h : OwnC H w E sz T v xs := h
  rcases h with ⟨rfl, rfl⟩ | ⟨g, cap, cur, rfl, h1, -⟩
  · cases hk
  · cases hk; exact ⟨_, _, h1⟩
theorem isC_nop : nop.isC := fun H w k h hk => by cases hk
/-- what the law of a range over a function asks of an invariant -/
theorem Mem.ownFrom {row : Option Nat} {n : Nat} (hL : ∀ c ∈ L, c.isC) (h : Mem w0 H0 L noH A) (hn : w0.heap.size ≤ n) (hg : A.grownBy B row) (hr : ∀ r, row = some r → n ≤ r ∧ ∃ o : Obj, A.heap[r]? = some o ∧ o.isCells = false) : Mem w0 H0 L noH B :=
  h.grownN hg fun r e => by
    obtain ⟨h1, o, h2, h3⟩ := hr r e
    refine ⟨Nat.le_trans hn h1, rfl, fun i c hi hf => ?_⟩
    obtain ⟨cs, T, h4⟩ := hL c (List.mem_of_getElem? hi) _ _ _ (h.ok i c hi) hf
    rw [h4] at h2; cases h2; cases h3
theorem Mem.allocN (h : Mem w0 H0 L noH A) (o : Obj) : Mem w0 H0 L noH (A.alloc o) := h.grownN (World.grownBy_alloc A o none) fun r e => by cases e
/-- a block that is no cells, held -/
def raw (b : Nat) (o : Obj) : Chunk where
  foot := some b
  ok := fun _ w => w.heap[b]? = some o
  lt := fun h e => by cases e; exact (Array.getElem?_eq_some_iff.1 h).1
  loc := fun h e => by rw [e b rfl]; exact h
  mono := fun h _ => h
theorem Mem.addRaw {b : Nat} {o : Obj} (hL : ∀ c ∈ L, c.isC) (h : Mem w0 H0 L noH w) (hb : w0.heap.size ≤ b) (ho : w.heap[b]? = some o) (hc : o.isCells = false) : Mem w0 H0 (L ++ [raw b o]) noH w :=
  h.add _ ho fun k hk => by
    cases hk
    refine ⟨hb, rfl, fun i d hi hf => ?_⟩
    obtain ⟨cs, T, h4⟩ := hL d (List.mem_of_getElem? hi) _ _ _ (h.ok i d hi) hf
    rw [h4] at ho; cases ho; cases hc
section
variable {α : Type} {E : PH → List Value → α → Prop} {hm : Mono E} {sz : Nat} {T : TypeId} {v : Value} {xs ys : List α}
/-- the walk's arm at an append; what the memory turned into is told, too -/
theorem wpList_append_MG {P : Program} {ops : Array Oper} {rest : List Oper} {o : Oper} {a : Act} {Q : Exit → Act → World → Prop} (i : Nat) (hgd : o.guard = none) (s x : Operand) (t : TypeId)
    (ho : o.op = .call { callee := .builtin .append, args := #[s, x], argTypes := #[t, t] }) {z : Value} {bytes : Nat}
    (ht : P.underlying t = some (.slice T)) (hinfo : (P.info? T).map (fun i => (i.zero, i.size, i.bytes)) = some (some z, sz, bytes)) (hzs : z.cells.size = sz)
    {vx : Value} (hs : a.eval s = v) (hx : a.eval x = vx) (hS : Mem w0 H0 L H w) (hi : L[i]? = some (own hm sz T v xs)) (hsrc : Src w H E sz vx ys)
    (hone : ∀ cs x, E H cs x → ∀ u ∈ cs, u.oneCell' = true) (hbytes : (xs.length + ys.length) * bytes ≤ 140737488355328) (hcnt : xs.length + ys.length ≤ 140737488355328)
    (h : ∀ v' w', Mem w0 H0 (L.set i (own hm sz T v' (xs ++ ys))) H w' → w.grownBy w' v.ownBlock → wpList P ops Q rest (a.put o.dst v') w') :
    wpList P ops Q (o :: rest) a w := by
  refine wpList_append_S hgd s x t T ho z bytes ht hinfo hzs hs hx (hS.ownS i hi) hsrc hS.ple hS.ex.size hone hbytes hcnt fun v' w' h1 h2 h3 => h v' w' ?_ h2
  refine hS.put i hi (c' := own hm sz T v' (xs ++ ys)) h1.c h3 (hS.ex.grown h2 fun k hk => (hS.fr i _ hi k hk).1) fun k hk hne => h2.block k hk (fun e => hne e.symm)
/-- what kept the body's promise: an own slice grew -/
theorem Mem.keeps (h : Mem w0 H0 L H w) (i : Nat) (hi : L[i]? = some (own hm sz T v xs)) (hg : w.grownBy w' v.ownBlock) : KeepsOthers w w' ∧ Below w0.heap.size w w' := by
  constructor
  · refine KeepsOthers.of_grownBy hg fun j o ej hj => ?_
    obtain ⟨cs, T', h4⟩ := isC_own hm sz T v xs _ _ j (h.ok i _ hi) ej
    rw [h4] at hj; cases hj; rfl
  · exact (Below.refl w0.heap.size w).grown hg h.ex.size fun j ej => (h.fr i _ hi j ej).1
end
end
end Go.Proofs.YtcbmgajaaechjaaGreat
