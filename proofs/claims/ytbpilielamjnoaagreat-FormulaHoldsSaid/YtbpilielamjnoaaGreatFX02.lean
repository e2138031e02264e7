/- Lemmas for FX, part 3: The memory of a call under way: boxes and slices of its own that it may still write (chunks), what is read and, and more. -/
import Derived.Laws.Rows
import Derived.Laws.CopyRow
import Derived.Lib.SliceRun
import Derived.Test.YtbpilielamjnoaaGreatFX00
import Derived.Test.YtbpilielamjnoaaGreatFX01
set_option linter.unusedSimpArgs false
set_option linter.unusedVariables false
namespace Go.Proofs.YtbpilielamjnoaaGreat
open Go.RowKit
structure Chunk where
  foot : Option Nat
  ok : PH → World → Prop
  lt : ∀ {H w k}, ok H w → foot = some k → k < w.heap.size
  loc : ∀ {H w w'}, ok H w → (∀ k, foot = some k → w'.heap[k]? = w.heap[k]?) → ok H w'
  mono : ∀ {H H' w}, ok H w → PLe H H' → ok H' w
def box (b : Nat) (c : Array Value) (T : TypeId) : Chunk where
  foot := some b
  ok := fun _ w => Own w b c T
  lt := fun h e => by cases e; exact h.lt
  loc := fun h e => by unfold Own at *; rw [e b rfl]; exact h
  mono := fun h _ => h
def OwnC {α : Type} (H : PH) (w : World) (E : PH → List Value → α → Prop) (sz : Nat) (T : TypeId) (v : Value) (xs : List α) : Prop :=
  (v = .slice none 0 0 ∧ xs = []) ∨
  ∃ g cap cur, v = .slice (some ⟨g, 0, none⟩) xs.length cap ∧ w.heap[g]? = some (.cells cur T (0, 0)) ∧ xs.length ≤ cap ∧ cap ≤ maxLen ∧ cur.size = cap * sz ∧ Cells H E sz (cur.toList.take (xs.length * sz)) xs
def own {α : Type} {E : PH → List Value → α → Prop} (hm : Mono E) (sz : Nat) (T : TypeId) (v : Value) (xs : List α) : Chunk where
  foot := v.ownBlock
  ok := fun H w => OwnC H w E sz T v xs
  lt := fun h e => by
    rcases h with ⟨rfl, _⟩ | ⟨g, cap, cur, rfl, h1, _⟩
    · cases e
    · cases e; exact (Array.getElem?_eq_some_iff.1 h1).1
  loc := fun h e => by
    rcases h with h | ⟨g, cap, cur, rfl, h1, h2⟩
    · exact .inl h
    · exact .inr ⟨g, cap, cur, rfl, by rw [e g rfl]; exact h1, h2⟩
  mono := fun h hl => by
    rcases h with h | ⟨g, cap, cur, rfl, h1, h2, h3, h4, h5⟩
    · exact .inl h
    · exact .inr ⟨g, cap, cur, rfl, h1, h2, h3, h4, h5.mono fun _ _ => hm _ _ _ _ hl⟩
def nop : Chunk := ⟨none, fun _ _ => True, fun _ e => (by cases e), fun _ _ => trivial, fun _ _ => trivial⟩
structure Mem (w0 : World) (H0 : PH) (L : List Chunk) (H : PH) (w : World) : Prop where
  l0 : PLe H0 (ph w0)
  le : PLe H0 H
  ub : PLe H (up H0 w0 w)
  ex : Ext w0 w
  ok : ∀ (i : Nat) (c : Chunk), L[i]? = some c → c.ok H w
  fr : ∀ (i : Nat) (c : Chunk), L[i]? = some c → ∀ k, c.foot = some k → w0.heap.size ≤ k ∧ H k = none
  ap : ∀ (i j : Nat) (c d : Chunk), i ≠ j → L[i]? = some c → L[j]? = some d → ∀ k, c.foot = some k → d.foot ≠ some k
theorem up_sub {H : PH} {w w1 w' : World} (h : PLe H (ph w)) (e : Ext w w1) : PLe (up H w1 w') (up H w w') := by
  intro k o hk
  unfold up at *
  have := e.size
  split at hk
  · have h1 := ph_lt (h k o hk); rw [if_pos h1]; exact hk
  · rw [if_neg (by omega)]; exact hk
theorem Cells.get {α : Type} {E : PH → List Value → α → Prop} {H : PH} {sz : Nat} : ∀ {xs : List α} {c : List Value} (k : Nat) (h : k < xs.length), Cells H E sz c xs → ∃ cs, cs.length = sz ∧ (∀ j, j < sz → c[k * sz + j]? = some (cs.getD j undef)) ∧ E H cs xs[k]
  | [], _, k, hk, _ => by simp at hk
  | y :: ys, c, 0, _, hc => by
    obtain ⟨cs, rest, rfl, h1, h2, h3⟩ := hc
    exact ⟨cs, h1, fun j hj => by rw [Nat.zero_mul, Nat.zero_add, List.getElem?_append_left (by omega)]; simp [List.getD_eq_getElem?_getD, show j < cs.length by omega], h2⟩
  | y :: ys, c, k + 1, hk, hc => by
    obtain ⟨cs, rest, rfl, h1, h2, h3⟩ := hc
    obtain ⟨ds, g1, g2, g3⟩ := Cells.get k (by simpa using hk) h3
    refine ⟨ds, g1, fun j hj => ?_, g3⟩
    rw [List.getElem?_append_right (by rw [Nat.add_mul]; omega), ← g2 j hj]
    congr 1; rw [Nat.add_mul]; omega
theorem Cells.set1 {α : Type} {E : PH → List Value → α → Prop} {H : PH} {u : Value} {x : α} (hx : E H [u] x) : ∀ {xs : List α} {c : List Value} (k : Nat), k < xs.length → Cells H E 1 c xs → Cells H E 1 (c.set k u) (xs.set k x)
  | [], _, k, hk, _ => by simp at hk
  | y :: ys, c, 0, _, hc => by
    obtain ⟨cs, rest, rfl, h1, h2, h3⟩ := hc
    match cs, h1 with
    | [a], _ => exact ⟨[u], rest, rfl, rfl, hx, h3⟩
  | y :: ys, c, k + 1, hk, hc => by
    obtain ⟨cs, rest, rfl, h1, h2, h3⟩ := hc
    match cs, h1 with
    | [a], _ => exact ⟨[a], rest.set k u, rfl, rfl, h2, Cells.set1 hx k (by simpa using hk) h3⟩
theorem Cells.set3 {α : Type} {E : PH → List Value → α → Prop} {H : PH} {u v t : Value} {x : α} (hx : E H [u, v, t] x) : ∀ {xs : List α} {c : List Value} (k : Nat), k < xs.length → Cells H E 3 c xs → Cells H E 3 (((c.set (k * 3) u).set (k * 3 + 1) v).set (k * 3 + 2) t) (xs.set k x)
  | [], _, k, hk, _ => by simp at hk
  | y :: ys, c, 0, _, hc => by
    obtain ⟨cs, rest, rfl, h1, h2, h3⟩ := hc
    match cs, h1 with
    | [a, b, d], _ => exact ⟨[u, v, t], rest, rfl, rfl, hx, h3⟩
  | y :: ys, c, k + 1, hk, hc => by
    obtain ⟨cs, rest, rfl, h1, h2, h3⟩ := hc
    match cs, h1 with
    | [a, b, d], _ =>
      refine ⟨[a, b, d], ((rest.set (k * 3) u).set (k * 3 + 1) v).set (k * 3 + 2) t, ?_, rfl, h2, Cells.set3 hx k (by simpa using hk) h3⟩
      have e1 : (k + 1) * 3 = k * 3 + 1 + 1 + 1 := by omega
      have e2 : (k + 1) * 3 + 1 = k * 3 + 1 + 1 + 1 + 1 := by omega
      have e3 : (k + 1) * 3 + 2 = k * 3 + 2 + 1 + 1 + 1 := by omega
      rw [e2, e3, e1]
      rfl
section
variable {w0 w w' : World} {H0 H : PH} {L : List Chunk}
theorem Mem.start (w : World) (H : PH) (h : PLe H (ph w)) : Mem w H [] H w :=
  ⟨h, PLe.refl _, ple_up h, Ext.rfl' w, by simp, by simp, by simp⟩
theorem Mem.ple (h : Mem w0 H0 L H w) : PLe H (ph w) := h.ub.trans (up_ple h.l0 h.ex)
theorem Mem.lt (h : Mem w0 H0 L H w) {i : Nat} {c : Chunk} (hi : L[i]? = some c) {k : Nat} (hk : c.foot = some k) : k < w.heap.size := c.lt (h.ok i c hi) hk
theorem Mem.ext (h : Mem w0 H0 L H w) (e : Ext w w') : Mem w0 H0 L H w' :=
  ⟨h.l0, h.le, h.ub.trans (up_then h.ex e), h.ex.then e, fun i c hi => c.loc (h.ok i c hi) fun k hk => e.block k (h.lt hi hk), h.fr, h.ap⟩
theorem Mem.up (h : Mem w0 H0 L H w) (e : Ext w w') : Mem w0 H0 L (up H w w') w' := by
  have hl : PLe H (Proofs.YtbpilielamjnoaaGreat.up H w w') := ple_up h.ple
  exact ⟨h.l0, h.le.trans hl, (up_mono h.ub).trans (up_up h.ex e), h.ex.then e, fun i c hi => c.mono (c.loc (h.ok i c hi) fun k hk => e.block k (h.lt hi hk)) hl,
    fun i c hi k hk => ⟨(h.fr i c hi k hk).1, up_none (h.fr i c hi k hk).2 (h.lt hi hk)⟩, h.ap⟩
theorem getElem?_snoc {α : Type} {l : List α} {x y : α} {i : Nat} (h : (l ++ [x])[i]? = some y) : l[i]? = some y ∨ i = l.length ∧ x = y := by
  rcases Nat.lt_trichotomy i l.length with hi | hi | hi
  · rw [List.getElem?_append_left hi] at h; exact .inl h
  · subst hi; simp at h; exact .inr ⟨rfl, h⟩
  · rw [List.getElem?_append_right (by omega), List.getElem?_eq_none (by simp; omega)] at h; cases h
theorem Mem.add (h : Mem w0 H0 L H w) (c : Chunk) (hc : c.ok H w) (hf : ∀ k, c.foot = some k → w0.heap.size ≤ k ∧ H k = none ∧ ∀ (i : Nat) (d : Chunk), L[i]? = some d → d.foot ≠ some k) : Mem w0 H0 (L ++ [c]) H w := by
  refine ⟨h.l0, h.le, h.ub, h.ex, fun i d hi => ?_, fun i d hi k hk => ?_, fun i j d e hij hi hj k hk he => ?_⟩
  · rcases getElem?_snoc hi with hi | ⟨-, rfl⟩
    · exact h.ok i d hi
    · exact hc
  · rcases getElem?_snoc hi with hi | ⟨-, rfl⟩
    · exact h.fr i d hi k hk
    · exact ⟨(hf k hk).1, (hf k hk).2.1⟩
  · rcases getElem?_snoc hi with h1 | ⟨h1, rfl⟩
    · rcases getElem?_snoc hj with h2 | ⟨h2, rfl⟩
      · exact h.ap i j d e hij h1 h2 k hk he
      · exact (hf k he).2.2 i d h1 hk
    · rcases getElem?_snoc hj with h2 | ⟨h2, rfl⟩
      · exact (hf k hk).2.2 j e h2 he
      · exact hij (h1.trans h2.symm)
theorem fresh_none (h : PLe H (ph w)) {k : Nat} (hk : w.heap.size ≤ k) : H k = none := by
  cases hx : H k with
  | none => rfl
  | some o => exact absurd (ph_lt (h _ _ hx)) (by omega)
theorem Mem.new (h : Mem w0 H0 L H w) (c : Array Value) (T : TypeId) : Mem w0 H0 (L ++ [box w.heap.size c T]) H (w.alloc (.cells c T)) := by
  refine (h.ext (Ext.new w _)).add _ (Own.new w c T) fun k hk => ?_
  cases hk
  exact ⟨h.ex.size, fresh_none h.ple (Nat.le_refl _), fun i d hi he => by have := h.lt hi he; omega⟩
theorem Mem.new' (h : Mem w0 H0 L H w) (c : Array Value) (T : TypeId) {n : Nat} (hn : n = w.heap.size) : Mem w0 H0 (L ++ [box n c T]) H (w.alloc (.cells c T)) := by
  subst hn; exact h.new c T
theorem Mem.nil (h : Mem w0 H0 L H w) {α : Type} {E : PH → List Value → α → Prop} (hm : Mono E) (sz : Nat) (T : TypeId) : Mem w0 H0 (L ++ [own hm sz T (.slice none 0 0) ([] : List α)]) H w :=
  h.add _ (.inl ⟨rfl, rfl⟩) fun k hk => by cases hk
theorem Mem.put (h : Mem w0 H0 L H w) (i : Nat) {c c' : Chunk} (hi : L[i]? = some c) (hok : c'.ok H w') (hf : ∀ k, c'.foot = some k → c.foot = some k ∨ w.heap.size ≤ k) (he : Ext w0 w')
    (hb : ∀ k, k < w.heap.size → c.foot ≠ some k → w'.heap[k]? = w.heap[k]?) : Mem w0 H0 (L.set i c') H w' := by
  have hil : i < L.length := (List.getElem?_eq_some_iff.1 hi).1
  have get : ∀ {j d}, (L.set i c')[j]? = some d → j = i ∧ d = c' ∨ j ≠ i ∧ L[j]? = some d := by
    intro j d hj
    by_cases hij : i = j
    · subst hij; rw [List.getElem?_set_self hil] at hj; exact .inl ⟨rfl, (Option.some.inj hj).symm⟩
    · rw [List.getElem?_set_ne hij] at hj; exact .inr ⟨Ne.symm hij, hj⟩
  refine ⟨h.l0, h.le, fun k o hk => ?_, he, fun j d hj => ?_, fun j d hj k hk => ?_, fun j l d e hjl hj hl k hk hke => ?_⟩
  · have h1 := h.ub k o hk
    unfold Proofs.YtbpilielamjnoaaGreat.up at *
    split
    · rename_i hlt; rw [if_pos hlt] at h1; exact h1
    · rename_i hlt; rw [if_neg hlt] at h1
      show w'.heap[k]? = some o
      rw [hb k (ph_lt h1) fun e => by rw [(h.fr i c hi k e).2] at hk; cases hk]
      exact h1
  · rcases get hj with ⟨-, rfl⟩ | ⟨hji, hj⟩
    · exact hok
    · exact d.loc (h.ok j d hj) fun k hk => hb k (h.lt hj hk) fun e => h.ap i j c d (Ne.symm hji) hi hj k e hk
  · rcases get hj with ⟨-, rfl⟩ | ⟨-, hj⟩
    · rcases hf k hk with h1 | h1
      · exact h.fr i c hi k h1
      · exact ⟨Nat.le_trans h.ex.size h1, fresh_none h.ple h1⟩
    · exact h.fr j d hj k hk
  · rcases get hj with ⟨h1, rfl⟩ | ⟨h1, g1⟩
    · rcases get hl with ⟨h2, rfl⟩ | ⟨h2, g2⟩
      · exact hjl (h1.trans h2.symm)
      · rcases hf k hk with h3 | h3
        · exact h.ap i l c e (Ne.symm h2) hi g2 k h3 hke
        · have := h.lt g2 hke; omega
    · rcases get hl with ⟨h2, rfl⟩ | ⟨h2, g2⟩
      · rcases hf k hke with h3 | h3
        · exact h.ap i j c d (Ne.symm h1) hi g1 k h3 hk
        · have := h.lt g1 hk; omega
      · exact h.ap j l d e hjl g1 g2 k hk hke
theorem Mem.set (h : Mem w0 H0 L H w) (i : Nat) {b : Nat} {c : Array Value} {T : TypeId} (hi : L[i]? = some (box b c T)) (j : Nat) (v : Value) : Mem w0 H0 (L.set i (box b (c.setIfInBounds j v) T)) H (w.setCell ⟨b, j, none⟩ v) := by
  refine h.put i hi (Own.set (h.ok i _ hi) j v) (fun k hk => .inl hk) (h.ex.set' (h.fr i _ hi b rfl).1 v) fun k hk hne => ?_
  rw [Below.heap_setCell _ _ _ _ (fun e => hne (by rw [e]; rfl))]
theorem Mem.pick (h : Mem w0 H0 L H w) (idx : List Nat) (hn : idx.Nodup) : Mem w0 H0 (idx.map fun i => (L[i]?).getD nop) H w := by
  have get : ∀ {i : Nat} {c}, (idx.map fun i => (L[i]?).getD nop)[i]? = some c → ∃ j, idx[i]? = some j ∧ (L[j]? = some c ∨ c = nop) := by
    intro i c hi
    rw [List.getElem?_map] at hi
    cases hx : idx[i]? with
    | none => simp [hx] at hi
    | some j =>
      simp only [hx, Option.map_some, Option.some.injEq] at hi
      refine ⟨j, rfl, ?_⟩
      cases hy : L[j]? with
      | none => simp [hy] at hi; exact .inr hi.symm
      | some d => simp [hy] at hi; subst hi; exact .inl rfl
  refine ⟨h.l0, h.le, h.ub, h.ex, fun i c hi => ?_, fun i c hi k hk => ?_, fun i j c d hij hi hj k hk hk' => ?_⟩
  · obtain ⟨j, -, hj | rfl⟩ := get hi
    · exact h.ok j c hj
    · trivial
  · obtain ⟨j, -, hj | rfl⟩ := get hi
    · exact h.fr j c hj k hk
    · cases hk
  · obtain ⟨i', h1, h2 | rfl⟩ := get hi
    · obtain ⟨j', h3, h4 | rfl⟩ := get hj
      · refine h.ap i' j' c d (fun e => ?_) h2 h4 k hk hk'
        subst e
        obtain ⟨hil, h1⟩ := List.getElem?_eq_some_iff.1 h1
        obtain ⟨hjl, h3⟩ := List.getElem?_eq_some_iff.1 h3
        exact hij ((List.getElem_inj hn).1 (h1.trans h3.symm))
      · cases hk'
    · cases hk
theorem Mem.box (h : Mem w0 H0 L H w) (i : Nat) {b : Nat} {c : Array Value} {T : TypeId} (hi : L[i]? = some (box b c T)) : Own w b c T := h.ok i _ hi
section
variable {α : Type} {E : PH → List Value → α → Prop} {hm : Mono E} {sz : Nat} {T : TypeId} {v : Value} {xs ys : List α}
theorem OwnC.form (h : OwnC H w E sz T v xs) : ∃ a cap, v = .slice a xs.length cap ∧ xs.length ≤ 9223372036854775807 := by
  rcases h with ⟨rfl, rfl⟩ | ⟨g, cap, cur, rfl, h1, h2, h3, h4, h5⟩
  · exact ⟨none, 0, rfl, by simp⟩
  · exact ⟨_, cap, rfl, by unfold maxLen at h3; omega⟩
theorem Mem.ownS (h : Mem w0 H0 L H w) (i : Nat) (hi : L[i]? = some (own hm sz T v xs)) : OwnS w0.heap.size H w E sz T v xs := by
  have h1 : OwnC H w E sz T v xs := h.ok i _ hi
  rcases h1 with h1 | ⟨g, cap, cur, rfl, h1, h2, h3, h4, h5⟩
  · exact .inl h1
  · have := h.fr i _ hi g rfl
    exact .inr ⟨g, cap, cur, rfl, this.1, this.2, h1, h2, h3, h4, h5⟩
theorem OwnS.c {base : Nat} (h : OwnS base H w E sz T v xs) : OwnC H w E sz T v xs := by
  rcases h with h | ⟨g, cap, cur, rfl, h1, h2, h3, h4, h5, h6, h7⟩
  · exact .inl h
  · exact .inr ⟨g, cap, cur, rfl, h3, h4, h5, h6, h7⟩
theorem Mem.form (h : Mem w0 H0 L H w) (i : Nat) (hi : L[i]? = some (own hm sz T v xs)) : ∃ a cap, v = .slice a xs.length cap ∧ xs.length ≤ 9223372036854775807 := OwnC.form (h.ok i _ hi)
theorem Mem.rep (h : Mem w0 H0 L H w) (i : Nat) (hi : L[i]? = some (own hm sz T v xs)) : SliceRep E sz (ph w) v xs := (h.ownS i hi).rep hm h.ple
theorem Mem.src (h : Mem w0 H0 L H w) (i : Nat) (hi : L[i]? = some (own hm sz T v xs)) : Src w H E sz v xs := Src.ofOwn (h.ownS i hi)
theorem Mem.get (h : Mem w0 H0 L H w) (i : Nat) (hi : L[i]? = some (own hm sz T v xs)) (k : Nat) (hk : k < xs.length) : ∃ g cap cs, v = .slice (some ⟨g, 0, none⟩) xs.length cap ∧ cs.length = sz ∧ (∀ j, j < sz → w.cell? ⟨g, k * sz + j, none⟩ = some (cs.getD j undef)) ∧ E H cs xs[k] ∧ g < w.heap.size := by
  have h4 : OwnC H w E sz T v xs := h.ok i _ hi
  rcases h4 with ⟨rfl, rfl⟩ | ⟨g, cap, cur, rfl, k1, k2, k3, k4, k5⟩
  · simp at hk
  · obtain ⟨cs, h1, h2, h3⟩ := k5.get k hk
    refine ⟨g, cap, cs, rfl, h1, fun j hj => ?_, h3, (Array.getElem?_eq_some_iff.1 k1).1⟩
    have := h2 j hj
    rw [List.getElem?_take] at this
    split at this
    · rw [cell_of_row w g _ cur T (0, 0) k1]; simpa using this
    · cases this
theorem Mem.freeze (h : Mem w0 H0 L H w) (i : Nat) {c : Chunk} (hi : L[i]? = some c) : ∃ H', PLe H H' ∧ Mem w0 H0 (L.set i nop) H' w ∧ ∀ k, c.foot = some k → H' k = w.heap[k]? := by
  have hil : i < L.length := (List.getElem?_eq_some_iff.1 hi).1
  have get : ∀ {j d}, (L.set i nop)[j]? = some d → j = i ∧ d = nop ∨ j ≠ i ∧ L[j]? = some d := by
    intro j d hj
    by_cases hij : i = j
    · subst hij; rw [List.getElem?_set_self hil] at hj; exact .inl ⟨rfl, (Option.some.inj hj).symm⟩
    · rw [List.getElem?_set_ne hij] at hj; exact .inr ⟨Ne.symm hij, hj⟩
  refine ⟨fun k => if c.foot = some k then w.heap[k]? else H k, ?_, ?_, fun k hk => by simp [hk]⟩
  · intro k o hk
    show (if c.foot = some k then w.heap[k]? else H k) = some o
    rw [if_neg fun e => by rw [(h.fr i c hi k e).2] at hk; cases hk]
    exact hk
  · have hle : PLe H fun k => if c.foot = some k then w.heap[k]? else H k := by
      intro k o hk
      show (if c.foot = some k then w.heap[k]? else H k) = some o
      rw [if_neg fun e => by rw [(h.fr i c hi k e).2] at hk; cases hk]
      exact hk
    refine ⟨h.l0, h.le.trans hle, fun k o hk => ?_, h.ex, fun j d hj => ?_, fun j d hj k hk => ?_, fun j l d e hjl hj hl k hk hke => ?_⟩
    · split at hk
      · rename_i hf
        unfold Proofs.YtbpilielamjnoaaGreat.up
        rw [if_neg (by have := (h.fr i c hi k hf).1; omega)]
        exact hk
      · exact h.ub k o hk
    · rcases get hj with ⟨-, rfl⟩ | ⟨-, hj⟩
      · trivial
      · exact d.mono (h.ok j d hj) hle
    · rcases get hj with ⟨-, rfl⟩ | ⟨hji, hj⟩
      · cases hk
      · refine ⟨(h.fr j d hj k hk).1, ?_⟩
        show (if c.foot = some k then w.heap[k]? else H k) = none
        rw [if_neg fun e => h.ap i j c d (Ne.symm hji) hi hj k e hk]
        exact (h.fr j d hj k hk).2
    · rcases get hj with ⟨h1, rfl⟩ | ⟨h1, hj⟩
      · cases hk
      · rcases get hl with ⟨h2, rfl⟩ | ⟨h2, hl⟩
        · cases hke
        · exact h.ap j l d e hjl hj hl k hk hke
theorem Mem.freezeS (h : Mem w0 H0 L H w) (i : Nat) (hi : L[i]? = some (own hm sz T v xs)) : ∃ H', PLe H H' ∧ Mem w0 H0 (L.set i nop) H' w ∧ SliceRep E sz H' v xs := by
  obtain ⟨H', h1, h2, h3⟩ := h.freeze i hi
  refine ⟨H', h1, h2, ?_⟩
  have h4 : OwnC H w E sz T v xs := h.ok i _ hi
  rcases h4 with ⟨rfl, rfl⟩ | ⟨g, cap, cur, rfl, k1, k2, k3, k4, k5⟩
  · exact SliceRep.nil E sz _
  · refine ⟨_, cap, rfl, k2, k3, .inr ⟨g, 0, rfl, k5.row (fun _ _ => hm _ _ _ _ h1) fun j u hu => ?_⟩⟩
    have : H' g = some (.cells cur T (0, 0)) := by rw [h3 g rfl]; exact k1
    simp only [cellAt, this, Nat.zero_add]
    rw [List.getElem?_take] at hu
    split at hu
    · simpa using hu
    · cases hu
theorem Mem.freezeB (h : Mem w0 H0 L H w) (i : Nat) {b : Nat} {c : Array Value} (hi : L[i]? = some (Proofs.YtbpilielamjnoaaGreat.box b c T)) : ∃ H', PLe H H' ∧ Mem w0 H0 (L.set i nop) H' w ∧ ∀ j, cellAt H' b j = c[j]? := by
  obtain ⟨H', h1, h2, h3⟩ := h.freeze i hi
  refine ⟨H', h1, h2, fun j => ?_⟩
  have h4 : Own w b c T := h.ok i _ hi
  have : H' b = some (.cells c T (0, 0)) := by rw [h3 b rfl]; exact h4
  simp [cellAt, this]
theorem Mem.repUp (h : Mem w0 H0 L H w) (i : Nat) (hi : L[i]? = some (own hm sz T v xs)) : SliceRep E sz (Proofs.YtbpilielamjnoaaGreat.up H0 w0 w) v xs := by
  have h1 := h.ownS i hi
  rcases h1 with ⟨rfl, rfl⟩ | ⟨g, cap, cur, rfl, h1, h2, h3, h4, h5, h6, h7⟩
  · exact SliceRep.nil E sz _
  · refine ⟨_, cap, rfl, h4, h5, .inr ⟨g, 0, rfl, h7.row (fun _ _ => hm _ _ _ _ h.ub) fun j u hu => ?_⟩⟩
    have : Proofs.YtbpilielamjnoaaGreat.up H0 w0 w g = some (.cells cur T (0, 0)) := by unfold Proofs.YtbpilielamjnoaaGreat.up; rw [if_neg (by omega)]; exact h3
    simp only [cellAt, this, Nat.zero_add]
    rw [List.getElem?_take] at hu
    split at hu
    · simpa using hu
    · cases hu
theorem Mem.asOwn (h : Mem w0 H0 L H w) (i : Nat) {g n : Nat} {cur : Array Value} (hi : L[i]? = some (Proofs.YtbpilielamjnoaaGreat.box g cur T)) (hm : Mono E) (hn : xs.length ≤ n) (hmx : n ≤ maxLen) (hs : cur.size = n * sz) (hc : Cells H E sz (cur.toList.take (xs.length * sz)) xs) :
    Mem w0 H0 (L.set i (own hm sz T (.slice (some ⟨g, 0, none⟩) xs.length n) xs)) H w :=
  h.put i hi (c' := own hm sz T _ xs) (.inr ⟨g, n, cur, rfl, h.ok i _ hi, hn, hmx, hs, hc⟩) (fun k hk => .inl hk) h.ex fun _ _ _ => rfl
theorem Mem.asBox (h : Mem w0 H0 L H w) (i : Nat) (hi : L[i]? = some (own hm sz T v xs)) : (v = .slice none 0 0 ∧ xs = []) ∨ ∃ g cap cur, v = .slice (some ⟨g, 0, none⟩) xs.length cap ∧ xs.length ≤ cap ∧ cap ≤ maxLen ∧ cur.size = cap * sz ∧ Cells H E sz (cur.toList.take (xs.length * sz)) xs ∧ Mem w0 H0 (L.set i (Proofs.YtbpilielamjnoaaGreat.box g cur T)) H w := by
  have h4 : OwnC H w E sz T v xs := h.ok i _ hi
  rcases h4 with h4 | ⟨g, cap, cur, rfl, k1, k2, k3, k4, k5⟩
  · exact .inl h4
  · exact .inr ⟨g, cap, cur, rfl, k2, k3, k4, k5, h.put i hi (c' := Proofs.YtbpilielamjnoaaGreat.box g cur T) k1 (fun k hk => .inl hk) h.ex fun _ _ _ => rfl⟩
theorem wpList_append_M {P : Program} {ops : Array Oper} {rest : List Oper} {o : Oper} {a : Act} {Q : Exit → Act → World → Prop} (i : Nat) (hgd : o.guard = none) (s x : Operand) (t : TypeId)
    (ho : o.op = .call { callee := .builtin .append, args := #[s, x], argTypes := #[t, t] }) {z : Value} {bytes : Nat}
    (ht : P.underlying t = some (.slice T)) (hinfo : (P.info? T).map (fun i => (i.zero, i.size, i.bytes)) = some (some z, sz, bytes)) (hzs : z.cells.size = sz)
    {vx : Value} (hs : a.eval s = v) (hx : a.eval x = vx) (hS : Mem w0 H0 L H w) (hi : L[i]? = some (own hm sz T v xs)) (hsrc : Src w H E sz vx ys)
    (hone : ∀ cs x, E H cs x → ∀ u ∈ cs, u.oneCell' = true) (hbytes : (xs.length + ys.length) * bytes ≤ 140737488355328) (hcnt : xs.length + ys.length ≤ 140737488355328)
    (h : ∀ v' w', Mem w0 H0 (L.set i (own hm sz T v' (xs ++ ys))) H w' → wpList P ops Q rest (a.put o.dst v') w') :
    wpList P ops Q (o :: rest) a w := by
  refine wpList_append_S hgd s x t T ho z bytes ht hinfo hzs hs hx (hS.ownS i hi) hsrc hS.ple hS.ex.size hone hbytes hcnt fun v' w' h1 h2 h3 => h v' w' ?_
  refine hS.put i hi (c' := own hm sz T v' (xs ++ ys)) h1.c h3 (hS.ex.grown h2 fun k hk => (hS.fr i _ hi k hk).1) fun k hk hne => h2.block k hk (fun e => hne e.symm)
end
end
end Go.Proofs.YtbpilielamjnoaaGreat
namespace Go.Proofs.YtbpilielamjnoaaGreat
open Go.RowKit
section
variable {w0 w w' : World} {H0 H : PH} {L : List Chunk}
variable {α : Type} {E : PH → List Value → α → Prop} {hm : Mono E} {sz : Nat} {T : TypeId} {v : Value} {xs ys : List α}
theorem Mem.take (h : Mem w0 H0 L H w) (e : Ext w w') {H' : PH} (ho : OwnS w.heap.size H' w' E sz T v xs) (hm : Mono E) (hl : PLe H' (Proofs.YtbpilielamjnoaaGreat.up noH w w')) : ∃ H2, PLe H H2 ∧ PLe H' H2 ∧ Mem w0 H0 (L ++ [own hm sz T v xs]) H2 w' := by
  have hge : ∀ k o, H' k = some o → w.heap.size ≤ k := by
    intro k o hk
    have := hl k o hk
    unfold Proofs.YtbpilielamjnoaaGreat.up at this
    split at this
    · cases this
    · omega
  have h1 : PLe H fun k => if k < w.heap.size then H k else H' k := by
    intro k o hk
    show (if k < w.heap.size then H k else H' k) = some o
    rw [if_pos (ph_lt (h.ple k o hk))]; exact hk
  have h2 : PLe H' fun k => if k < w.heap.size then H k else H' k := by
    intro k o hk
    show (if k < w.heap.size then H k else H' k) = some o
    rw [if_neg (by have := hge k o hk; omega)]; exact hk
  refine ⟨_, h1, h2, ?_⟩
  have hM : Mem w0 H0 L (fun k => if k < w.heap.size then H k else H' k) w' := by
    refine ⟨h.l0, h.le.trans h1, fun k o hk => ?_, h.ex.then e, fun i c hi => c.mono (c.loc (h.ok i c hi) fun k hk => e.block k (h.lt hi hk)) h1, fun i c hi k hk => ⟨(h.fr i c hi k hk).1, ?_⟩, h.ap⟩
    · split at hk
      · exact up_then h.ex e k o (h.ub k o hk)
      · have h3 := hl k o hk
        have := h.ex.size
        unfold Proofs.YtbpilielamjnoaaGreat.up at h3 ⊢
        rw [if_neg (by omega)] at h3 ⊢
        exact h3
    · show (if k < w.heap.size then H k else H' k) = none
      rw [if_pos (h.lt hi hk)]; exact (h.fr i c hi k hk).2
  refine hM.add _ ?_ fun k hk => ?_
  · have h3 := ho.c
    exact (own hm sz T v xs).mono h3 h2
  · have h3 := ho.lt k hk
    refine ⟨Nat.le_trans h.ex.size h3.1, ?_, fun i d hi he => by have := h.lt hi he; omega⟩
    show (if k < w.heap.size then H k else H' k) = none
    rw [if_neg (by omega)]; exact h3.2.2
end
end Go.Proofs.YtbpilielamjnoaaGreat
namespace Go.Proofs.YtbpilielamjnoaaGreat
open Go.RowKit Go.Shelf
section
variable {w0 A B w w' : World} {H0 H : PH} {L : List Chunk}
section
variable {α : Type} {E : PH → List Value → α → Prop} {hm : Mono E} {sz : Nat} {T : TypeId} {v : Value} {xs ys : List α}
end
end
end Go.Proofs.YtbpilielamjnoaaGreat
namespace Go.Proofs.YtbpilielamjnoaaGreat
def okJ (ops : Array Oper) (m : Nat) : Bool :=
  decide (m ≤ ops.size) && Region.noSelect ops && (List.range ops.size).all (fun i => (afters ops i).all fun j => decide (j < i)) &&
  (List.range m).all (okPre ops m) && (List.range ops.size).all (fun i => decide (i < m) || (List.range m).all fun j => need ops i i j)
def listedJ (ops : Array Oper) (m : Nat) : Array Bool := ((List.range ops.size).map fun j => decide (j < m)).toArray
theorem listedJ_eq {ops : Array Oper} {m : Nat} {listed : Array Bool} (hs : listed.size = ops.size) (hl : ∀ j, j < ops.size → listed.getD j false = decide (j < m)) : listed = listedJ ops m := by
  refine Array.ext (by simp [listedJ, hs]) fun j h1 h2 => ?_
  have := hl j (by omega)
  simp [listedJ]
  rw [← this]
  simp [Array.getD, h1]
section
variable {P : Program} {ops : Array Oper} {Q : Exit → Act → World → Prop}
theorem wpAny_region_J (m : Nat) {a : Act} {W : World} (hc : okJ ops m = true)
    (h : walkI P ops [] W a (fun A w => wpAny P .any ops Q (ops.size - m) (listedJ ops m) A w) (ops.toList.take m) []) : wpAny P .any ops Q ops.size (Array.replicate ops.size false) a { W with drawn := W.drawn + 1 } := by
  simp only [okJ, Bool.and_eq_true, decide_eq_true_eq, List.all_eq_true, List.mem_range, Bool.or_eq_true] at hc
  obtain ⟨⟨⟨⟨hm1, hsel⟩, hlt'⟩, hpre⟩, hpost'⟩ := hc
  have hlt : ∀ i j, j ∈ afters ops i → j < i := by
    intro i j hj
    by_cases hi : i < ops.size
    · exact hlt' i hi j hj
    · obtain ⟨o, ho, -⟩ := mem_afters.1 hj
      rw [Array.getElem?_eq_none (by omega)] at ho; cases ho
  have hpost : ∀ i, m ≤ i → i < ops.size → ∀ j, j < m → need ops i i j = true := by
    intro i h1 h2 j hj
    rcases hpost' i h2 with h3 | h3
    · omega
    · exact h3 j hj
  obtain ⟨E, e1, e2, e3⟩ := walkI_env (ops := ops) (ops.toList.take m) [] (fun j o hj => by
    rw [List.getElem?_take] at hj
    split at hj
    · simpa using hj
    · cases hj) h
  simp only [List.nil_append, List.length_nil, Nat.zero_add] at e2 e3
  have hEl : E.length = m := by rw [e1]; simp; omega
  have dstE : ∀ (i : Nat) (d : Tmp) (R : Prop1), E[i]? = some (d, R) → (ops[i]?).bind (·.dst) = some d ∧ i < m := by
    intro i d R hi
    obtain ⟨o, h1, h2, -⟩ := (e2 i d R hi).go
    exact ⟨by simp [h1, h2], by rw [← hEl]; exact (List.getElem?_eq_some_iff.1 hi).1⟩
  have distinct : ∀ (i j : Nat) (d : Tmp), i < m → j < m → (ops[i]?).bind (·.dst) = some d → (ops[j]?).bind (·.dst) = some d → i = j := by
    intro i j d hi hj h1 h2
    have := hpre i hi
    unfold okPre at this
    cases ho : ops[i]? with
    | none => simp [ho] at h1
    | some o =>
      simp only [ho, Option.bind_some] at h1 this
      simp only [h1, Bool.and_eq_true, List.all_eq_true, List.mem_range, Bool.or_eq_true, beq_iff_eq, bne_iff_ne] at this
      rcases this.1 j hj with h3 | h3
      · exact h3.symm
      · exact absurd h2 h3
  have main : ∀ (n : Nat) (listed : Array Bool) (A : Act) (w : World), (List.range ops.size).countP (fun i => !listed.getD i false) = n → InvI ops [] m E W a listed A w → wpAny P .any ops Q n listed A w := by
    intro n
    induction n with
    | zero =>
      intro listed A w hn hI
      by_cases hmn : m < ops.size
      · exfalso
        rw [List.countP_eq_zero] at hn
        have := hn m (List.mem_range.2 hmn)
        rw [hI.post m (Nat.le_refl _)] at this
        simp at this
      · have hall : ∀ i, i < ops.size → listed.getD i false = true := by
          intro i hi
          rw [List.countP_eq_zero] at hn
          have := hn i (List.mem_range.2 hi)
          simpa using this
        have hmm : m = ops.size := by omega
        have hle : listed = listedJ ops m := listedJ_eq hI.size fun j hj => by rw [hall j hj]; simp; omega
        have := fins_done E a A hI.defs hI.tsz (fun i d R hi => ⟨(e2 i d R hi).lt, hI.has i d R (hall i (by have := (dstE i d R hi).2; omega)) hi⟩) (fun t ht => hI.same t fun i hi _ hdi => by
          have hiE : i < E.length := by omega
          obtain ⟨d, R, hx'⟩ := env_get hiE
          have h5 := (dstE i d R hx').1
          rw [hdi] at h5
          cases h5
          exact ht i _ R hx' rfl) (e3 w hI.ext)
        rw [show ops.size - m = 0 by omega, ← hle] at this
        exact this
    | succ n ih =>
      intro listed A w hn hI
      have hsz := hI.size
      by_cases hall : ∀ i, i < m → listed.getD i false = true
      · -- all of the first part are done
        have hdone := fins_done E a A hI.defs hI.tsz (fun i d R hi => ⟨(e2 i d R hi).lt, hI.has i d R (hall i (dstE i d R hi).2) hi⟩) (fun t ht => hI.same t fun i hi _ hdi => by
          have hiE : i < E.length := by omega
          obtain ⟨d, R, hx'⟩ := env_get hiE
          have h5 := (dstE i d R hx').1
          rw [hdi] at h5
          cases h5
          exact ht i _ R hx' rfl) (e3 w hI.ext)
        have hl : ∀ j, j < ops.size → listed.getD j false = decide (j < m) := by
          intro j hj
          by_cases hjm : j < m
          · rw [hall j hjm]; simp [hjm]
          · rw [hI.post j (by omega)]; simp [hjm]
        have hcount : n + 1 + m = ops.size := by
          have h1 : (List.range ops.size).countP (fun i => !listed.getD i false) = (List.range ops.size).countP (fun i => decide (m ≤ i)) := by
            refine List.countP_congr fun i hi => ?_
            rw [hl i (List.mem_range.1 hi)]
            by_cases hx : i < m <;> simp [hx] <;> omega
          have h2 : ∀ k, (List.range k).countP (fun i => decide (m ≤ i)) = k - m := by
            intro k
            induction k with
            | zero => simp
            | succ k ihk =>
              rw [List.range_succ, List.countP_append, ihk]
              by_cases hx : m ≤ k
              · simp [hx]; omega
              · simp [hx]; omega
          rw [h1, h2] at hn; omega
        have hle : listed = listedJ ops m := listedJ_eq hI.size hl
        rw [show ops.size - m = n + 1 by omega, ← hle] at hdone
        exact hdone
      · refine ⟨fun h0 => ?_, fun i hi => ?_⟩
        · -- some op is ready
          exfalso
          apply hall
          intro i
          induction i using Nat.strongRecOn with
          | ind i ihi =>
            intro him
            cases hx : listed.getD i false with
            | true => rfl
            | false =>
              have : i ∈ Region.ready .any ops listed := by
                rw [ready_afters]
                refine ⟨by rw [getD_tf (by omega)]; exact hx, ⟨ops[i]'(by omega), by simp [show i < ops.size by omega]⟩, fun j hj => ?_⟩
                have := hlt i j hj
                exact ihi j this (by omega)
              rw [h0] at this; cases this
        · obtain ⟨h1, ⟨oi, h2⟩, h3⟩ := ready_afters.1 hi
          have hio : i < ops.size := (Array.getElem?_eq_some_iff.1 h2).1
          have him : i < m := by
            rcases Nat.lt_or_ge i m with h | h
            · exact h
            · exfalso
              apply hall
              intro j hj
              exact need_listed hI.clo i i j (hpost i h hio j (by omega)) h3
          rw [getD_tf (by omega)] at h1
          have hiE : i < E.length := by omega
          obtain ⟨d, R, hx'⟩ := env_get hiE
          have hst := e2 i d R hx'
          obtain ⟨o', ho', hdst, hdo⟩ := hst.go
          obtain rfl : o' = oi := by rw [h2] at ho'; exact (Option.some.inj ho').symm
          have hok := hpre i him
          simp only [okPre, h2, hdst, Bool.and_eq_true, List.all_eq_true, List.mem_range, Bool.or_eq_true, beq_iff_eq, bne_iff_ne, List.contains_iff_mem] at hok
          -- what the operands are
          have hslot : ∀ t, t ∈ o'.looksAt ops → (∀ R', (E.take i).lookup t = some R' → R' (A.tmps.getD t undef) w) ∧ ((E.take i).lookup t = none → A.tmps[t]? = a.tmps[t]?) := by
            intro t ht
            refine ⟨fun R' hR' => ?_, fun hn' => ?_⟩
            · obtain ⟨j, hj⟩ := lookup_getD hR'
              have hji : j < i := by
                have := (List.getElem?_eq_some_iff.1 hj).1
                rw [List.length_take] at this; omega
              rw [List.getElem?_take, if_pos hji] at hj
              have hdj := dstE j t R' hj
              rcases hok.2 t ht j hdj.2 with h4 | h4
              · exact absurd hdj.1 h4
              · exact hI.has j t R' (h3 j h4) hj
            · refine hI.same t fun j hj hlj hdj => ?_
              rcases hok.2 t ht j hj with h4 | h4
              · exact h4 hdj
              · have hji := hlt i j h4
                have hjE : j < E.length := by omega
                obtain ⟨d', R', hy'⟩ := env_get hjE
                have h5 := (dstE j d' R' hy').1
                rw [hdj] at h5
                cases h5
                exact lookup_none hn' j t R' (by rw [List.getElem?_take, if_pos hji]; exact hy') rfl
          have hknow : ∀ l : List Operand, (∀ x ∈ l, ∀ t, x = .tmp t → t ∈ o'.looksAt ops) → knows A a w (E.take i) l := by
            intro l
            induction l with
            | nil => intro _; trivial
            | cons x xs ihx =>
              intro hl
              refine ⟨?_, ihx fun y hy => hl y (by simp [hy])⟩
              cases x with
              | tmp t =>
                have hs := hslot t (hl _ (by simp) t rfl)
                simp only []
                cases hlk : (E.take i).lookup t with
                | some R' =>
                  simp only []
                  have := hs.1 R' hlk
                  simpa [Act.eval] using this
                | none =>
                  simp only []
                  have := hs.2 hlk
                  simp only [Act.eval, Array.getD_eq_getD_getElem?, this]
              | _ => rfl
          have hops : knows A a w (E.take i) o'.op.operands.toList := hknow _ fun x hx t ht => by
            subst ht
            exact List.mem_append_left _ (List.mem_filterMap.2 ⟨.tmp t, hx, rfl⟩)
          -- behind it
          have key : ∀ v w', Ext w w' → R v w' → (∀ e ∈ ([] : List Tmp), o'.dst = some e → Fr w v w') → wpAny P .any ops Q n (listed.setIfInBounds i true) (A.put o'.dst v) w' := by
            intro v w' hww hR hFr
            have hdA : d < A.tmps.size := by rw [hI.tsz]; exact hst.lt
            refine ih _ _ _ ?_ ?_
            · have h6 : (List.range ops.size).countP (fun k => !listed.getD k false) = (List.range ops.size).countP (fun k => !(listed.setIfInBounds i true).getD k false) + 1 := by
                have gen : ∀ (l : List Nat), l.Nodup → i ∈ l → l.countP (fun k => !listed.getD k false) = l.countP (fun k => !(listed.setIfInBounds i true).getD k false) + 1 := by
                  intro l
                  induction l with
                  | nil => intro _ h; cases h
                  | cons x xs ihl =>
                    intro hnd hmem
                    rw [List.nodup_cons] at hnd
                    rcases List.mem_cons.1 hmem with rfl | hmem
                    · have h7 : xs.countP (fun k => !listed.getD k false) = xs.countP (fun k => !(listed.setIfInBounds i true).getD k false) := by
                        refine List.countP_congr fun k hk => ?_
                        rw [getD_set_ne _ (fun e => hnd.1 (by rw [e]; exact hk))]
                      rw [List.countP_cons, List.countP_cons, h7]
                      have h8 : (listed.setIfInBounds i true).getD i false = true := by simp [Array.getD_eq_getD_getElem?, show i < listed.size by omega]
                      rw [h1, h8]; simp
                    · have hne : i ≠ x := fun e => hnd.1 (by rw [← e]; exact hmem)
                      rw [List.countP_cons, List.countP_cons, ihl hnd.2 hmem, getD_set_ne _ hne]; omega
                exact gen _ List.nodup_range (List.mem_range.2 hio)
              omega
            · refine ⟨by simpa using hI.size, fun k hk j hj => ?_, fun k hk => ?_, hI.ext.then hww, by rw [hdst]; exact hI.defs, by rw [hdst]; simpa [Act.put] using hI.tsz, fun t ht => ?_, fun k d' R' hk hE' => ?_, fun k d' hk hlk hdk hdD g hg => ?_, fun k l d1 d2 hk hl hkl hlk hll hdk hdl h1D h2D g g' hg hg' => ?_⟩
              · by_cases hki : i = k
                · subst hki
                  have := h3 j hj
                  exact getD_set_true this
                · rw [getD_set_ne _ hki] at hk
                  exact getD_set_true (hI.clo k hk j hj)
              · rw [getD_set_ne _ (by omega)]; exact hI.post k hk
              · have hdt : d ≠ t := by
                  intro e; subst e
                  exact ht i him (by simp [Array.getD_eq_getD_getElem?, show i < listed.size by omega]) (by simp [h2, hdst])
                rw [hdst]
                simp only [Act.put]
                rw [Array.getElem?_setIfInBounds_ne hdt]
                exact hI.same t fun k hk hlk => ht k hk (getD_set_true hlk)
              · by_cases hki : i = k
                · subst hki
                  rw [hx'] at hE'
                  cases hE'
                  rw [hdst]
                  simp only [Act.put]
                  have : (A.tmps.setIfInBounds d v).getD d undef = v := by simp [Array.getD_eq_getD_getElem?, hdA]
                  rw [this]; exact hR
                · rw [getD_set_ne _ hki] at hk
                  have h7 := hI.has k d' R' hk hE'
                  have hne : d ≠ d' := fun e => by
                    subst e
                    have h8 := dstE k d R' hE'
                    exact hki (distinct i k d him h8.2 (by simp [h2, hdst]) h8.1)
                  rw [hdst]
                  simp only [Act.put]
                  have : (A.tmps.setIfInBounds d v).getD d' undef = A.tmps.getD d' undef := by simp [Array.getD_eq_getD_getElem?, Array.getElem?_setIfInBounds_ne hne]
                  rw [this]
                  exact (e2 k d' R' hE').st _ _ _ hI.ext h7 hww
              · by_cases hki : i = k
                · subst hki
                  obtain rfl : d' = d := by rw [h2, Option.bind_some, hdst] at hdk; exact (Option.some.inj hdk).symm
                  rw [hdst] at hg
                  simp only [Act.put] at hg
                  have : (A.tmps.setIfInBounds d' v).getD d' undef = v := by simp [Array.getD_eq_getD_getElem?, hdA]
                  rw [this] at hg
                  exact (hFr d' hdD hdst g hg).2
                · rw [getD_set_ne _ hki] at hlk
                  have hne : d ≠ d' := fun e => by
                    subst e
                    exact hki (distinct i k d him hk (by simp [h2, hdst]) hdk)
                  rw [hdst] at hg
                  simp only [Act.put] at hg
                  have : (A.tmps.setIfInBounds d v).getD d' undef = A.tmps.getD d' undef := by simp [Array.getD_eq_getD_getElem?, Array.getElem?_setIfInBounds_ne hne]
                  rw [this] at hg
                  have := hI.dlt k d' hk hlk hdk hdD g hg
                  have := hww.size
                  omega
              · have slotO : ∀ k d', k < m → k ≠ i → (ops[k]?).bind (·.dst) = some d' → (A.put o'.dst v).tmps.getD d' undef = A.tmps.getD d' undef := by
                  intro k d' hk hki hdk
                  have hne : d ≠ d' := fun e => by
                    subst e
                    exact hki (distinct i k d him hk (by simp [h2, hdst]) hdk).symm
                  rw [hdst]
                  simp only [Act.put]
                  simp [Array.getD_eq_getD_getElem?, Array.getElem?_setIfInBounds_ne hne]
                have slotI : ∀ d', (ops[i]?).bind (·.dst) = some d' → (A.put o'.dst v).tmps.getD d' undef = v ∧ o'.dst = some d' := by
                  intro d' hdk
                  obtain rfl : d' = d := by rw [h2, Option.bind_some, hdst] at hdk; exact (Option.some.inj hdk).symm
                  refine ⟨?_, hdst⟩
                  rw [hdst]
                  simp only [Act.put]
                  simp [Array.getD_eq_getD_getElem?, hdA]
                by_cases hki : i = k
                · subst hki
                  have a1 := slotI d1 hdk
                  rw [a1.1] at hg
                  rw [slotO l d2 hl (Ne.symm hkl) hdl] at hg'
                  rw [getD_set_ne _ hkl] at hll
                  have b1 := hFr d1 h1D a1.2 g hg
                  have b2 := hI.dlt l d2 hl hll hdl h2D g' hg'
                  omega
                · rw [getD_set_ne _ hki] at hlk
                  rw [slotO k d1 hk (Ne.symm hki) hdk] at hg
                  by_cases hli : i = l
                  · subst hli
                    have a1 := slotI d2 hdl
                    rw [a1.1] at hg'
                    have b1 := hFr d2 h2D a1.2 g' hg'
                    have b2 := hI.dlt k d1 hk hlk hdk h1D g hg
                    omega
                  · rw [getD_set_ne _ hli] at hll
                    rw [slotO l d2 hl (Ne.symm hli) hdl] at hg'
                    exact hI.dne k l d1 d2 hk hl hkl hlk hll hdk hdl h1D h2D g g' hg hg'
          unfold wpOp
          simp only [h2]
          have runs : RunsI P [] W a (E.take i) o' R → o'.wp P A w (wpAny P .any ops Q n (listed.setIfInBounds i true)) Q := fun hr => wp_weaken (hr A w hI.ext hops _ key)
          rcases hdo with ⟨hg, hr⟩ | ⟨g, b, tg, Rg, hg, htg, hlk, hcase⟩
          · rw [if_pos (by simp [Region.wanted, hg])]
            exact .inl (runs hr)
          · have hsg := (hslot tg (List.mem_append_right _ (by simp [hg, htg]))).1 Rg hlk
            obtain ⟨jg, hjg⟩ := lookup_getD hlk
            have hjg' : E[jg]? = some (tg, Rg) := by
              rw [List.getElem?_take] at hjg
              split at hjg
              · exact hjg
              · cases hjg
            have htsz : tg < A.tmps.size := by rw [hI.tsz]; exact (e2 jg tg Rg hjg').lt
            have hyl : ∀ c, A.tmps.getD tg undef = .bool c → yielded ops A.tmps g = some c := by
              intro c hcv
              have : A.tmps[tg]? = some (.bool c) := by
                rw [← hcv]; simp [Array.getD_eq_getD_getElem?, htsz]
              simp [yielded, htg, this]
            rcases hcase with ⟨h4, hr⟩ | ⟨h4, h5⟩
            · rw [if_pos (by simp [Region.wanted, hg, hyl b (h4 _ _ hsg)])]
              exact .inl (runs hr)
            · rw [if_neg (by
                simp only [Region.wanted, hg, beq_iff_eq]
                intro hy
                refine h4 _ _ hsg ?_
                unfold yielded at hy
                simp only [htg, Option.bind_some] at hy
                split at hy
                · rename_i c hc
                  cases hy
                  simp [Array.getD_eq_getD_getElem?, hc]
                · cases hy)]
              exact key undef w (Ext.rfl' w) (h5 w) (fun _ _ _ g hg => by cases hg)
  have h0 : (List.range ops.size).countP (fun i => !(Array.replicate ops.size false).getD i false) = ops.size := by
    have : (List.range ops.size).countP (fun i => !(Array.replicate ops.size false).getD i false) = (List.range ops.size).length := by
      rw [List.countP_eq_length]
      intro i hi
      have := List.mem_range.1 hi
      simp [Array.getD_eq_getD_getElem?, this]
    rw [this, List.length_range]
  have hf : ∀ i, (Array.replicate ops.size false).getD i false = false := by
    intro i
    by_cases h : i < ops.size
    · simp [Array.getD_eq_getD_getElem?, h]
    · simp [Array.getD_eq_getD_getElem?, Array.getElem?_eq_none, show ops.size ≤ i by omega]
  exact main ops.size _ a _ h0 ⟨by simp, fun i hi => absurd hi (by rw [hf]; simp), fun i _ => hf i, (Ext.rfl' W).drew', rfl, rfl, fun _ _ => rfl, fun i d R hi => absurd hi (by rw [hf]; simp), fun i d _ hi => absurd hi (by rw [hf]; simp), fun i j d d' _ _ _ hi => absurd hi (by rw [hf]; simp)⟩
end
end Go.Proofs.YtbpilielamjnoaaGreat
namespace Go.Proofs.YtbpilielamjnoaaGreat.Pj
open Go.RowKit
abbrev Prop1 := Value → World → Prop
abbrev Env := List (Tmp × Prop1)
def Stable (R : Prop1) : Prop := ∀ v w w', R v w → R v w'
abbrev St := Tmp → Value
abbrev Inv := (Nat → Bool) → St → World → Prop
def sl (A : Act) : St := fun t => A.tmps.getD t undef
def upd (dn : Nat → Bool) (i : Nat) : Nat → Bool := fun j => decide (j = i) || dn j
def sput (s : St) (d : Tmp) (v : Value) : St := fun t => if t = d then v else s t
def knows (A a : Act) (w : World) (E : Env) : List Operand → Prop
  | [] => True
  | x :: xs => (match x with
      | .tmp t => (match E.lookup t with
        | some R => R (A.eval x) w
        | none => A.eval x = a.eval x)
      | _ => A.eval x = a.eval x) ∧ knows A a w E xs
def afters (ops : Array Oper) (i : Nat) : List Nat := match ops[i]? with
  | some o => (o.after.toList.filter (Region.binds .any)).map (·.on)
  | none => []
def RunsI (P : Program) (ops : Array Oper) (J : Inv) (W : World) (a : Act) (i : Nat) (E : Env) (o : Oper) (d : Tmp) (R : Prop1) : Prop :=
  ∀ A w dn, Ext W w → J dn (sl A) w → dn i = false → (∀ j ∈ afters ops i, dn j = true) → knows A a w E o.op.operands.toList → ∀ K : Act → World → Prop, (∀ v w', Ext W w' → R v w' → J (upd dn i) (sput (sl A) d v) w' → K (A.put o.dst v) w') → o.wp P A w K (fun _ _ _ => False)
def doesI (P : Program) (ops : Array Oper) (J : Inv) (W : World) (a : Act) (i : Nat) (E : Env) (o : Oper) (d : Tmp) (R : Prop1) : Prop := o.guard = none ∧ RunsI P ops J W a i E o d R
def fins (K : Act → World → Prop) (w : World) : Env → Act → Prop
  | [], a => K a w
  | (d, R) :: rest, a => ∀ v, R v w → fins K w rest (a.put (some d) v)
def walkI (P : Program) (ops : Array Oper) (J : Inv) (W : World) (a : Act) (K : Act → World → Prop) : List Oper → Env → Prop
  | [], E => ∀ w, Ext W w → fins K w E a
  | o :: rest, E => ∃ d R, o.dst = some d ∧ d < a.tmps.size ∧ Stable R ∧ doesI P ops J W a E.length E o d R ∧ walkI P ops J W a K rest (E ++ [(d, R)])
def need (ops : Array Oper) : Nat → Nat → Nat → Bool
  | 0, _, _ => false
  | f + 1, i, j => (afters ops i).any fun k => k == j || need ops f k j
def okPre (ops : Array Oper) (m i : Nat) : Bool := match ops[i]? with
  | some oi => (match oi.dst with
      | some d => (List.range m).all fun j => j == i || (ops[j]?).bind (·.dst) != some d
      | none => false) &&
    (oi.looksAt ops).all fun t => (List.range m).all fun j => (ops[j]?).bind (·.dst) != some t || (afters ops i).contains j
  | none => false
def okI (ops : Array Oper) (m : Nat) : Bool :=
  decide (m ≤ ops.size) && Region.noSelect ops && (List.range ops.size).all (fun i => (afters ops i).all fun j => decide (j < i)) &&
  (List.range m).all (okPre ops m) && (List.range ops.size).all (fun i => decide (i < m) || (List.range i).all fun j => need ops i i j)
section
variable {P : Program} {ops : Array Oper} {Q : Exit → Act → World → Prop}
structure StepI (P : Program) (ops : Array Oper) (J : Inv) (W : World) (a : Act) (E : Env) (i : Nat) (d : Tmp) (R : Prop1) : Prop where
  lt : d < a.tmps.size
  st : Stable R
  go : ∃ o, ops[i]? = some o ∧ o.dst = some d ∧ doesI P ops J W a i (E.take i) o d R
theorem walkI_env {J : Inv} {W : World} {a : Act} {K : Act → World → Prop} : ∀ (l : List Oper) (E0 : Env), (∀ j o, l[j]? = some o → ops[E0.length + j]? = some o) → walkI P ops J W a K l E0 →
    ∃ E : Env, E.length = l.length ∧ (∀ i d R, E[i]? = some (d, R) → StepI P ops J W a (E0 ++ E) (E0.length + i) d R) ∧ ∀ w, Ext W w → fins K w (E0 ++ E) a := by
  intro l
  induction l with
  | nil => intro E0 _ h; exact ⟨[], rfl, by simp, by simpa [walkI] using h⟩
  | cons o rest ih =>
    intro E0 hl h
    obtain ⟨d, R, h1, h2, h3, h4, h5⟩ := h
    obtain ⟨E, e1, e2, e3⟩ := ih (E0 ++ [(d, R)]) (fun j o' hj => by
      have := hl (j + 1) o' (by simpa using hj)
      rw [← this]; congr 1; simp; omega) h5
    refine ⟨(d, R) :: E, by simp [e1], fun i d' R' hi => ?_, by simpa using e3⟩
    cases i with
    | zero =>
      simp only [List.getElem?_cons_zero, Option.some.injEq, Prod.mk.injEq] at hi
      obtain ⟨rfl, rfl⟩ := hi
      refine ⟨h2, h3, o, hl 0 o rfl, h1, ?_⟩
      have : (E0 ++ (d, R) :: E).take (E0.length + 0) = E0 := by simp
      rw [this, Nat.add_zero]; exact h4
    | succ i =>
      have := e2 i d' R' (by simpa using hi)
      rw [List.append_assoc, List.singleton_append] at this
      have e : (E0 ++ [(d, R)]).length + i = E0.length + (i + 1) := by simp; omega
      rwa [e] at this
structure InvI (ops : Array Oper) (J : Inv) (m : Nat) (E : Env) (W : World) (a : Act) (listed : Array Bool) (A : Act) (w : World) : Prop where
  size : listed.size = ops.size
  clo : ∀ i, listed.getD i false = true → ∀ j ∈ afters ops i, listed.getD j false = true
  post : ∀ i, m ≤ i → listed.getD i false = false
  ext : Ext W w
  defs : A.defers = a.defers
  tsz : A.tmps.size = a.tmps.size
  same : ∀ t, (∀ i, i < m → listed.getD i false = true → (ops[i]?).bind (·.dst) ≠ some t) → A.tmps[t]? = a.tmps[t]?
  has : ∀ i d R, listed.getD i false = true → E[i]? = some (d, R) → R (A.tmps.getD d undef) w
  jj : J (fun j => listed.getD j false) (sl A) w
theorem need_listed {listed : Array Bool} (hc : ∀ i, listed.getD i false = true → ∀ j ∈ afters ops i, listed.getD j false = true) : ∀ (f i j : Nat), need ops f i j = true → (∀ k ∈ afters ops i, listed.getD k false = true) → listed.getD j false = true := by
  intro f
  induction f with
  | zero => intro i j h; simp [need] at h
  | succ f ih =>
    intro i j h hi
    simp only [need, List.any_eq_true, Bool.or_eq_true, beq_iff_eq] at h
    obtain ⟨k, hk, rfl | h⟩ := h
    · exact hi _ hk
    · exact ih k j h (hc k (hi k hk))
theorem mem_afters {i j : Nat} : j ∈ afters ops i ↔ ∃ o, ops[i]? = some o ∧ ∃ e ∈ o.after, Region.binds .any e = true ∧ e.on = j := by
  unfold afters
  cases h : ops[i]? with
  | none => simp
  | some o =>
    simp only [List.mem_map, List.mem_filter, Array.mem_toList_iff, Option.some.injEq]
    constructor
    · rintro ⟨e, ⟨h1, h2⟩, h3⟩; exact ⟨o, rfl, e, h1, h2, h3⟩
    · rintro ⟨_, rfl, e, h1, h2, h3⟩; exact ⟨e, ⟨h1, h2⟩, h3⟩
theorem ready_afters {i : Nat} {listed : Array Bool} : i ∈ Region.ready .any ops listed ↔ listed.getD i true = false ∧ (∃ o, ops[i]? = some o) ∧ ∀ j ∈ afters ops i, listed.getD j false = true := by
  rw [mem_ready]
  constructor
  · rintro ⟨h1, o, h2, h3⟩
    refine ⟨h1, ⟨o, h2⟩, fun j hj => ?_⟩
    obtain ⟨o', h4, e, h5, h6, rfl⟩ := mem_afters.1 hj
    rw [h2] at h4; cases h4
    exact h3 e h5 h6
  · rintro ⟨h1, ⟨o, h2⟩, h3⟩
    exact ⟨h1, o, h2, fun e he hb => h3 _ (mem_afters.2 ⟨o, h2, e, he, hb, rfl⟩)⟩
theorem getD_tf {listed : Array Bool} {i : Nat} (h : i < listed.size) : listed.getD i true = listed.getD i false := by
  simp [Array.getD_eq_getD_getElem?, h]
theorem env_get {E : Env} {i : Nat} (h : i < E.length) : ∃ d R, E[i]? = some (d, R) := ⟨E[i].1, E[i].2, by rw [List.getElem?_eq_getElem h]⟩
theorem lookup_getD {E : Env} {t : Tmp} {R : Prop1} (h : E.lookup t = some R) : ∃ i : Nat, E[i]? = some (t, R) := by
  induction E with
  | nil => simp at h
  | cons x xs ih =>
    obtain ⟨d, S⟩ := x
    rw [List.lookup_cons] at h
    cases hb : t == d with
    | true =>
      simp only [hb] at h
      cases h
      exact ⟨0, by simp [eq_of_beq hb]⟩
    | false =>
      simp only [hb] at h
      obtain ⟨i, hi⟩ := ih h
      exact ⟨i + 1, by simpa using hi⟩
theorem lookup_none {E : Env} {t : Tmp} (h : E.lookup t = none) : ∀ (i : Nat) (d : Tmp) (R : Prop1), E[i]? = some (d, R) → d ≠ t := by
  induction E with
  | nil => simp
  | cons x xs ih =>
    obtain ⟨d, S⟩ := x
    rw [List.lookup_cons] at h
    cases hb : t == d with
    | true => simp [hb] at h
    | false =>
      simp only [hb] at h
      intro i d' R hi
      cases i with
      | zero => simp at hi; obtain ⟨rfl, -⟩ := hi; intro e; subst e; simp at hb
      | succ i => exact ih h i d' R (by simpa using hi)
theorem wp_weaken {o : Oper} {A : Act} {w : World} {K : Act → World → Prop} (h : o.wp P A w K (fun _ _ _ => False)) : o.wp P A w K Q := by
  unfold Oper.wp at *
  generalize (execOp A.eval o).run P w = r at *
  cases r with
  | ok n w' =>
    cases n <;> simp only [Oper.upon] at h ⊢
    case enter f args =>
      refine Calls.mono h fun e w'' he => ?_
      cases e with
      | returned u => exact he
      | panicked c => exact he.elim
      | outgrown => obtain ⟨_, _, hf⟩ := he; exact hf.elim
    all_goals exact h
  | halt x w' => cases x <;> simp only [Oper.upon] at h
theorem wpAny_tail {m : Nat} (hlt : ∀ i j, j ∈ afters ops i → j < i) (hpost : ∀ i, m ≤ i → i < ops.size → ∀ j, j < i → need ops i i j = true) : ∀ (n i : Nat) (listed : Array Bool) (A : Act) (w : World), n + i = ops.size → m ≤ i → listed.size = ops.size →
    (∀ j, j < ops.size → listed.getD j false = decide (j < i)) → wpList P ops Q (ops.toList.drop i) A w → wpAny P .any ops Q n listed A w := by
  intro n
  induction n with
  | zero =>
    intro i listed A w hn hm hs hl h
    have hr : Region.ready .any ops listed = [] := by
      rw [List.eq_nil_iff_forall_not_mem]
      intro j hj
      obtain ⟨h1, ⟨o, h2⟩, -⟩ := ready_afters.1 hj
      have hj' : j < ops.size := (Array.getElem?_eq_some_iff.1 h2).1
      rw [getD_tf (by omega), hl j hj'] at h1
      simp at h1; omega
    rw [List.drop_of_length_le (by simp; omega)] at h
    exact ⟨hr, h⟩
  | succ n ih =>
    intro i listed A w hn hm hs hl h
    have hi : i < ops.size := by omega
    have hready : ∀ j, j ∈ Region.ready .any ops listed → j = i := by
      intro j hj
      obtain ⟨h1, ⟨o, h2⟩, h3⟩ := ready_afters.1 hj
      have hj' : j < ops.size := (Array.getElem?_eq_some_iff.1 h2).1
      rw [getD_tf (by omega), hl j hj'] at h1
      simp at h1
      rcases Nat.lt_or_ge i j with h4 | h4
      · have hcl : ∀ i', listed.getD i' false = true → ∀ j ∈ afters ops i', listed.getD j false = true := by
          intro i' hi' k hk
          have hk' := hlt i' k hk
          by_cases hb : i' < ops.size
          · rw [hl i' hb] at hi'
            rw [hl k (by omega)]
            simp at hi' ⊢; omega
          · simp [Array.getD_eq_getD_getElem?, Array.getElem?_eq_none (show listed.size ≤ i' by omega)] at hi'
        have := need_listed hcl j j i (hpost j (by omega) hj' i h4) h3
        rw [hl i hi] at this
        simp at this
      · omega
    have hii : i ∈ Region.ready .any ops listed := by
      rw [ready_afters]
      refine ⟨by rw [getD_tf (by omega), hl i hi]; simp, ⟨ops[i], by simp [hi]⟩, fun j hj => ?_⟩
      have := hlt i j hj
      rw [hl j (by omega)]; simp; exact this
    refine ⟨fun h0 => absurd hii (by rw [h0]; exact List.not_mem_nil), fun j hj => ?_⟩
    obtain rfl := hready j hj
    rw [List.drop_eq_getElem_cons (by simpa using hi)] at h
    have key : ∀ (A' : Act) (w' : World), wpList P ops Q (ops.toList.drop (j + 1)) A' w' → wpAny P .any ops Q n (listed.setIfInBounds j true) A' w' := by
      intro A' w' h'
      refine ih (j + 1) _ A' w' (by omega) (by omega) (by simpa using hs) (fun k hk => ?_) h'
      by_cases hkj : j = k
      · subst hkj; simp [Array.getD_eq_getD_getElem?, hs, hi]
      · rw [getD_set_ne _ hkj, hl k hk]
        simp only [decide_eq_decide]; omega
    unfold wpList at h
    unfold wpOp
    simp only [hi, getElem?_pos]
    simp only [Array.getElem_toList] at h
    split
    · rename_i hw
      rw [if_pos hw] at h
      exact h.imp (Oper.wp_mono key) id
    · rename_i hw
      rw [if_neg hw] at h
      exact key _ _ h
theorem fins_done {K : Act → World → Prop} {w : World} : ∀ (E : Env) (a A : Act), A.defers = a.defers → A.tmps.size = a.tmps.size → (∀ (i : Nat) (d : Tmp) (R : Prop1), E[i]? = some (d, R) → d < a.tmps.size ∧ R (A.tmps.getD d undef) w) → (∀ t, (∀ (i : Nat) (d : Tmp) (R : Prop1), E[i]? = some (d, R) → d ≠ t) → A.tmps[t]? = a.tmps[t]?) → fins K w E a → K A w := by
  intro E
  induction E with
  | nil =>
    intro a A hd hs _ ht h
    have : A = a := by
      cases A; cases a
      simp only at hd hs ht
      subst hd
      congr 1
      refine Array.ext_getElem? fun i => ht i (by simp)
    subst this; exact h
  | cons x xs ih =>
    obtain ⟨d, R⟩ := x
    intro a A hd hs hh ht h
    obtain ⟨h1, h2⟩ := hh 0 d R rfl
    refine ih (a.put (some d) (A.tmps.getD d undef)) A hd (by simpa [Act.put] using hs) (fun i d' R' hi => ?_) (fun t hx => ?_) (h _ h2)
    · have := hh (i + 1) d' R' (by simpa using hi)
      exact ⟨by simpa [Act.put] using this.1, this.2⟩
    · by_cases hdt : d = t
      · subst hdt
        simp only [Act.put]
        rw [Array.getElem?_setIfInBounds_self_of_lt h1]
        have : d < A.tmps.size := by rw [hs]; exact h1
        simp [Array.getD_eq_getD_getElem?, this]
      · rw [ht t fun i d' R' hi => ?_]
        · simp only [Act.put]; rw [Array.getElem?_setIfInBounds_ne hdt]
        · cases i with
          | zero => simp at hi; obtain ⟨rfl, -⟩ := hi; exact hdt
          | succ i => exact hx i d' R' (by simpa using hi)
theorem wpAny_region_D (m : Nat) (J : Inv) {a : Act} {W : World} (hc : okI ops m = true) (hJ0 : J (fun _ => false) (sl a) W.drew)
    (h : walkI P ops J W a (fun A w => J (fun j => decide (j < m)) (sl A) w → wpList P ops Q (ops.toList.drop m) A w) (ops.toList.take m) []) : wpAny P .any ops Q ops.size (Array.replicate ops.size false) a { W with drawn := W.drawn + 1 } := by
  simp only [okI, Bool.and_eq_true, decide_eq_true_eq, List.all_eq_true, List.mem_range, Bool.or_eq_true] at hc
  obtain ⟨⟨⟨⟨hm1, hsel⟩, hlt'⟩, hpre⟩, hpost'⟩ := hc
  have hlt : ∀ i j, j ∈ afters ops i → j < i := by
    intro i j hj
    by_cases hi : i < ops.size
    · exact hlt' i hi j hj
    · obtain ⟨o, ho, -⟩ := mem_afters.1 hj
      rw [Array.getElem?_eq_none (by omega)] at ho; cases ho
  have hpost : ∀ i, m ≤ i → i < ops.size → ∀ j, j < i → need ops i i j = true := by
    intro i h1 h2 j hj
    rcases hpost' i h2 with h3 | h3
    · omega
    · exact h3 j hj
  obtain ⟨E, e1, e2, e3⟩ := walkI_env (ops := ops) (ops.toList.take m) [] (fun j o hj => by
    rw [List.getElem?_take] at hj
    split at hj
    · simpa using hj
    · cases hj) h
  simp only [List.nil_append, List.length_nil, Nat.zero_add] at e2 e3
  have hEl : E.length = m := by rw [e1]; simp; omega
  have dstE : ∀ (i : Nat) (d : Tmp) (R : Prop1), E[i]? = some (d, R) → (ops[i]?).bind (·.dst) = some d ∧ i < m := by
    intro i d R hi
    obtain ⟨o, h1, h2, -⟩ := (e2 i d R hi).go
    exact ⟨by simp [h1, h2], by rw [← hEl]; exact (List.getElem?_eq_some_iff.1 hi).1⟩
  have distinct : ∀ (i j : Nat) (d : Tmp), i < m → j < m → (ops[i]?).bind (·.dst) = some d → (ops[j]?).bind (·.dst) = some d → i = j := by
    intro i j d hi hj h1 h2
    have := hpre i hi
    unfold okPre at this
    cases ho : ops[i]? with
    | none => simp [ho] at h1
    | some o =>
      simp only [ho, Option.bind_some] at h1 this
      simp only [h1, Bool.and_eq_true, List.all_eq_true, List.mem_range, Bool.or_eq_true, beq_iff_eq, bne_iff_ne] at this
      rcases this.1 j hj with h3 | h3
      · exact h3.symm
      · exact absurd h2 h3
  have main : ∀ (n : Nat) (listed : Array Bool) (A : Act) (w : World), (List.range ops.size).countP (fun i => !listed.getD i false) = n → InvI ops J m E W a listed A w → wpAny P .any ops Q n listed A w := by
    intro n
    induction n with
    | zero =>
      intro listed A w hn hI
      by_cases hmn : m < ops.size
      · exfalso
        rw [List.countP_eq_zero] at hn
        have := hn m (List.mem_range.2 hmn)
        rw [hI.post m (Nat.le_refl _)] at this
        simp at this
      · have hall : ∀ i, i < ops.size → listed.getD i false = true := by
          intro i hi
          rw [List.countP_eq_zero] at hn
          have := hn i (List.mem_range.2 hi)
          simpa using this
        have hmm : m = ops.size := by omega
        have hall' : ∀ i, i < m → listed.getD i false = true := fun i hi => hall i (by omega)
        refine wpAny_tail (m := m) hlt hpost 0 ops.size listed A w (by omega) (by omega) hI.size (fun j hj => by rw [hall j hj]; simp [hj]) ?_
        have hdist : J (fun j => decide (j < m)) (sl A) w := by
          have e : (fun j => listed.getD j false) = fun j => decide (j < m) := by
            funext j
            by_cases hj : j < m
            · rw [hall' j hj]; simp [hj]
            · rw [hI.post j (by omega)]; simp [hj]
          rw [← e]; exact hI.jj
        have := fins_done E a A hI.defs hI.tsz (fun i d R hi => ⟨(e2 i d R hi).lt, hI.has i d R (hall i (by have := (dstE i d R hi).2; omega)) hi⟩) (fun t ht => hI.same t fun i hi _ hdi => by
          have hiE : i < E.length := by omega
          obtain ⟨d, R, hx'⟩ := env_get hiE
          have h5 := (dstE i d R hx').1
          rw [hdi] at h5
          cases h5
          exact ht i _ R hx' rfl) (e3 w hI.ext)
        have := this hdist
        rw [hmm] at this; exact this
    | succ n ih =>
      intro listed A w hn hI
      have hsz := hI.size
      by_cases hall : ∀ i, i < m → listed.getD i false = true
      · -- all of the first part are done
        have hdone := fins_done E a A hI.defs hI.tsz (fun i d R hi => ⟨(e2 i d R hi).lt, hI.has i d R (hall i (dstE i d R hi).2) hi⟩) (fun t ht => hI.same t fun i hi _ hdi => by
          have hiE : i < E.length := by omega
          obtain ⟨d, R, hx'⟩ := env_get hiE
          have h5 := (dstE i d R hx').1
          rw [hdi] at h5
          cases h5
          exact ht i _ R hx' rfl) (e3 w hI.ext)
        have hdone := hdone (by
          have e : (fun j => listed.getD j false) = fun j => decide (j < m) := by
            funext j
            by_cases hj : j < m
            · rw [hall j hj]; simp [hj]
            · rw [hI.post j (by omega)]; simp [hj]
          rw [← e]; exact hI.jj)
        have hl : ∀ j, j < ops.size → listed.getD j false = decide (j < m) := by
          intro j hj
          by_cases hjm : j < m
          · rw [hall j hjm]; simp [hjm]
          · rw [hI.post j (by omega)]; simp [hjm]
        have hcount : n + 1 + m = ops.size := by
          have h1 : (List.range ops.size).countP (fun i => !listed.getD i false) = (List.range ops.size).countP (fun i => decide (m ≤ i)) := by
            refine List.countP_congr fun i hi => ?_
            rw [hl i (List.mem_range.1 hi)]
            by_cases hx : i < m <;> simp [hx] <;> omega
          have h2 : ∀ k, (List.range k).countP (fun i => decide (m ≤ i)) = k - m := by
            intro k
            induction k with
            | zero => simp
            | succ k ihk =>
              rw [List.range_succ, List.countP_append, ihk]
              by_cases hx : m ≤ k
              · simp [hx]; omega
              · simp [hx]; omega
          rw [h1, h2] at hn; omega
        exact wpAny_tail (m := m) hlt hpost (n + 1) m listed A w hcount (Nat.le_refl _) hsz hl hdone
      · refine ⟨fun h0 => ?_, fun i hi => ?_⟩
        · -- some op is ready
          exfalso
          apply hall
          intro i
          induction i using Nat.strongRecOn with
          | ind i ihi =>
            intro him
            cases hx : listed.getD i false with
            | true => rfl
            | false =>
              have : i ∈ Region.ready .any ops listed := by
                rw [ready_afters]
                refine ⟨by rw [getD_tf (by omega)]; exact hx, ⟨ops[i]'(by omega), by simp [show i < ops.size by omega]⟩, fun j hj => ?_⟩
                have := hlt i j hj
                exact ihi j this (by omega)
              rw [h0] at this; cases this
        · obtain ⟨h1, ⟨oi, h2⟩, h3⟩ := ready_afters.1 hi
          have hio : i < ops.size := (Array.getElem?_eq_some_iff.1 h2).1
          have him : i < m := by
            rcases Nat.lt_or_ge i m with h | h
            · exact h
            · exfalso
              apply hall
              intro j hj
              exact need_listed hI.clo i i j (hpost i h hio j (by omega)) h3
          rw [getD_tf (by omega)] at h1
          have hiE : i < E.length := by omega
          obtain ⟨d, R, hx'⟩ := env_get hiE
          have hst := e2 i d R hx'
          obtain ⟨o', ho', hdst, hdo⟩ := hst.go
          obtain rfl : o' = oi := by rw [h2] at ho'; exact (Option.some.inj ho').symm
          have hok := hpre i him
          simp only [okPre, h2, hdst, Bool.and_eq_true, List.all_eq_true, List.mem_range, Bool.or_eq_true, beq_iff_eq, bne_iff_ne, List.contains_iff_mem] at hok
          -- what the operands are
          have hslot : ∀ t, t ∈ o'.looksAt ops → (∀ R', (E.take i).lookup t = some R' → R' (A.tmps.getD t undef) w) ∧ ((E.take i).lookup t = none → A.tmps[t]? = a.tmps[t]?) := by
            intro t ht
            refine ⟨fun R' hR' => ?_, fun hn' => ?_⟩
            · obtain ⟨j, hj⟩ := lookup_getD hR'
              have hji : j < i := by
                have := (List.getElem?_eq_some_iff.1 hj).1
                rw [List.length_take] at this; omega
              rw [List.getElem?_take, if_pos hji] at hj
              have hdj := dstE j t R' hj
              rcases hok.2 t ht j hdj.2 with h4 | h4
              · exact absurd hdj.1 h4
              · exact hI.has j t R' (h3 j h4) hj
            · refine hI.same t fun j hj hlj hdj => ?_
              rcases hok.2 t ht j hj with h4 | h4
              · exact h4 hdj
              · have hji := hlt i j h4
                have hjE : j < E.length := by omega
                obtain ⟨d', R', hy'⟩ := env_get hjE
                have h5 := (dstE j d' R' hy').1
                rw [hdj] at h5
                cases h5
                exact lookup_none hn' j t R' (by rw [List.getElem?_take, if_pos hji]; exact hy') rfl
          have hknow : ∀ l : List Operand, (∀ x ∈ l, ∀ t, x = .tmp t → t ∈ o'.looksAt ops) → knows A a w (E.take i) l := by
            intro l
            induction l with
            | nil => intro _; trivial
            | cons x xs ihx =>
              intro hl
              refine ⟨?_, ihx fun y hy => hl y (by simp [hy])⟩
              cases x with
              | tmp t =>
                have hs := hslot t (hl _ (by simp) t rfl)
                simp only []
                cases hlk : (E.take i).lookup t with
                | some R' =>
                  simp only []
                  have := hs.1 R' hlk
                  simpa [Act.eval] using this
                | none =>
                  simp only []
                  have := hs.2 hlk
                  simp only [Act.eval, Array.getD_eq_getD_getElem?, this]
              | _ => rfl
          have hops : knows A a w (E.take i) o'.op.operands.toList := hknow _ fun x hx t ht => by
            subst ht
            exact List.mem_append_left _ (List.mem_filterMap.2 ⟨.tmp t, hx, rfl⟩)
          -- behind it
          have key : ∀ v w', Ext W w' → R v w' → J (upd (fun j => listed.getD j false) i) (sput (sl A) d v) w' → wpAny P .any ops Q n (listed.setIfInBounds i true) (A.put o'.dst v) w' := by
            intro v w' hww hR hjj
            have hdA : d < A.tmps.size := by rw [hI.tsz]; exact hst.lt
            refine ih _ _ _ ?_ ?_
            · have h6 : (List.range ops.size).countP (fun k => !listed.getD k false) = (List.range ops.size).countP (fun k => !(listed.setIfInBounds i true).getD k false) + 1 := by
                have gen : ∀ (l : List Nat), l.Nodup → i ∈ l → l.countP (fun k => !listed.getD k false) = l.countP (fun k => !(listed.setIfInBounds i true).getD k false) + 1 := by
                  intro l
                  induction l with
                  | nil => intro _ h; cases h
                  | cons x xs ihl =>
                    intro hnd hmem
                    rw [List.nodup_cons] at hnd
                    rcases List.mem_cons.1 hmem with rfl | hmem
                    · have h7 : xs.countP (fun k => !listed.getD k false) = xs.countP (fun k => !(listed.setIfInBounds i true).getD k false) := by
                        refine List.countP_congr fun k hk => ?_
                        rw [getD_set_ne _ (fun e => hnd.1 (by rw [e]; exact hk))]
                      rw [List.countP_cons, List.countP_cons, h7]
                      have h8 : (listed.setIfInBounds i true).getD i false = true := by simp [Array.getD_eq_getD_getElem?, show i < listed.size by omega]
                      rw [h1, h8]; simp
                    · have hne : i ≠ x := fun e => hnd.1 (by rw [← e]; exact hmem)
                      rw [List.countP_cons, List.countP_cons, ihl hnd.2 hmem, getD_set_ne _ hne]; omega
                exact gen _ List.nodup_range (List.mem_range.2 hio)
              omega
            · refine ⟨by simpa using hI.size, fun k hk j hj => ?_, fun k hk => ?_, hww, by rw [hdst]; exact hI.defs, by rw [hdst]; simpa [Act.put] using hI.tsz, fun t ht => ?_, fun k d' R' hk hE' => ?_, ?_⟩
              · by_cases hki : i = k
                · subst hki
                  have := h3 j hj
                  exact getD_set_true this
                · rw [getD_set_ne _ hki] at hk
                  exact getD_set_true (hI.clo k hk j hj)
              · rw [getD_set_ne _ (by omega)]; exact hI.post k hk
              · have hdt : d ≠ t := by
                  intro e; subst e
                  exact ht i him (by simp [Array.getD_eq_getD_getElem?, show i < listed.size by omega]) (by simp [h2, hdst])
                rw [hdst]
                simp only [Act.put]
                rw [Array.getElem?_setIfInBounds_ne hdt]
                exact hI.same t fun k hk hlk => ht k hk (getD_set_true hlk)
              · by_cases hki : i = k
                · subst hki
                  rw [hx'] at hE'
                  cases hE'
                  rw [hdst]
                  simp only [Act.put]
                  have : (A.tmps.setIfInBounds d v).getD d undef = v := by simp [Array.getD_eq_getD_getElem?, hdA]
                  rw [this]; exact hR
                · rw [getD_set_ne _ hki] at hk
                  have h7 := hI.has k d' R' hk hE'
                  have hne : d ≠ d' := fun e => by
                    subst e
                    have h8 := dstE k d R' hE'
                    exact hki (distinct i k d him h8.2 (by simp [h2, hdst]) h8.1)
                  rw [hdst]
                  simp only [Act.put]
                  have : (A.tmps.setIfInBounds d v).getD d' undef = A.tmps.getD d' undef := by simp [Array.getD_eq_getD_getElem?, Array.getElem?_setIfInBounds_ne hne]
                  rw [this]
                  exact (e2 k d' R' hE').st _ _ _ h7
              · have e1 : (fun j => (listed.setIfInBounds i true).getD j false) = upd (fun j => listed.getD j false) i := by
                  funext j
                  unfold upd
                  by_cases hji : j = i
                  · subst hji; simp [Array.getD_eq_getD_getElem?, show j < listed.size by omega]
                  · rw [getD_set_ne _ (fun e => hji e.symm)]; simp [hji]
                have e2' : sl (A.put o'.dst v) = sput (sl A) d v := by
                  funext t
                  unfold sl sput
                  rw [hdst]
                  simp only [Act.put]
                  by_cases htd : t = d
                  · subst htd; simp [Array.getD_eq_getD_getElem?, hdA]
                  · rw [if_neg htd]; simp [Array.getD_eq_getD_getElem?, Array.getElem?_setIfInBounds_ne (fun e => htd e.symm)]
                rw [e1, e2']; exact hjj
          unfold wpOp
          simp only [h2]
          obtain ⟨hg, hr⟩ := hdo
          rw [if_pos (by simp [Region.wanted, hg])]
          exact .inl (wp_weaken (hr A w _ hI.ext hI.jj h1 h3 hops _ key))
  have h0 : (List.range ops.size).countP (fun i => !(Array.replicate ops.size false).getD i false) = ops.size := by
    have : (List.range ops.size).countP (fun i => !(Array.replicate ops.size false).getD i false) = (List.range ops.size).length := by
      rw [List.countP_eq_length]
      intro i hi
      have := List.mem_range.1 hi
      simp [Array.getD_eq_getD_getElem?, this]
    rw [this, List.length_range]
  have hf : ∀ i, (Array.replicate ops.size false).getD i false = false := by
    intro i
    by_cases h : i < ops.size
    · simp [Array.getD_eq_getD_getElem?, h]
    · simp [Array.getD_eq_getD_getElem?, Array.getElem?_eq_none, show ops.size ≤ i by omega]
  have ef : (fun j => (Array.replicate ops.size false).getD j false) = fun _ => false := funext hf
  exact main ops.size _ a _ h0 ⟨by simp, fun i hi => absurd hi (by rw [hf]; simp), fun i _ => hf i, (Ext.rfl' W).drew', rfl, rfl, fun _ _ => rfl, fun i d R hi => absurd hi (by rw [hf]; simp), by rw [ef]; exact hJ0⟩
abbrev Is (u : Value) : Prop1 := fun v _ => v = u
abbrev Any : Prop1 := fun _ _ => True
theorem walkI_step {J : Inv} {W : World} {a : Act} {K : Act → World → Prop} {o : Oper} {rest : List Oper} {E : Env} {d : Tmp} (hd : o.dst = some d) (hl : d < a.tmps.size) (hg : o.guard = none)
    (hr : ∀ A w dn, Ext W w → J dn (sl A) w → dn E.length = false → (∀ j ∈ afters ops E.length, dn j = true) → knows A a w E o.op.operands.toList → ∀ K : Act → World → Prop, (∀ v w', Ext W w' → J (upd dn E.length) (sput (sl A) d v) w' → K (A.put (some d) v) w') → o.wp P A w K (fun _ _ _ => False))
    (h : walkI P ops J W a K rest (E ++ [(d, Any)])) : walkI P ops J W a K (o :: rest) E :=
  ⟨d, Any, hd, hl, fun _ _ _ h => h, ⟨hg, by
    unfold RunsI; rw [hd]
    exact fun A w dn h1 h2 h3 h4 h5 K hK => hr A w dn h1 h2 h3 h4 h5 K fun v w' g1 g2 => hK v w' g1 trivial g2⟩, h⟩
theorem walkI_is {J : Inv} {W : World} {a : Act} {K : Act → World → Prop} {o : Oper} {rest : List Oper} {E : Env} {d : Tmp} {u : Value} (hd : o.dst = some d) (hl : d < a.tmps.size) (hg : o.guard = none)
    (hj : ∀ dn s w, J dn s w → J (upd dn E.length) (sput s d u) w)
    (hr : ∀ A w dn, Ext W w → J dn (sl A) w → (∀ j ∈ afters ops E.length, dn j = true) → knows A a w E o.op.operands.toList → ∀ K : Act → World → Prop, K (A.put (some d) u) w → o.wp P A w K (fun _ _ _ => False))
    (h : walkI P ops J W a K rest (E ++ [(d, Is u)])) : walkI P ops J W a K (o :: rest) E :=
  ⟨d, Is u, hd, hl, fun _ _ _ h => h, ⟨hg, by
    unfold RunsI; rw [hd]
    exact fun A w dn h1 h2 _ h4 h5 K hK => hr A w dn h1 h2 h4 h5 K (hK u w h1 rfl (hj _ _ _ h2))⟩, h⟩
theorem walkI_nil {J : Inv} {W : World} {a : Act} {K : Act → World → Prop} {E : Env} (h : ∀ w, Ext W w → fins K w E a) : walkI P ops J W a K [] E := h
end
end Go.Proofs.YtbpilielamjnoaaGreat.Pj
namespace Go.Proofs.YtbpilielamjnoaaGreat
open Go.RowKit
end Go.Proofs.YtbpilielamjnoaaGreat
namespace Go.Proofs.YtbpilielamjnoaaGreat
open Go.RowKit Go.Shelf
section
variable {α : Type} {E : PH → List Value → α → Prop} {sz : Nat} {H : PH} {T : TypeId} {v : Value}
end
theorem wpList_load_mid {P : Program} {ops : Array Oper} {rest : List Oper} {o : Oper} {a : Act} {w : World} {Q : Exit → Act → World → Prop} (hgd : o.guard = none) (ty : TypeId) (x : Operand) (ho : o.op = .load ty x)
    (b m : Nat) (hx : a.eval x = .pointer (some ⟨b, m, none⟩)) (cs : List Value) (d : TypeDesc) (hc : ∀ j u, cs[j]? = some u → w.cell? ⟨b, m + j, none⟩ = some u)
    (hu : P.underlying ty = some d) (hd : (match d with | .struct _ | .array _ _ => true | _ => false) = true) (hi : (P.info? ty).map (·.size) = some cs.length)
    (h : wpList P ops Q rest (a.put o.dst (.agg cs.toArray)) w) : wpList P ops Q (o :: rest) a w := by
  refine wpList_plain hgd fun _ hK => ?_
  have hl : (loadCells ⟨b, m, none⟩ cs.length).run P w = .ok cs.toArray w :=
    run_loadCells_list (P := P) w ⟨b, m, none⟩ cs (fun j v hv => by rw [addo]; exact hc j v hv)
  have hv : (loadVar ty ⟨b, m, none⟩).run P w = .ok (.agg cs.toArray) w := by
    cases hq : P.info? ty with
    | none => simp [hq] at hi
    | some i =>
      have hs : i.size = cs.length := by simpa [hq] using hi
      have hagg : (isAgg ty).run P w = .ok true w := by
        unfold isAgg
        rw [Sem.run_bind, run_underlying hu w]
        cases d <;> simp_all
      simp [loadVar, Sem.run_bind, hagg, sizeOf, typeInfo, hq, hs, hl]
  unfold Oper.wp execOp
  simp only [ho, hx, Instr.loadAt, Instr.sureAddr, Sem.run_bind, Sem.run_pure, Result.andThen_ok, hv]
  exact hK _ _ h
theorem oper_load_mid {P : Program} {o : Oper} {a : Act} {w : World} {K : Act → World → Prop} {Q : Exit → Act → World → Prop} (ty : TypeId) (x : Operand) (ho : o.op = .load ty x)
    (b m : Nat) (hx : a.eval x = .pointer (some ⟨b, m, none⟩)) (cs : List Value) (d : TypeDesc) (hc : ∀ j u, cs[j]? = some u → w.cell? ⟨b, m + j, none⟩ = some u)
    (hu : P.underlying ty = some d) (hd : (match d with | .struct _ | .array _ _ => true | _ => false) = true) (hi : (P.info? ty).map (·.size) = some cs.length)
    (h : K (a.put o.dst (.agg cs.toArray)) w) : o.wp P a w K Q := by
  have hl : (loadCells ⟨b, m, none⟩ cs.length).run P w = .ok cs.toArray w :=
    run_loadCells_list (P := P) w ⟨b, m, none⟩ cs (fun j v hv => by rw [addo]; exact hc j v hv)
  have hv : (loadVar ty ⟨b, m, none⟩).run P w = .ok (.agg cs.toArray) w := by
    cases hq : P.info? ty with
    | none => simp [hq] at hi
    | some i =>
      have hs : i.size = cs.length := by simpa [hq] using hi
      have hagg : (isAgg ty).run P w = .ok true w := by
        unfold isAgg
        rw [Sem.run_bind, run_underlying hu w]
        cases d <;> simp_all
      simp [loadVar, Sem.run_bind, hagg, sizeOf, typeInfo, hq, hs, hl]
  unfold Oper.wp execOp
  simp only [ho, hx, Instr.loadAt, Instr.sureAddr, Sem.run_bind, Sem.run_pure, Result.andThen_ok, hv]
  exact h
theorem Src.free {α : Type} {E : PH → List Value → α → Prop} {sz : Nat} {H H' : PH} {w : World} {v : Value} {xs : List α} (h : Src w H E sz v xs) (hE : ∀ cs x, E H cs x → E H' cs x) : Src w H' E sz v xs := by
  obtain ⟨a, cap, h1, h2, h3⟩ := h
  refine ⟨a, cap, h1, h2, ?_⟩
  rcases h3 with h3 | ⟨ad, c, h3, h4, h5⟩
  · exact .inl h3
  · exact .inr ⟨ad, c, h3, h4.mono hE, h5⟩
section
variable {α : Type} {E : PH → List Value → α → Prop} {hm : Mono E} {sz : Nat} {T : TypeId} {w0 w : World} {H0 H : PH} {L : List Chunk} {xs : List α}
theorem Cells.take {c : List Value} (h : Cells H E sz c xs) (k : Nat) : Cells H E sz (c.take (k * sz)) (xs.take k) := by
  induction xs generalizing c k with
  | nil =>
    have : c = [] := h
    subst this; simp; exact rfl
  | cons x xs ih =>
    obtain ⟨cs, rest, rfl, h1, h2, h3⟩ := h
    cases k with
    | zero => simp; exact rfl
    | succ k =>
      refine ⟨cs, rest.take (k * sz), ?_, h1, h2, ih h3 k⟩
      rw [show (k + 1) * sz = cs.length + k * sz by rw [h1, Nat.add_mul]; omega, List.take_length_add_append]
theorem Cells.putRow {x : α} {cs : List Value} (hx : E H cs x) (hs : cs.length = sz) : ∀ {xs : List α} {c : List Value} (k : Nat), k < xs.length → Cells H E sz c xs → Cells H E sz (c.take (k * sz) ++ cs ++ c.drop (k * sz + sz)) (xs.set k x)
  | [], _, k, hk, _ => by simp at hk
  | y :: ys, c, 0, _, hc => by
    obtain ⟨ds, rest, rfl, h1, h2, h3⟩ := hc
    refine ⟨cs, rest, ?_, hs, hx, h3⟩
    rw [Nat.zero_mul, Nat.zero_add, List.take_zero, List.nil_append, List.drop_left' h1]
  | y :: ys, c, k + 1, hk, hc => by
    obtain ⟨ds, rest, rfl, h1, h2, h3⟩ := hc
    refine ⟨ds, rest.take (k * sz) ++ cs ++ rest.drop (k * sz + sz), ?_, h1, h2, Cells.putRow hx hs k (by simpa using hk) h3⟩
    rw [show (k + 1) * sz = ds.length + k * sz by rw [h1, Nat.add_mul]; omega, List.take_length_add_append, show ds.length + k * sz + sz = ds.length + (k * sz + sz) by omega, List.drop_length_add_append]
    simp
theorem setRow_block (w : World) (g k : Nat) (c : Array Value) (h : k ≠ g) : (w.setRow g c).heap[k]? = w.heap[k]? := setRow_other w g k c (fun e => h e)
theorem Mem.putRow {g cap n : Nat} {cur : Array Value} {x : α} {cs : List Value} (h : Mem w0 H0 L H w) (i : Nat) (hi : L[i]? = some (own hm sz T (.slice (some ⟨g, 0, none⟩) n cap) xs)) (hn : n = xs.length) (k : Nat) (hk : k < xs.length) (hx : E H cs x) (hs : cs.length = sz)
    (hg : w.heap[g]? = some (.cells cur T (0, 0))) : Mem w0 H0 (L.set i (own hm sz T (.slice (some ⟨g, 0, none⟩) n cap) (xs.set k x))) H (w.setRow g (cur.toList.take (k * sz) ++ cs ++ cur.toList.drop (k * sz + sz)).toArray) := by
  subst hn
  have h4 : OwnC H w E sz T (.slice (some ⟨g, 0, none⟩) xs.length cap) xs := h.ok i _ hi
  rcases h4 with ⟨h4, -⟩ | ⟨g', cap', cur', e, k1, k2, k3, k4, k5⟩
  · cases h4
  · cases e
    rw [hg] at k1
    cases k1
    have hkn : k * sz + sz ≤ xs.length * sz := by
      have := Nat.mul_le_mul_right sz (show k + 1 ≤ xs.length from hk); rw [Nat.add_mul] at this; omega
    have hnc : xs.length * sz ≤ cap * sz := Nat.mul_le_mul_right _ k2
    have hcl : cur.toList.length = cap * sz := by simpa using k4
    refine h.put i hi (c' := own hm sz T _ (xs.set k x)) (.inr ⟨g, cap, (cur.toList.take (k * sz) ++ cs ++ cur.toList.drop (k * sz + sz)).toArray, by simp, setRow_heap w g cur _ T _ hg, by simpa using k2, k3, ?_, ?_⟩) (fun k hk => .inl hk) ?_ fun j hj hne => setRow_block _ _ _ _ (fun e => hne (by rw [e]; rfl))
    · simp only [List.size_toArray, List.length_append, List.length_take, List.length_drop, hcl, hs]; omega
    · have := Cells.putRow (H := H) hx hs k hk k5
      rw [List.length_set]
      have e1 : (cur.toList.take (k * sz) ++ cs ++ cur.toList.drop (k * sz + sz)).toArray.toList.take (xs.length * sz) = (cur.toList.take (xs.length * sz)).take (k * sz) ++ cs ++ (cur.toList.take (xs.length * sz)).drop (k * sz + sz) := by
        simp only []
        rw [List.take_take, Nat.min_eq_left (by omega), List.drop_take]
        have hl : (cur.toList.take (k * sz) ++ cs).length = k * sz + sz := by rw [List.length_append, List.length_take, hs]; omega
        rw [List.take_append, hl, List.take_of_length_le (by omega)]
      rw [e1]; exact this
    · have hbase := (h.fr i _ hi g rfl).1
      exact h.ex.trans ⟨rfl, rfl, rfl, by simp [World.setRow], fun j hj => setRow_block _ _ _ _ (by omega)⟩
theorem Mem.cut {g cap n : Nat} {cur cur' : Array Value} (h : Mem w0 H0 L H w) (i : Nat) (hi : L[i]? = some (own hm sz T (.slice (some ⟨g, 0, none⟩) n cap) xs)) (hn : n = xs.length) (k : Nat) (hk : k ≤ xs.length)
    (hg : w.heap[g]? = some (.cells cur T (0, 0))) (hs : cur'.size = cur.size) (ht : cur'.toList.take (k * sz) = cur.toList.take (k * sz)) : Mem w0 H0 (L.set i (own hm sz T (.slice (some ⟨g, 0, none⟩) k cap) (xs.take k))) H (w.setRow g cur') := by
  subst hn
  have h4 : OwnC H w E sz T (.slice (some ⟨g, 0, none⟩) xs.length cap) xs := h.ok i _ hi
  rcases h4 with ⟨h4, -⟩ | ⟨g', cap', cur1, e, k1, k2, k3, k4, k5⟩
  · cases h4
  · cases e
    rw [hg] at k1
    cases k1
    have hkl : (xs.take k).length = k := by rw [List.length_take]; omega
    have hkn : k * sz ≤ xs.length * sz := Nat.mul_le_mul_right sz hk
    refine h.put i hi (c' := own hm sz T _ (xs.take k)) (.inr ⟨g, cap, cur', by rw [hkl], setRow_heap w g cur _ T _ hg, by omega, k3, by rw [hs]; exact k4, ?_⟩) (fun k hk => .inl hk) (h.ex.trans ⟨rfl, rfl, rfl, by simp [World.setRow], fun j hj => setRow_block _ _ _ _ (by have := (h.fr i _ hi g rfl).1; omega)⟩) fun j hj hne => setRow_block _ _ _ _ (fun e => hne (by rw [e]; rfl))
    have := Cells.take k5 k
    rw [List.take_take, Nat.min_eq_left hkn] at this
    rw [hkl, ht]; exact this
end
section
variable {P : Program} {α : Type} {E : PH → List Value → α → Prop} {hm : Mono E} {sz : Nat} {T : TypeId} {w0 w : World} {H0 H : PH} {L : List Chunk} {xs : List α}
theorem Mem.cur {g n cap : Nat} (h : Mem w0 H0 L H w) (i : Nat) (hi : L[i]? = some (own hm sz T (.slice (some ⟨g, 0, none⟩) n cap) xs)) : ∃ cur, w.heap[g]? = some (.cells cur T (0, 0)) ∧ cur.size = cap * sz ∧ xs.length ≤ cap ∧ n = xs.length := by
  have h4 : OwnC H w E sz T (.slice (some ⟨g, 0, none⟩) n cap) xs := h.ok i _ hi
  rcases h4 with ⟨h4, -⟩ | ⟨g', cap', cur1, e, k1, k2, k3, k4, k5⟩
  · cases h4
  · cases e; exact ⟨cur1, k1, k4, k2, rfl⟩
theorem wpList_store_M {ops : Array Oper} {rest : List Oper} {o : Oper} {a : Act} {Q : Exit → Act → World → Prop} (hgd : o.guard = none) (ty : TypeId) (x y : Operand) (ho : o.op = .store ty x y)
    {g n cap : Nat} (k : Nat) (hx : a.eval x = .pointer (some ⟨g, k * sz, none⟩)) {cs : List Value} (hy : a.eval y = .agg cs.toArray) {x' : α} (h : Mem w0 H0 L H w) (i : Nat) (hi : L[i]? = some (own hm sz T (.slice (some ⟨g, 0, none⟩) n cap) xs)) (hk : k < xs.length)
    (hE : E H cs x') (hcs : cs.length = sz) (hone : ∀ u ∈ cs, u.oneCell' = true) (hinfo : (P.info? ty).map (·.size) = some sz)
    (hn : ∀ w', Mem w0 H0 (L.set i (own hm sz T (.slice (some ⟨g, 0, none⟩) n cap) (xs.set k x'))) H w' → wpList P ops Q rest (a.put o.dst undef) w') : wpList P ops Q (o :: rest) a w := by
  obtain ⟨cur, hg, hc1, hc2, rfl⟩ := h.cur i hi
  have hkn : k * sz + sz ≤ cap * sz := by
    have := Nat.mul_le_mul_right sz (show k + 1 ≤ cap by omega); rw [Nat.add_mul] at this; omega
  have hst := run_storeCells_at (P := P) g (k * sz) T cs 0 cur w hg (by omega) hone
  simp only [Nat.add_zero] at hst
  rw [hcs] at hst
  refine wpList_plain hgd fun _ hK => ?_
  have hv : (storeVar ty ⟨g, k * sz, none⟩ (.agg cs.toArray)).run P w = .ok () (w.setRow g (cur.toList.take (k * sz) ++ cs ++ cur.toList.drop (k * sz + sz)).toArray) := by
    cases hq : P.info? ty with
    | none => simp [hq] at hinfo
    | some j =>
      have hs : cs.length = j.size := by simp [hq] at hinfo; omega
      simp [storeVar, sizeOf, typeInfo, hq, Value.cells, hs, hst]
  unfold Oper.wp execOp
  simp only [ho, hx, hy, Instr.storeAt, Instr.sureAddr, Sem.run_bind, Sem.run_pure, Result.andThen_ok, hv]
  exact hK _ _ (hn _ (h.putRow i hi rfl k hk hE hcs hg))
theorem zeroCells_one {z : Array Value} (hz : z.all (·.oneCell') = true) (n : Nat) : ∀ v ∈ (Builtin.zeroCells z n).toList, v.oneCell' = true := by
  intro v hv
  simp [Builtin.zeroCells] at hv
  obtain ⟨j, hj, rfl⟩ := hv
  have hpos : 0 < z.size := Nat.pos_of_ne_zero fun e => by rw [e] at hj; simp at hj
  have hlt : j % z.size < z.size := Nat.mod_lt _ hpos
  have := (Array.all_eq_true.1 hz) (j % z.size) hlt
  simpa [hlt] using this
theorem wpList_clear_M {ops : Array Oper} {rest : List Oper} {o : Oper} {a : Act} {Q : Exit → Act → World → Prop} (hgd : o.guard = none) (s : Operand) (t : TypeId) (ho : o.op = .call { callee := .builtin .clear, args := #[s], argTypes := #[t] })
    {g n cap c : Nat} (k : Nat) (hs : a.eval s = .slice (some ⟨g, k * sz, none⟩) (n - k) c) {z : Value} (ht : P.underlying t = some (.slice T)) (hz : ∀ w, (zeroValue T).run P w = .ok z w) (hzs : z.cells.size = sz) (hz1 : z.cells.all (·.oneCell') = true)
    (h : Mem w0 H0 L H w) (i : Nat) (hi : L[i]? = some (own hm sz T (.slice (some ⟨g, 0, none⟩) n cap) xs)) (hk : k ≤ xs.length)
    (hn : ∀ w', Mem w0 H0 (L.set i (own hm sz T (.slice (some ⟨g, 0, none⟩) k cap) (xs.take k))) H w' → wpList P ops Q rest (a.put o.dst (.tuple #[])) w') : wpList P ops Q (o :: rest) a w := by
  obtain ⟨cur, hg, hc1, hc2, rfl⟩ := h.cur i hi
  have hzl : (Builtin.zeroCells z.cells (xs.length - k)).toList.length = (xs.length - k) * sz := by rw [Array.length_toList, size_zeroCells, hzs]
  have hle : k * sz + (xs.length - k) * sz ≤ cap * sz := by
    rw [← Nat.add_mul]; exact Nat.mul_le_mul_right _ (by omega)
  have hst := run_storeCells_at (P := P) g (k * sz) T (Builtin.zeroCells z.cells (xs.length - k)).toList 0 cur w hg (by omega) (zeroCells_one hz1 _)
  simp only [Nat.add_zero] at hst
  have hM := h.cut i hi rfl k hk hg (cur' := (cur.toList.take (k * sz) ++ (Builtin.zeroCells z.cells (xs.length - k)).toList ++ cur.toList.drop (k * sz + (Builtin.zeroCells z.cells (xs.length - k)).toList.length)).toArray)
    (by simp only [List.size_toArray, List.length_append, List.length_take, List.length_drop, hzl, Array.length_toList]; omega)
    (by simp only []; rw [List.append_assoc, List.take_append_of_le_length (by rw [List.length_take, Array.length_toList]; omega), List.take_take, Nat.min_self])
  refine wpList_plain hgd fun _ hK => ?_
  have hr : (Builtin.clear_ #[t] o.type #[.slice (some ⟨g, k * sz, none⟩) (xs.length - k) c]).run P w = .ok (.tuple #[]) (w.setRow g (cur.toList.take (k * sz) ++ (Builtin.zeroCells z.cells (xs.length - k)).toList ++ cur.toList.drop (k * sz + (Builtin.zeroCells z.cells (xs.length - k)).toList.length)).toArray) := by
    cases hq : xs.length - k with
    | zero =>
      have hz0 : Builtin.zeroCells z.cells 0 = #[] := by simp [Builtin.zeroCells]
      rw [hz0]
      have e1 : (cur.toList.take (k * sz) ++ (#[] : Array Value).toList ++ cur.toList.drop (k * sz + (#[] : Array Value).toList.length)).toArray = cur := by simp
      rw [e1, setRow_self w g cur T (0, 0) hg]
      simp [Builtin.clear_, run_underlying ht]
    | succ m =>
      rw [hq] at hst
      simp [Builtin.clear_, run_underlying ht, hz, hst]
  unfold Oper.wp execOp
  simp only [ho, resolve, invoke, builtin, Sem.run_bind, Sem.run_pure, Result.andThen_ok, List.map_toArray, List.map_cons, List.map_nil, hs, hr]
  exact hK _ _ (hn _ hM)
end
end Go.Proofs.YtbpilielamjnoaaGreat
