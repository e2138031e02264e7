/- Slices of one's own of whatever bytes, and steps that keep them; plain facts on encodings. -/
import Derived.Test.YtebhdjeognpljaaDecode
import Derived.Test.YtebhdjeognpljaaRefValid
namespace Go.Proofs.Ytebhdjeognpljaa
open Go.RowKit
set_option linter.unusedSimpArgs false
set_option linter.unusedVariables false
def isB (o : Option Value) : Prop := ∃ x : UInt8, o = some (byteV x)
/-- v is n bytes of one's own -/
def AnyB (base n : Nat) (v : Value) (w : World) : Prop := (v = .slice none 0 0 ∧ n = 0) ∨
  ∃ g cap cur, v = .slice (some ⟨g, 0, none⟩) n cap ∧ base ≤ g ∧ w.heap[g]? = some (.cells cur 5 (0, 0)) ∧ n ≤ cap ∧ cap ≤ maxLen ∧ cur.size = cap ∧ ∀ j : Nat, j < n → isB cur[j]?
/-- what lay stays, and bytes stay bytes -/
structure Lb (base : Nat) (w w' : World) : Prop where
  os : w'.os = w.os
  tape : w'.tape = w.tape
  output : w'.output = w.output
  size : w.heap.size ≤ w'.heap.size
  block : ∀ k, k < w.heap.size → w'.heap[k]? = w.heap[k]? ∨ (base ≤ k ∧ ∃ (c c' : Array Value), w.heap[k]? = some (.cells c 5 (0, 0)) ∧ w'.heap[k]? = some (.cells c' 5 (0, 0)) ∧ c'.size = c.size ∧ ∀ j : Nat, isB c[j]? → isB c'[j]?)
theorem Lb.ofExt {base : Nat} {w w' : World} (h : Ext w w') : Lb base w w' := ⟨h.os, h.tape, h.output, h.size, fun k hk => .inl (h.block k hk)⟩
theorem Lb.ext {W w w' : World} (h : Ext W w) (k : Lb W.heap.size w w') : Ext W w' :=
  ⟨k.os.trans h.os, k.tape.trans h.tape, k.output.trans h.output, Nat.le_trans h.size k.size, fun i hi => by
    rcases k.block i (by have := h.size; omega) with h1 | ⟨h1, -⟩
    · rw [h1]; exact h.block i hi
    · omega⟩
theorem AnyB.keep {base n : Nat} {v : Value} {w w' : World} (h : AnyB base n v w) (k : Lb base w w') : AnyB base n v w' := by
  rcases h with h | ⟨g, cap, cur, h1, h2, h3, h4, h5, h6, h7⟩
  · exact .inl h
  · rcases k.block g (Array.getElem?_eq_some_iff.1 h3).1 with h8 | ⟨-, c, c', q1, q2, q3, q4⟩
    · exact .inr ⟨g, cap, cur, h1, h2, by rw [h8]; exact h3, h4, h5, h6, h7⟩
    · rw [h3] at q1; cases q1
      exact .inr ⟨g, cap, c', h1, h2, q2, h4, h5, by omega, fun j hj => q4 j (h7 j hj)⟩
theorem AnyB.ofOwn {base : Nat} {v : Value} {w : World} {xs : List UInt8} (h : OwnS base noH w ByteR 1 5 v xs) : AnyB base xs.length v w := by
  rcases h with ⟨rfl, rfl⟩ | ⟨g, cap, cur, rfl, h1, h2, h3, h4, h5, h6, h7⟩
  · exact .inl ⟨rfl, rfl⟩
  · refine .inr ⟨g, cap, cur, rfl, h1, h3, h4, h5, by omega, fun j hj => ?_⟩
    rw [cells_byteV] at h7
    have h8 : (cur.toList.take (xs.length * 1))[j]? = some (byteV xs[j]) := by rw [h7]; simp [hj]
    rw [List.getElem?_take, if_pos (by omega)] at h8
    exact ⟨xs[j], by simpa using h8⟩
theorem anyB_list : ∀ (n : Nat) (c : List Value), (∀ j, j < n → isB c[j]?) → ∃ xs : List UInt8, xs.length = n ∧ c.take n = xs.map byteV
  | 0, c, _ => ⟨[], rfl, by simp⟩
  | n + 1, c, h => by
    obtain ⟨x, hx⟩ := h 0 (by omega)
    cases c with
    | nil => simp at hx
    | cons a c =>
      obtain ⟨xs, h1, h2⟩ := anyB_list n c fun j hj => by simpa using h (j + 1) (by omega)
      refine ⟨x :: xs, by simp [h1], ?_⟩
      simp at hx
      rw [List.take_succ_cons, h2, hx]; rfl
theorem AnyB.own {base n : Nat} {v : Value} {w : World} (h : AnyB base n v w) : ∃ xs, xs.length = n ∧ OwnS base noH w ByteR 1 5 v xs := by
  rcases h with ⟨rfl, rfl⟩ | ⟨g, cap, cur, rfl, h1, h3, h4, h5, h6, h7⟩
  · exact ⟨[], rfl, OwnS.nil _ _ _ _ _ _⟩
  · obtain ⟨xs, h8, h9⟩ := anyB_list n cur.toList fun j hj => by simpa using h7 j hj
    subst h8
    exact ⟨xs, rfl, .inr ⟨g, cap, cur, rfl, h1, rfl, h3, h4, h5, by omega, by rw [cells_byteV, Nat.mul_one]; exact h9⟩⟩
theorem AnyB.rep {base n : Nat} {v : Value} {w : World} (h : AnyB base n v w) : ∃ xs, xs.length = n ∧ BytesR (ph w) v xs := by
  obtain ⟨xs, h1, h2⟩ := h.own
  exact ⟨xs, h1, h2.rep mono_ByteR (noH_le _)⟩
theorem AnyB.form {base n : Nat} {v : Value} {w : World} (h : AnyB base n v w) : ∃ a cap, v = .slice a n cap := by
  rcases h with ⟨rfl, rfl⟩ | ⟨g, cap, cur, rfl, -⟩
  · exact ⟨none, 0, rfl⟩
  · exact ⟨_, cap, rfl⟩
section
variable {P : Program}
/-- bytes appended to bytes of one's own -/
theorem run_append_any {base : Nat} {w : World} (t ty : TypeId) (i : TypeInfo)
    (ht : P.underlying t = some (.slice 5)) (hi : P.info? 5 = some i) (hz : i.zero = some (.int .u8 0)) (hsz : i.size = 1) (hby : i.bytes = 1)
    {v vx : Value} {n : Nat} {ys : List UInt8} (hown : AnyB base n v w) (hsrc : Src w noH ByteR 1 vx ys) (hb : base ≤ w.heap.size) (hcnt : n + ys.length ≤ 1000000000) :
    ∃ v' w', (Builtin.append_ #[t, t] ty #[v, vx]).run P w = .ok v' w' ∧ AnyB base (n + ys.length) v' w' ∧ Lb base w w' := by
  obtain ⟨xs, hxl, hown2⟩ := hown.own
  subst hxl
  clear hown
  have hown := hown2
  clear hown2
  obtain ⟨v', w', hr, ho, hg, hk⟩ := run_append_S (P := P) (w := w) (H := noH) (base := base) (E := ByteR) (sz := 1) t ty 5 i (.int .u8 0) 1 ht hi hz hsz hby rfl hown hsrc (noH_le _) hb one_ByteR (by omega) (by omega)
  refine ⟨v', w', hr, by simpa using AnyB.ofOwn ho, ⟨hg.os, hg.tape, hg.output, hg.size, fun k hkw => ?_⟩⟩
  rcases hown with ⟨rfl, rfl⟩ | ⟨g, cap, cur, rfl, h1, h2, h3, h4, h5, h6, h7⟩
  · exact .inl (hg.block k hkw (by simp [Value.ownBlock]))
  · by_cases hkg : k = g
    · subst hkg
      obtain ⟨a, cap', rfl, hcap', hsrc⟩ := hsrc
      by_cases hy : ys = []
      · subst hy
        have hr2 := run_append_zero (P := P) (w := w) t ty 5 i ht hi (some ⟨k, 0, none⟩) xs.length cap h4 a cap'
        have hr3 := hr.symm.trans hr2
        cases hr3
        exact .inl rfl
      · rcases hsrc with h | ⟨ad, news, rfl, hnews, hcell⟩
        · exact absurd h hy
        have hlen := hnews.length
        have hpos : 0 < ys.length := List.length_pos_iff.2 hy
        by_cases hroom : xs.length + ys.length ≤ cap
        · have hfit : xs.length * i.size + news.length ≤ cur.size := by rw [hlen, h6, hsz]; omega
          rw [run_append_room (P := P) w t ty 5 i ht hi k xs.length cap cur h3 ad ys.length cap' news (by rw [hsz]; exact hlen) hcell (hnews.one one_ByteR) hroom hfit] at hr
          cases hr
          refine .inr ⟨h1, cur, _, h3, setRow_heap w k cur _ _ _ h3, ?_, fun j hj => ?_⟩
          · simp only [List.size_toArray, List.length_append, List.length_take, List.length_drop, Array.length_toList]
            omega
          · rw [cells_byteV] at hnews
            have hnl : news.length = ys.length := by omega
            have hjs : j < cur.size := by
              obtain ⟨x, hx⟩ := hj
              exact (Array.getElem?_eq_some_iff.1 hx).1
            simp only [List.getElem?_toArray, hsz, Nat.mul_one]
            by_cases q1 : j < xs.length
            · rw [List.append_assoc, List.getElem?_append_left (by simp; omega), List.getElem?_take, if_pos q1]
              simpa using hj
            · by_cases q2 : j < xs.length + ys.length
              · rw [List.getElem?_append_left (by simp; omega), List.getElem?_append_right (by simp; omega), hnews]
                refine ⟨ys[j - xs.length], ?_⟩
                have e : j - (cur.toList.take xs.length).length = j - xs.length := by simp; omega
                rw [e]
                simp [show j - xs.length < ys.length by omega]
              · rw [List.getElem?_append_right (by simp; omega), List.getElem?_drop]
                have e : xs.length + news.length + (j - (cur.toList.take xs.length ++ news).length) = j := by simp; omega
                rw [e]
                simpa using hj
        · have holds : ∀ j u, (cur.toList.take (xs.length * i.size))[j]? = some u → w.cell? ((⟨k, 0, none⟩ : Addr).add j) = some u := by
            intro j u hu
            rw [add0, cell_of_row w k j cur 5 (0, 0) h3]
            rw [List.getElem?_take] at hu
            split at hu
            · simpa using hu
            · cases hu
          rw [run_append_grow (P := P) w t ty 5 i (.int .u8 0) ht hi hz ⟨k, 0, none⟩ xs.length cap _ (by rw [hsz]; exact h7.length) holds ad ys.length cap' news (by rw [hsz]; exact hlen) hcell (by omega) (by omega) (growslice_fits (by omega) (by rw [hby]; omega))] at hr
          cases hr
          exact .inl (Below.heap_alloc w.drew _ k hkw)
    · exact .inl (hg.block k hkw (by simp [Value.ownBlock]; exact hkg))
end
/-- a byte of one's own is written -/
theorem AnyB.set {base n c : Nat} {a : Option Addr} {w : World} (h : AnyB base n (.slice a n c) w) (k : Nat) (hk : k < n) (x : UInt8) : ∃ g, a = some ⟨g, 0, none⟩ ∧ base ≤ g ∧ g < w.heap.size ∧ (∃ u, w.cell? ⟨g, k, none⟩ = some u) ∧ w.frozen? ⟨g, k, none⟩ = false ∧ AnyB base n (.slice a n c) (w.setCell ⟨g, k, none⟩ (byteV x)) := by
  rcases h with ⟨h1, rfl⟩ | ⟨g, cap, cur, h1, h2, h3, h4, h5, h6, h7⟩
  · omega
  · cases h1
    have hO : Own w g cur 5 := h3
    obtain ⟨y, hy⟩ := h7 k hk
    refine ⟨g, rfl, h2, hO.lt, ⟨byteV y, by rw [hO.facts.1]; exact hy⟩, hO.facts.2 k, .inr ⟨g, c, cur.setIfInBounds k (byteV x), rfl, h2, hO.set k _, h4, h5, by simpa using h6, fun j hj => ?_⟩⟩
    by_cases e : k = j
    · subst e
      exact ⟨x, by rw [Array.getElem?_setIfInBounds_self_of_lt (by omega)]⟩
    · rw [Array.getElem?_setIfInBounds_ne e]; exact h7 j hj
theorem loopB_some : ∀ (xs r : List UInt8), loopS byteS xs.length (some (xs ++ r)) = (xs, some r)
  | [], r => rfl
  | x :: xs, r => by
    have h := loopB_some xs r
    rw [List.length_cons, List.cons_append, loopS]
    simp only [byteS, h]
theorem listB_some (xs r : List UInt8) (hl : xs.length < 18446744073709551616) : listS byteS (some (uvar xs.length ++ (xs ++ r))) = (xs, some r) := by
  have hu : uintS (some (uvar xs.length ++ (xs ++ r))) = (xs.length, some (xs ++ r)) := uintS_some.2 ⟨rfl, hl⟩
  have hL : lenS (some (uvar xs.length ++ (xs ++ r))) = (xs.length, some (xs ++ r)) := by
    unfold lenS; rw [hu]; simp
  unfold listS
  rw [hL]
  simp only [loopB_some, Option.isSome_some, if_true]
theorem inc_ge {l : List Int} {m : Int} (h : Inc l m) : ∀ (k : Nat) (hk : k < l.length), (k : Int) ≤ l[k]
  | 0, hk => (h 0 hk).1
  | k + 1, hk => by
    have h1 := inc_ge h k (by omega)
    have h2 := (h (k + 1) hk).2.2 (by omega)
    simp only [Nat.add_sub_cancel] at h2
    omega
theorem inc_len {l : List Int} {m : Int} (h : Inc l m) (hm : 0 ≤ m) : (l.length : Int) ≤ m := by
  cases hl : l.length with
  | zero => omega
  | succ n =>
    have h1 := inc_ge h n (by omega)
    have h2 := (h n (by omega)).2.1
    omega
theorem fits_of (n : Nat) : ∀ t : Thing, t.ok → t.deep ≤ n → t.size ≤ 96 → t.formed → Fits n t := by
  induction n with
  | zero =>
    intro t _ h
    rw [Thing.deep_eq] at h; omega
  | succ n ih =>
    intro t hok hd hs hf
    rw [Thing.deep_eq] at hd
    rw [Thing.size_eq] at hs
    rw [Thing.ok_iff] at hok
    obtain ⟨c, v, p⟩ := t
    simp only [Thing.formed, formeds_iff] at hf
    simp only [Thing.cls, Thing.vals, Thing.parts] at *
    obtain ⟨f1, f2, f3, f4⟩ := hf
    have l1 := inc_len f2 (by omega)
    have l2 := inc_len f3 (by omega)
    rw [List.length_map] at l2
    have l3 := length_le_sumN Thing.size p fun x _ => by rw [Thing.size_eq]; omega
    refine ⟨hok.1, by simp only [Thing.cls]; omega, hok.2.1, by simp only [Thing.vals]; omega, by simp only [Thing.parts]; omega, fun q hq => ?_⟩
    have g1 := maxN_mem Thing.deep hq
    have g2 := sumN_mem Thing.size hq
    simp only [Thing.parts] at g1 g2
    exact ih q (hok.2.2.2.2 q hq) (by omega) (by omega) (f4 q hq)
theorem fits_of_valid {t : Thing} (hok : t.ok) (h : validV t = 0) : Fits 8 t := by
  unfold validV at h
  split at h
  · rename_i h1
    have hf : t.formed := by
      unfold ErrIf at h
      split at h
      · assumption
      · omega
    exact fits_of 8 t hok h1.2 h1.1 hf
  · omega
end Go.Proofs.Ytebhdjeognpljaa
