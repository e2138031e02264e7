/- Slices that a call owns: append onto them, read them, hand them back. -/
import Derived.Test.YtcbmgajaaechjaaGreatBase
namespace Go.Proofs.YtcbmgajaaechjaaGreat
open Go.RowKit
set_option linter.unusedSimpArgs false
set_option linter.unusedVariables false
/-- the cells, one after the other, of a list of elements -/
def Cells {α : Type} (h : PH) (E : PH → List Value → α → Prop) (sz : Nat) : List Value → List α → Prop
  | cells, [] => cells = []
  | cells, x :: xs => ∃ cs rest, cells = cs ++ rest ∧ cs.length = sz ∧ E h cs x ∧ Cells h E sz rest xs
section
variable {α : Type} {E : PH → List Value → α → Prop} {sz : Nat} {h h' : PH}
theorem Cells.length : ∀ {xs : List α} {cells : List Value}, Cells h E sz cells xs → cells.length = xs.length * sz
  | [], cells, hc => by obtain rfl : cells = [] := hc; simp
  | x :: xs, cells, hc => by
    obtain ⟨cs, rest, rfl, h1, -, h3⟩ := hc
    rw [List.length_append, h1, Cells.length h3, List.length_cons, Nat.add_mul]; omega
theorem Cells.append : ∀ {xs ys : List α} {c d : List Value}, Cells h E sz c xs → Cells h E sz d ys → Cells h E sz (c ++ d) (xs ++ ys)
  | [], ys, c, d, hc, hd => by obtain rfl : c = [] := hc; simpa using hd
  | x :: xs, ys, c, d, hc, hd => by
    obtain ⟨cs, rest, rfl, h1, h2, h3⟩ := hc
    exact ⟨cs, rest ++ d, by simp, h1, h2, h3.append hd⟩
theorem Cells.mono (hm : ∀ cs x, E h cs x → E h' cs x) : ∀ {xs : List α} {c : List Value}, Cells h E sz c xs → Cells h' E sz c xs
  | [], c, hc => hc
  | x :: xs, c, hc => by
    obtain ⟨cs, rest, rfl, h1, h2, h3⟩ := hc
    exact ⟨cs, rest, rfl, h1, hm _ _ h2, h3.mono hm⟩
theorem Cells.one (ho : ∀ cs x, E h cs x → ∀ u ∈ cs, u.oneCell' = true) : ∀ {xs : List α} {c : List Value}, Cells h E sz c xs → ∀ u ∈ c, u.oneCell' = true
  | [], c, hc => by obtain rfl : c = [] := hc; simp
  | x :: xs, c, hc => by
    obtain ⟨cs, rest, rfl, h1, h2, h3⟩ := hc
    intro u hu
    rcases List.mem_append.1 hu with hu | hu
    · exact ho _ _ h2 u hu
    · exact h3.one ho u hu
theorem Cells.row {b : Nat} (hm : ∀ cs x, E h cs x → E h' cs x) : ∀ {xs : List α} {c : List Value} {o : Nat}, Cells h E sz c xs → (∀ j u, c[j]? = some u → cellAt h' b (o + j) = some u) → RowRep h' E sz b o xs
  | [], c, o, hc, hr => trivial
  | x :: xs, c, o, hc, hr => by
    obtain ⟨cs, rest, rfl, h1, h2, h3⟩ := hc
    refine ⟨⟨cs, h1, fun j hj => ?_, hm _ _ h2⟩, h3.row hm fun j u hu => ?_⟩
    · have : cs[j]? = some (cs.getD j undef) := by simp [List.getD_eq_getElem?_getD, List.getElem?_eq_getElem (h1 ▸ hj)]
      exact hr j _ (by rw [List.getElem?_append_left (h1 ▸ hj)]; exact this)
    · rw [Nat.add_assoc]; exact hr (sz + j) u (by rw [List.getElem?_append_right (by omega), h1]; simpa using hu)
theorem Cells.ofRow {b : Nat} : ∀ {xs : List α} {o : Nat}, RowRep h E sz b o xs → ∃ c, Cells h E sz c xs ∧ ∀ j u, c[j]? = some u → cellAt h b (o + j) = some u
  | [], o, hr => ⟨[], rfl, by simp⟩
  | x :: xs, o, hr => by
    obtain ⟨⟨cs, h1, h2, h3⟩, h4⟩ := hr
    obtain ⟨rest, h5, h6⟩ := Cells.ofRow h4
    refine ⟨cs ++ rest, ⟨cs, rest, rfl, h1, h3, h5⟩, fun j u hu => ?_⟩
    by_cases hj : j < cs.length
    · rw [List.getElem?_append_left hj] at hu
      rw [h2 j (by omega)]
      simp [List.getD_eq_getElem?_getD, hu]
    · rw [List.getElem?_append_right (by omega)] at hu
      have := h6 _ _ hu
      rw [← this]; congr 1; omega
end
/-- what immutable memory is known behind a call: what was known before, and all that the call has made -/
def up (H : PH) (w w' : World) : PH := fun k => if k < w.heap.size then H k else ph w' k
theorem up_ple {H : PH} {w w' : World} (h : PLe H (ph w)) (e : Ext w w') : PLe (up H w w') (ph w') := by
  intro k o hk
  unfold up at hk
  split at hk
  · exact e.ple k o (h k o hk)
  · exact hk
theorem ple_up {H : PH} {w w' : World} (h : PLe H (ph w)) : PLe H (up H w w') := by
  intro k o hk
  unfold up
  rw [if_pos (ph_lt (h k o hk))]; exact hk
theorem up_none {H : PH} {w w' : World} {g : Nat} (h : H g = none) (hg : g < w.heap.size) : up H w w' g = none := by
  unfold up; rw [if_pos hg]; exact h
theorem up_mono {H H' : PH} {w w' : World} (h : PLe H H') : PLe (up H w w') (up H' w w') := by
  intro k o hk
  unfold up at *
  split at hk
  · rename_i hl; rw [if_pos hl]; exact h k o hk
  · rename_i hl; rw [if_neg hl]; exact hk
theorem up_then {H : PH} {w w1 w2 : World} (h : Ext w w1) (e : Ext w1 w2) : PLe (up H w w1) (up H w w2) := by
  intro k o hk
  unfold up at *
  split at hk
  · rename_i hl; rw [if_pos hl]; exact hk
  · rename_i hl; rw [if_neg hl]; exact e.ple k o hk
theorem up_up {H : PH} {w w1 w2 : World} (h : Ext w w1) (e : Ext w1 w2) : PLe (up (up H w w1) w1 w2) (up H w w2) := by
  intro k o hk
  unfold up at *
  by_cases h1 : k < w1.heap.size
  · rw [if_pos h1] at hk
    by_cases h2 : k < w.heap.size
    · rw [if_pos h2] at hk ⊢; exact hk
    · rw [if_neg h2] at hk ⊢; exact e.ple k o hk
  · rw [if_neg h1] at hk
    rw [if_neg (by have := h.size; omega)]; exact hk
/-- v is a slice with the elements xs, whole in a block of its own (from base on), which is not in H -/
def OwnS {α : Type} (base : Nat) (H : PH) (w : World) (E : PH → List Value → α → Prop) (sz : Nat) (T : TypeId) (v : Value) (xs : List α) : Prop :=
  (v = .slice none 0 0 ∧ xs = []) ∨
  ∃ g cap cur, v = .slice (some ⟨g, 0, none⟩) xs.length cap ∧ base ≤ g ∧ H g = none ∧ w.heap[g]? = some (.cells cur T (0, 0)) ∧ xs.length ≤ cap ∧ cap ≤ maxLen ∧ cur.size = cap * sz ∧
    Cells H E sz (cur.toList.take (xs.length * sz)) xs
/-- vx is a slice with the elements ys, wherever its row lies -/
def Src {α : Type} (w : World) (H : PH) (E : PH → List Value → α → Prop) (sz : Nat) (vx : Value) (ys : List α) : Prop :=
  ∃ a cap, vx = .slice a ys.length cap ∧ ys.length ≤ cap ∧ (ys = [] ∨ ∃ ad c, a = some ad ∧ Cells H E sz c ys ∧ ∀ j u, c[j]? = some u → w.cell? (ad.add j) = some u)
section
variable {α : Type} {E : PH → List Value → α → Prop} {sz : Nat} {H : PH} {w w' : World} {base : Nat} {T : TypeId} {v : Value} {xs ys : List α}
theorem add0 (g j : Nat) : (⟨g, 0, none⟩ : Addr).add j = ⟨g, j, none⟩ := by unfold Addr.add; split <;> simp_all
theorem addo (b o j : Nat) : (⟨b, o, none⟩ : Addr).add j = ⟨b, o + j, none⟩ := by unfold Addr.add; split <;> simp_all
theorem OwnS.nil (base : Nat) (H : PH) (w : World) (E : PH → List Value → α → Prop) (sz : Nat) (T : TypeId) : OwnS base H w E sz T (.slice none 0 0) [] := .inl ⟨rfl, rfl⟩
theorem OwnS.lt (h : OwnS base H w E sz T v xs) : ∀ k, v.ownBlock = some k → base ≤ k ∧ k < w.heap.size ∧ H k = none := by
  intro k hk
  rcases h with ⟨rfl, _⟩ | ⟨g, cap, cur, rfl, hb, hn, hg, _⟩
  · simp [Value.ownBlock] at hk
  · simp [Value.ownBlock] at hk; subst hk
    exact ⟨hb, (Array.getElem?_eq_some_iff.1 hg).1, hn⟩
/-- it stays while its block does and immutable memory grows -/
theorem OwnS.keepB {H' : PH} (h : OwnS base H w E sz T v xs) (hb : ∀ k, v.ownBlock = some k → w'.heap[k]? = w.heap[k]?) (hn : ∀ k, v.ownBlock = some k → H' k = none) (hm : ∀ cs x, E H cs x → E H' cs x) : OwnS base H' w' E sz T v xs := by
  rcases h with h | ⟨g, cap, cur, rfl, h1, h2, h3, h4, h5, h6, h7⟩
  · exact .inl h
  · exact .inr ⟨g, cap, cur, rfl, h1, hn g rfl, by rw [hb g rfl]; exact h3, h4, h5, h6, h7.mono hm⟩
theorem OwnS.keep (h : OwnS base H w E sz T v xs) (e : Ext w w') : OwnS base H w' E sz T v xs :=
  h.keepB (fun k hk => e.block k (h.lt k hk).2.1) (fun k hk => (h.lt k hk).2.2) fun _ _ h => h
theorem OwnS.keepUp (h : OwnS base H w E sz T v xs) (hm : Mono E) (hl : PLe H (ph w)) (e : Ext w w') : OwnS base (up H w w') w' E sz T v xs :=
  h.keepB (fun k hk => e.block k (h.lt k hk).2.1) (fun k hk => up_none (h.lt k hk).2.2 (h.lt k hk).2.1) fun _ _ => hm _ _ _ _ (ple_up hl)
theorem OwnS.form (h : OwnS base H w E sz T v xs) : ∃ a cap, v = .slice a xs.length cap ∧ xs.length ≤ 9223372036854775807 := by
  rcases h with ⟨rfl, rfl⟩ | ⟨g, cap, cur, rfl, h1, h2, h3, h4, h5, h6, h7⟩
  · exact ⟨none, 0, rfl, by simp⟩
  · exact ⟨_, cap, rfl, by unfold maxLen at h5; omega⟩
/-- read as any slice -/
theorem OwnS.rep (h : OwnS base H w E sz T v xs) (hm : Mono E) (hl : PLe H (ph w)) : SliceRep E sz (ph w) v xs := by
  rcases h with ⟨rfl, rfl⟩ | ⟨g, cap, cur, rfl, h1, h2, h3, h4, h5, h6, h7⟩
  · exact SliceRep.nil E sz _
  · refine ⟨_, cap, rfl, h4, h5, .inr ⟨g, 0, rfl, h7.row (fun _ _ => hm _ _ _ _ hl) fun j u hu => ?_⟩⟩
    simp only [cellAt, ph, h3, Nat.zero_add]
    rw [List.getElem?_take] at hu
    split at hu
    · simpa using hu
    · cases hu
/-- handed back: its block becomes immutable -/
theorem OwnS.repUp {w0 : World} (h : OwnS base H w E sz T v xs) (hm : Mono E) (hb : w0.heap.size ≤ base) (hl : PLe H (up H w0 w)) : SliceRep E sz (up H w0 w) v xs := by
  rcases h with ⟨rfl, rfl⟩ | ⟨g, cap, cur, rfl, h1, h2, h3, h4, h5, h6, h7⟩
  · exact SliceRep.nil E sz _
  · refine ⟨_, cap, rfl, h4, h5, .inr ⟨g, 0, rfl, h7.row (fun _ _ => hm _ _ _ _ hl) fun j u hu => ?_⟩⟩
    have : up H w0 w g = some (.cells cur T (0, 0)) := by unfold up; rw [if_neg (by omega)]; exact h3
    simp only [cellAt, this, Nat.zero_add]
    rw [List.getElem?_take] at hu
    split at hu
    · simpa using hu
    · cases hu
theorem Src.ofRep (h : SliceRep E sz H v xs) (hl : PLe H (ph w)) : Src w H E sz v xs := by
  obtain ⟨a, cap, rfl, h1, h2, h3⟩ := h
  refine ⟨a, cap, rfl, h1, ?_⟩
  rcases h3 with h3 | ⟨b, o, rfl, h4⟩
  · exact .inl h3
  · obtain ⟨c, h5, h6⟩ := Cells.ofRow h4
    refine .inr ⟨_, c, rfl, h5, fun j u hu => ?_⟩
    rw [addo, cell_ph]
    exact cellAt_mono hl (h6 j u hu)
theorem Src.ofOwn (h : OwnS base H w E sz T v xs) : Src w H E sz v xs := by
  rcases h with ⟨rfl, rfl⟩ | ⟨g, cap, cur, rfl, h1, h2, h3, h4, h5, h6, h7⟩
  · exact ⟨none, 0, rfl, by simp, .inl rfl⟩
  · refine ⟨_, cap, rfl, h4, .inr ⟨_, _, rfl, h7, fun j u hu => ?_⟩⟩
    rw [add0, cell_of_row w g j cur T (0, 0) h3]
    rw [List.getElem?_take] at hu
    split at hu
    · simpa using hu
    · cases hu
/-- one element, laid in a block of its own -/
theorem Src.lit1 {x : α} {cs : List Value} {b : Nat} (hE : E H cs x) (hs : cs.length = sz) (hc : ∀ j, w.cell? ⟨b, j, none⟩ = cs[j]?) : Src w H E sz (.slice (some ⟨b, 0, none⟩) 1 1) [x] :=
  ⟨_, 1, rfl, Nat.le_refl _, .inr ⟨_, cs, rfl, ⟨cs, [], by simp, hs, hE, rfl⟩, fun j u hu => by rw [add0, hc]; exact hu⟩⟩
end
section
variable {P : Program} {w : World}
theorem run_append_zero (t ty e : TypeId) (i : TypeInfo) (ht : P.underlying t = some (.slice e)) (hi : P.info? e = some i) (b : Option Addr) (n cap : Nat) (hn : n ≤ cap) (a : Option Addr) (c : Nat) :
    (Builtin.append_ #[t, t] ty #[.slice b n cap, .slice a 0 c]).run P w = .ok (.slice b n cap) w := by
  cases a <;> cases b <;> simp [Builtin.append_, run_underlying ht, sizeOf, typeInfo, hi, Builtin.lenOf, Builtin.firstCells, loadCells, loadCellsFrom, hn, storeCells]
theorem run_append_S {α : Type} {E : PH → List Value → α → Prop} {sz : Nat} {H : PH} {base : Nat} (t ty e : TypeId) (i : TypeInfo) (z : Value) (bytes : Nat)
    (ht : P.underlying t = some (.slice e)) (hi : P.info? e = some i) (hz : i.zero = some z) (hsz : i.size = sz) (hby : i.bytes = bytes) (hzs : z.cells.size = sz)
    {v vx : Value} {xs ys : List α} (hown : OwnS base H w E sz e v xs) (hsrc : Src w H E sz vx ys) (hl : PLe H (ph w)) (hb : base ≤ w.heap.size)
    (hone : ∀ cs x, E H cs x → ∀ u ∈ cs, u.oneCell' = true) (hbytes : (xs.length + ys.length) * bytes ≤ 140737488355328) (hcnt : xs.length + ys.length ≤ 140737488355328) :
    ∃ v' w', (Builtin.append_ #[t, t] ty #[v, vx]).run P w = .ok v' w' ∧ OwnS base H w' E sz e v' (xs ++ ys) ∧ w.grownBy w' v.ownBlock ∧
      (∀ k, v'.ownBlock = some k → v.ownBlock = some k ∨ w.heap.size ≤ k) := by
  subst hsz; subst hby
  obtain ⟨a, cap', rfl, hcap', hsrc⟩ := hsrc
  by_cases hy : ys = []
  · subst hy
    have hrun : (Builtin.append_ #[t, t] ty #[v, .slice a ([] : List α).length cap']).run P w = .ok v w := by
      rcases hown with ⟨rfl, rfl⟩ | ⟨g, cap, cur, rfl, h1, h2, h3, h4, h5, h6, h7⟩
      · exact run_append_zero t ty e i ht hi none 0 0 (Nat.le_refl _) a cap'
      · exact run_append_zero t ty e i ht hi _ _ cap h4 a cap'
    exact ⟨v, w, hrun, by simpa using hown, ⟨rfl, rfl, rfl, Nat.le_refl _, fun _ _ _ => rfl⟩, fun k hk => .inl hk⟩
  · rcases hsrc with h | ⟨ad, news, rfl, hnews, hcell⟩
    · exact absurd h hy
    have hlen := hnews.length
    have hpos : 0 < ys.length := List.length_pos_iff.2 hy
    have hfresh : H w.heap.size = none := by
      cases hx : H w.heap.size with
      | none => rfl
      | some o => exact absurd (ph_lt (hl _ _ hx)) (by omega)
    have mk : ∀ (olds : List Value) (c : Nat), Cells H E i.size olds xs → xs.length + ys.length ≤ c → c ≤ maxLen → ∀ (row : Option Nat),
        OwnS base H (w.drew.alloc (.cells (olds.toArray ++ news.toArray ++ Builtin.zeroCells z.cells (c - (xs.length + ys.length))) e)) E i.size e (.slice (some ⟨w.heap.size, 0, none⟩) (xs.length + ys.length) c) (xs ++ ys) ∧
        w.grownBy (w.drew.alloc (.cells (olds.toArray ++ news.toArray ++ Builtin.zeroCells z.cells (c - (xs.length + ys.length))) e)) row := by
      intro olds c hold hc1 hc2 row
      have hol := hold.length
      refine ⟨.inr ⟨w.heap.size, c, _, by simp, hb, hfresh, heap_alloc_new w.drew _, by simpa using hc1, hc2, ?_, ?_⟩, ⟨rfl, rfl, rfl, by simp, fun k hk _ => Below.heap_alloc w.drew _ k hk⟩⟩
      · simp only [Array.size_append, List.size_toArray, size_zeroCells, hzs, hol, hlen, ← Nat.add_mul]
        congr 1; omega
      · have : (olds.toArray ++ news.toArray ++ Builtin.zeroCells z.cells (c - (xs.length + ys.length))).toList.take ((xs ++ ys).length * i.size) = olds ++ news := by
          simp only [Array.toList_append, List.append_assoc]
          rw [← List.append_assoc, List.length_append, Nat.add_mul, ← hol, ← hlen, ← List.length_append]
          exact List.take_left
        rw [this]
        exact hold.append hnews
    rcases hown with ⟨rfl, rfl⟩ | ⟨g, cap, cur, rfl, h1, h2, h3, h4, h5, h6, h7⟩
    · have hr := run_append_nil (P := P) w t ty e i z ht hi hz ad ys.length cap' news hlen hcell hpos (by omega) (by simp only [List.length_nil, Nat.zero_add] at hbytes; omega)
      have hm := mk [] (grownCap w ys.length 0 e) rfl (by simpa using grownCap_ge w ys.length 0 e) (grownCap_le_maxLen w ys.length 0 e (by simp only [maxLen, List.length_nil] at hcnt ⊢; omega)) (Value.ownBlock (.slice none 0 0))
      simp only [List.length_nil, Nat.zero_add, List.nil_append] at hm
      refine ⟨_, _, hr, ?_, ?_, fun k hk => .inr (by simp [Value.ownBlock] at hk; omega)⟩
      · simpa using hm.1
      · simpa using hm.2
    · by_cases hroom : xs.length + ys.length ≤ cap
      · have hfit : xs.length * i.size + news.length ≤ cur.size := by rw [hlen, h6, ← Nat.add_mul]; exact Nat.mul_le_mul_right _ hroom
        have hr := run_append_room (P := P) w t ty e i ht hi g xs.length cap cur h3 ad ys.length cap' news hlen hcell (hnews.one hone) hroom hfit
        refine ⟨_, _, hr, .inr ⟨g, cap, _, by simp, h1, h2, setRow_heap w g cur _ e _ h3, by simpa using hroom, h5, ?_, ?_⟩, ⟨rfl, rfl, rfl, by simp, fun k _ hk => setRow_other w g k _ (fun e => hk (by simp [Value.ownBlock, e]))⟩, fun k hk => .inl hk⟩
        · simp only [List.size_toArray, List.length_append, List.length_take, List.length_drop, Array.length_toList]
          omega
        · have hl7 := h7.length
          have : ((cur.toList.take (xs.length * i.size) ++ news ++ cur.toList.drop (xs.length * i.size + news.length)).toArray).toList.take ((xs ++ ys).length * i.size) = cur.toList.take (xs.length * i.size) ++ news := by
            simp only []
            rw [List.length_append, Nat.add_mul, ← hl7, ← hlen, ← List.length_append]
            rw [hl7]
            exact List.take_left' (by first | (simp only [List.length_append, List.length_take]; done) | (simp only [List.length_append, List.length_take]; omega))
          rw [this]
          exact h7.append hnews
      · have holds : ∀ j u, (cur.toList.take (xs.length * i.size))[j]? = some u → w.cell? ((⟨g, 0, none⟩ : Addr).add j) = some u := by
          intro j u hu
          rw [add0, cell_of_row w g j cur e (0, 0) h3]
          rw [List.getElem?_take] at hu
          split at hu
          · simpa using hu
          · cases hu
        have hr := run_append_grow (P := P) w t ty e i z ht hi hz ⟨g, 0, none⟩ xs.length cap _ h7.length holds ad ys.length cap' news hlen hcell (by omega) (by omega) (growslice_fits (by omega) hbytes)
        have hm := mk _ (grownCap w (xs.length + ys.length) cap e) h7 (grownCap_ge _ _ _ _) (grownCap_le_maxLen _ _ _ _ (by simp only [maxLen]; omega)) (Value.ownBlock (.slice (some ⟨g, 0, none⟩) xs.length cap))
        exact ⟨_, _, hr, hm.1, hm.2, fun k hk => .inr (by simp [Value.ownBlock] at hk; omega)⟩
/-- the walk's arm at an append: the source owned or not -/
theorem wpList_append_S {α : Type} {E : PH → List Value → α → Prop} {sz : Nat} {H : PH} {base : Nat} {ops : Array Oper} {rest : List Oper} {o : Oper} {a : Act} {Q : Exit → Act → World → Prop} (hgd : o.guard = none) (s x : Operand) (t e : TypeId)
    (ho : o.op = .call { callee := .builtin .append, args := #[s, x], argTypes := #[t, t] }) (z : Value) (bytes : Nat)
    (ht : P.underlying t = some (.slice e)) (hinfo : (P.info? e).map (fun i => (i.zero, i.size, i.bytes)) = some (some z, sz, bytes)) (hzs : z.cells.size = sz)
    {v vx : Value} {xs ys : List α} (hs : a.eval s = v) (hx : a.eval x = vx) (hown : OwnS base H w E sz e v xs) (hsrc : Src w H E sz vx ys) (hl : PLe H (ph w)) (hb : base ≤ w.heap.size)
    (hone : ∀ cs x, E H cs x → ∀ u ∈ cs, u.oneCell' = true) (hbytes : (xs.length + ys.length) * bytes ≤ 140737488355328) (hcnt : xs.length + ys.length ≤ 140737488355328)
    (h : ∀ v' w', OwnS base H w' E sz e v' (xs ++ ys) → w.grownBy w' v.ownBlock → (∀ k, v'.ownBlock = some k → v.ownBlock = some k ∨ w.heap.size ≤ k) → wpList P ops Q rest (a.put o.dst v') w') :
    wpList P ops Q (o :: rest) a w := by
  obtain ⟨i, hi, hz0, hz1, hz2⟩ := info_parts hinfo
  obtain ⟨v', w', hr, h2, h3, h4⟩ := run_append_S (P := P) (w := w) t o.type e i z bytes ht hi hz0 hz1 hz2 hzs hown hsrc hl hb hone hbytes hcnt
  refine wpList_plain hgd fun _ hK => ?_
  unfold Oper.wp execOp
  simp only [ho, resolve, invoke, builtin, Sem.run_bind, Sem.run_pure, Result.andThen_ok, List.map_toArray, List.map_cons, List.map_nil, hs, hx, hr]
  exact hK _ _ (h v' w' h2 h3 h4)
theorem Own.grown {w w' : World} {b : Nat} {c : Array Value} {T : TypeId} {row : Option Nat} (h : Own w b c T) (g : w.grownBy w' row) (hne : some b ≠ row) : Own w' b c T := by
  unfold Own; rw [g.block b h.lt hne]; exact h
theorem Ext.grown {w0 w w' : World} {row : Option Nat} (h : Ext w0 w) (g : w.grownBy w' row) (hr : ∀ k, row = some k → w0.heap.size ≤ k) : Ext w0 w' := Below.grown h g h.size hr
theorem ple_grown {H : PH} {w w' : World} {row : Option Nat} (h : PLe H (ph w)) (g : w.grownBy w' row) (hr : ∀ k, row = some k → H k = none) : PLe H (ph w') := by
  intro k o hk
  have hlt := ph_lt (h k o hk)
  show w'.heap[k]? = some o
  rw [g.block k hlt (by intro he; rw [hr k he.symm] at hk; cases hk)]
  exact h k o hk
end
theorem infoInt : (Tryz.prog.info? 3).map (fun i => (i.zero, i.size, i.bytes)) = some (some (.int .i64 0), 1, 8) := by kernel_rfl
theorem one_IntR {h : PH} : ∀ cs x, IntR h cs x → ∀ u ∈ cs, u.oneCell' = true := by
  rintro cs x ⟨rfl, -⟩ u hu
  obtain rfl := List.mem_singleton.1 hu
  rfl
abbrev noH : PH := fun _ => none
theorem noH_le (h : PH) : PLe noH h := fun _ _ hk => by cases hk
theorem OwnS.ofNew {α : Type} {E : PH → List Value → α → Prop} {sz : Nat} {base : Nat} {w : World} {T : TypeId} {g n : Nat} {xs : List α} {cur : Array Value} (hb : base ≤ g) (hg : w.heap[g]? = some (.cells cur T (0, 0))) (hn : n = xs.length) (hm : n ≤ maxLen) (hs : cur.size = n * sz) (hc : Cells noH E sz cur.toList xs) :
    OwnS base noH w E sz T (.slice (some ⟨g, 0, none⟩) n n) xs := by
  subst hn
  exact .inr ⟨g, _, cur, rfl, hb, rfl, hg, Nat.le_refl _, hm, hs, by rw [List.take_of_length_le (by simp [hs])]; exact hc⟩
abbrev OwnI (base : Nat) (w : World) : Value → List Int → Prop := OwnS base noH w IntR 1 3
end Go.Proofs.YtcbmgajaaechjaaGreat
