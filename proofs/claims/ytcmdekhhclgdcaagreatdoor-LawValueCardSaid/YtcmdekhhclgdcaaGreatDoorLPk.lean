/- rows of rows: a cell of a row is written. -/
import Derived.Test.YtcmdekhhclgdcaaGreatDoorLRul
namespace Go.Proofs.YtcmdekhhclgdcaaGreatDoor
open Go.RowKit Go.Shelf
set_option linter.unusedSimpArgs false
set_option linter.unusedVariables false
def pokeO (j : Nat) (u : Value) : Obj → Obj
  | .cells c T f => .cells (c.setIfInBounds j u) T f
  | o => o
/-- a heap part with a cell of a block changed -/
def poke (H : PH) (g j : Nat) (u : Value) : PH := fun k => if k = g then (H g).map (pokeO j u) else H k
theorem cellAt_poke {H : PH} {g j b o : Nat} {u v : Value} (h : cellAt H b o = some v) : cellAt (poke H g j u) b o = some (if b = g ∧ o = j then u else v) := by
  unfold cellAt at h ⊢
  by_cases hb : b = g
  · subst hb
    unfold poke
    rw [if_pos rfl]
    cases hq : H b with
    | none => simp [hq] at h
    | some ob =>
      rw [hq] at h
      cases ob with
      | cells c T f =>
        simp only [Option.map_some, pokeO] at h ⊢
        rw [Array.getElem?_setIfInBounds]
        obtain ⟨hlt, he⟩ := Array.getElem?_eq_some_iff.1 h
        by_cases hj : j = o
        · subst hj; simp [hlt]
        · rw [if_neg hj, if_neg (fun e => hj e.2.symm)]; exact h
      | _ => simp at h
  · have : poke H g j u b = H b := if_neg hb
    rw [this, if_neg (fun e => hb e.1)]; exact h
theorem ints_poke {H : PH} {g j : Nat} {n : Int} (hn : I64 n) {v : Value} {l : List Int} (h : IntsR H v l) : ∃ l', l'.length = l.length ∧ IntsR (poke H g j (.int .i64 n)) v l' := by
  obtain ⟨a, cap, rfl, h2, h3, h4⟩ := h
  rcases h4 with rfl | ⟨b, o, rfl, h6⟩
  · exact ⟨[], rfl, a, cap, rfl, h2, h3, .inl rfl⟩
  · refine ⟨(List.range l.length).map (fun i => if b = g ∧ o + i = j then n else l.getD i 0), by simp, _, cap, by simp, by simpa using h2, h3, .inr ⟨b, o, rfl, RowRep.of fun i hi => ?_⟩⟩
    have hi' : i < l.length := by simpa using hi
    obtain ⟨cs, q1, q2, rfl, q4⟩ := h6.get i hi'
    have q5 := cellAt_poke (g := g) (j := j) (u := .int .i64 n) (q2 0 (by omega))
    rw [Nat.mul_one, Nat.add_zero] at q5
    refine ⟨[.int .i64 (if b = g ∧ o + i = j then n else l[i])], rfl, fun k hk => ?_, ?_, ?_⟩
    · have : k = 0 := by omega
      subst this
      rw [Nat.mul_one, Nat.add_zero, q5]
      split <;> rfl
    · have e : ((List.range l.length).map (fun i => if b = g ∧ o + i = j then n else l.getD i 0))[i] = if b = g ∧ o + i = j then n else l[i] := by
        rw [List.getElem_map, List.getElem_range, List.getD_eq_getElem?_getD, List.getElem?_eq_getElem hi', Option.getD_some]
      rw [e]
    · have e : ((List.range l.length).map (fun i => if b = g ∧ o + i = j then n else l.getD i 0))[i] = if b = g ∧ o + i = j then n else l[i] := by
        rw [List.getElem_map, List.getElem_range, List.getD_eq_getElem?_getD, List.getElem?_eq_getElem hi', Option.getD_some]
      rw [e]
      split
      · exact hn
      · exact q4
theorem dates_poke {H : PH} {g j : Nat} {n : Int} (hn : I64 n) {v : Value} {l : List Dat} (h : DatesR H v l) : ∃ l', l'.length = l.length ∧ DatesR (poke H g j (.int .i64 n)) v l' := by
  obtain ⟨a, cap, rfl, h2, h3, h4⟩ := h
  rcases h4 with rfl | ⟨b, o, rfl, h6⟩
  · exact ⟨[], rfl, a, cap, rfl, h2, h3, .inl rfl⟩
  · let f : Nat → Dat := fun i => ((if b = g ∧ o + i * 3 + 0 = j then n else (l.getD i (0, 0, 0)).1), (if b = g ∧ o + i * 3 + 1 = j then n else (l.getD i (0, 0, 0)).2.1), (if b = g ∧ o + i * 3 + 2 = j then n else (l.getD i (0, 0, 0)).2.2))
    refine ⟨(List.range l.length).map f, by simp, _, cap, by simp, by simpa using h2, h3, .inr ⟨b, o, rfl, RowRep.of fun i hi => ?_⟩⟩
    have hi' : i < l.length := by simpa using hi
    obtain ⟨cs, q1, q2, rfl, q4, q5, q6⟩ := h6.get i hi'
    have e : ((List.range l.length).map f)[i] = f i := by rw [List.getElem_map, List.getElem_range]
    have e2 : l.getD i (0, 0, 0) = l[i] := by rw [List.getD_eq_getElem?_getD, List.getElem?_eq_getElem hi', Option.getD_some]
    have p0 := cellAt_poke (g := g) (j := j) (u := .int .i64 n) (q2 0 (by omega))
    have p1 := cellAt_poke (g := g) (j := j) (u := .int .i64 n) (q2 1 (by omega))
    have p2 := cellAt_poke (g := g) (j := j) (u := .int .i64 n) (q2 2 (by omega))
    refine ⟨datC (f i), rfl, fun k hk => ?_, by rw [e], ?_⟩
    · match k, hk with
      | 0, _ => rw [p0]; show _ = some (Value.int .i64 (if b = g ∧ o + i * 3 + 0 = j then n else (l.getD i (0, 0, 0)).1)); rw [e2]; split <;> rfl
      | 1, _ => rw [p1]; show _ = some (Value.int .i64 (if b = g ∧ o + i * 3 + 1 = j then n else (l.getD i (0, 0, 0)).2.1)); rw [e2]; split <;> rfl
      | 2, _ => rw [p2]; show _ = some (Value.int .i64 (if b = g ∧ o + i * 3 + 2 = j then n else (l.getD i (0, 0, 0)).2.2)); rw [e2]; split <;> rfl
    · rw [e]
      refine ⟨?_, ?_, ?_⟩
      · show I64 (if b = g ∧ o + i * 3 + 0 = j then n else (l.getD i (0, 0, 0)).1)
        rw [e2]; split
        · exact hn
        · exact q4
      · show I64 (if b = g ∧ o + i * 3 + 1 = j then n else (l.getD i (0, 0, 0)).2.1)
        rw [e2]; split
        · exact hn
        · exact q5
      · show I64 (if b = g ∧ o + i * 3 + 2 = j then n else (l.getD i (0, 0, 0)).2.2)
        rw [e2]; split
        · exact hn
        · exact q6
theorem calE_poke {H : PH} {g j : Nat} {n : Int} (hn : I64 n) {cs : List Value} {c : Cal} (h : CalE H cs c) : ∃ c', CalE (poke H g j (.int .i64 n)) cs c' := by
  obtain ⟨p, m, q, p', m', q', rfl, a, b, e, h1, h2⟩ := h
  obtain ⟨l1, -, r1⟩ := ints_poke (g := g) (j := j) hn h1
  obtain ⟨l2, -, r2⟩ := dates_poke (g := g) (j := j) hn h2
  exact ⟨(l1, l2), p, m, q, p', m', q', rfl, a, b, e, r1, r2⟩
/-- a row of numbers that may be written -/
def LstW (H : PH) (cs : List Value) (l : List Int) : Prop := ∃ g q c T, cs = [.slice (some ⟨g, 0, none⟩) l.length q] ∧ IntsR H (.slice (some ⟨g, 0, none⟩) l.length q) l ∧ H g = some (.cells c T (0, 0))
theorem mono_LstW : Mono LstW := fun h h' cs x hl ⟨g, q, c, T, e, h1, h2⟩ => ⟨g, q, c, T, e, h1.mono mono_IntR hl, hl _ _ h2⟩
theorem one_LstW {h : PH} : ∀ cs x, LstW h cs x → ∀ u ∈ cs, u.oneCell' = true := by
  rintro cs x ⟨g, q, c, T, rfl, -⟩ u hu
  rw [List.mem_singleton.1 hu]; rfl
theorem LstW.lst {h : PH} {cs : List Value} {l : List Int} (hw : LstW h cs l) : LstE h cs l := by
  obtain ⟨g, q, c, T, e, h1, -⟩ := hw
  exact ⟨_, q, e, h1⟩
theorem lstW_poke {H : PH} {g j : Nat} {n : Int} (hn : I64 n) {cs : List Value} {l : List Int} (h : LstW H cs l) : ∃ l', l'.length = l.length ∧ LstW (poke H g j (.int .i64 n)) cs l' := by
  obtain ⟨g1, q, c, T, rfl, h1, h2⟩ := h
  obtain ⟨l1, e1, r1⟩ := ints_poke (g := g) (j := j) hn h1
  refine ⟨l1, e1, ?_⟩
  rw [← e1] at r1 ⊢
  by_cases hg : g1 = g
  · subst hg
    refine ⟨g1, q, c.setIfInBounds j (.int .i64 n), T, rfl, r1, ?_⟩
    unfold poke
    rw [if_pos rfl, h2]; rfl
  · refine ⟨g1, q, c, T, rfl, r1, ?_⟩
    unfold poke
    rw [if_neg hg]; exact h2
section
variable {α : Type} {E : PH → List Value → α → Prop} {sz : Nat} {H H' : PH} {P : α → Prop}
theorem Cells.poke (hE : ∀ cs x, P x → E H cs x → ∃ x', P x' ∧ E H' cs x') : ∀ {xs : List α} {c : List Value}, (∀ x ∈ xs, P x) → Cells H E sz c xs → ∃ xs', xs'.length = xs.length ∧ (∀ x ∈ xs', P x) ∧ Cells H' E sz c xs'
  | [], c, _, h => ⟨[], rfl, by simp, h⟩
  | x :: xs, c, hp, h => by
    obtain ⟨cs, rest, rfl, h1, h2, h3⟩ := h
    obtain ⟨x', p', e'⟩ := hE cs x (hp x List.mem_cons_self) h2
    obtain ⟨xs', l', ps', r'⟩ := Cells.poke hE (fun y hy => hp y (List.mem_cons_of_mem _ hy)) h3
    refine ⟨x' :: xs', by simp [l'], fun y hy => ?_, cs, rest, rfl, h1, e', r'⟩
    rcases List.mem_cons.1 hy with rfl | hy
    · exact p'
    · exact ps' y hy
theorem OwnC.poke {T : TypeId} {v : Value} {xs : List α} {w w' : World} (hE : ∀ cs x, P x → E H cs x → ∃ x', P x' ∧ E H' cs x') (hp : ∀ x ∈ xs, P x) (h : OwnC H w E sz T v xs) (hb : ∀ k, v.ownBlock = some k → w'.heap[k]? = w.heap[k]?) : ∃ xs', xs'.length = xs.length ∧ (∀ x ∈ xs', P x) ∧ OwnC H' w' E sz T v xs' := by
  rcases h with ⟨rfl, rfl⟩ | ⟨g, cap, cur, rfl, k1, k2, k3, k4, k5⟩
  · exact ⟨[], rfl, by simp, .inl ⟨rfl, rfl⟩⟩
  · obtain ⟨xs', l', ps', r'⟩ := Cells.poke hE hp k5
    refine ⟨xs', l', ps', .inr ⟨g, cap, cur, by rw [l'], by rw [hb g rfl]; exact k1, by rw [l']; exact k2, k3, k4, by rw [l']; exact r'⟩⟩
end
/-- what a callee made joins what is held -/
theorem memJoin {w0 w w' : World} {H0 H H' : PH} {L L' : List Chunk} (h : Mem w0 H0 L H w) (k : Mem w noH L' H' w') : Mem w0 H0 (L ++ L') (fun b => if b < w.heap.size then H b else H' b) w' := by
  have hle : PLe H fun b => if b < w.heap.size then H b else H' b := fun b o hb => by
    have : b < w.heap.size := ph_lt (h.ple b o hb)
    show (if b < w.heap.size then H b else H' b) = some o
    rw [if_pos this]; exact hb
  have hle' : PLe H' fun b => if b < w.heap.size then H b else H' b := fun b o hb => by
    have h1 := k.ub b o hb
    unfold up at h1
    split at h1
    · cases h1
    · rename_i hlt
      show (if b < w.heap.size then H b else H' b) = some o
      rw [if_neg hlt]; exact hb
  have get : ∀ {i d}, (L ++ L')[i]? = some d → (i < L.length ∧ L[i]? = some d) ∨ (L.length ≤ i ∧ L'[i - L.length]? = some d) := by
    intro i d hi
    by_cases hl : i < L.length
    · rw [List.getElem?_append_left hl] at hi; exact .inl ⟨hl, hi⟩
    · rw [List.getElem?_append_right (by omega)] at hi; exact .inr ⟨by omega, hi⟩
  have hf' : ∀ (i : Nat) (d : Chunk), L'[i]? = some d → ∀ b, d.foot = some b → w.heap.size ≤ b := fun i d hi b hb => (k.fr i d hi b hb).1
  refine ⟨h.l0, h.le.trans hle, fun b o hb => ?_, h.ex.then k.ex, fun i d hi => ?_, fun i d hi b hb => ?_, fun i j c d hij hi hj b hb => ?_⟩
  · have hs := h.ex.size
    split at hb
    · rename_i hlt
      have h1 := h.ub b o hb
      unfold up at h1 ⊢
      split
      · rename_i h2; rw [if_pos h2] at h1; exact h1
      · rename_i h2; rw [if_neg h2] at h1; exact k.ex.ple b o h1
    · rename_i hlt
      have h1 := k.ub b o hb
      unfold up at h1 ⊢
      rw [if_neg hlt] at h1
      rw [if_neg (by omega)]; exact h1
  · rcases get hi with ⟨-, hi⟩ | ⟨-, hi⟩
    · exact d.mono ((h.ext k.ex).ok i d hi) hle
    · exact d.mono (k.ok _ d hi) hle'
  · have hs := h.ex.size
    rcases get hi with ⟨-, hi⟩ | ⟨-, hi⟩
    · have h1 := h.fr i d hi b hb
      refine ⟨h1.1, ?_⟩
      show (if b < w.heap.size then H b else H' b) = none
      rw [if_pos (h.lt hi hb)]; exact h1.2
    · have h1 := k.fr _ d hi b hb
      refine ⟨by omega, ?_⟩
      show (if b < w.heap.size then H b else H' b) = none
      rw [if_neg (by omega)]; exact h1.2
  · rcases get hi with ⟨l1, hi⟩ | ⟨l1, hi⟩
    · rcases get hj with ⟨l2, hj⟩ | ⟨l2, hj⟩
      · exact h.ap i j c d hij hi hj b hb
      · intro hd
        have := h.lt hi hb; have := hf' _ d hj b hd; omega
    · rcases get hj with ⟨l2, hj⟩ | ⟨l2, hj⟩
      · intro hd
        have := h.lt hj hd; have := hf' _ c hi b hb; omega
      · exact k.ap _ _ c d (by omega) hi hj b hb
theorem SliceRep.weaken {α : Type} {E E' : PH → List Value → α → Prop} {sz : Nat} {h : PH} {v : Value} {xs : List α} (hE : ∀ cs x, E h cs x → E' h cs x) (hr : SliceRep E sz h v xs) : SliceRep E' sz h v xs := by
  obtain ⟨a, cap, h1, h2, h3, h4⟩ := hr
  refine ⟨a, cap, h1, h2, h3, ?_⟩
  rcases h4 with h4 | ⟨b, o, h5, h6⟩
  · exact .inl h4
  · refine .inr ⟨b, o, h5, RowRep.of fun i hi => ?_⟩
    obtain ⟨cs, q1, q2, q3⟩ := h6.get i hi
    exact ⟨cs, q1, q2, hE _ _ q3⟩
/-- a number is written into a row -/
theorem memPoke {w W : World} {H : PH} {b : Nat} {bc : Array Value} {BT T1 T2 : TypeId} {vc vb : Value} {cs : List Cal} {bs : List (List Int)} {b' : Nat} {bc' : Array Value} {BT' : TypeId} (h : Mem w noH [box b bc BT, own mono_CalE 2 T1 vc cs, own mono_LstW 1 T2 vb bs, box b' bc' BT'] H W)
    (hb : ∀ l ∈ bs, l.length = 19) {g j : Nat} {c : Array Value} {T : TypeId} (hg : H g = some (.cells c T (0, 0))) {n : Int} (hn : I64 n) :
    ∃ H' cs' bs', cs'.length = cs.length ∧ bs'.length = bs.length ∧ (∀ l ∈ bs', l.length = 19) ∧ Mem w noH [box b bc BT, own mono_CalE 2 T1 vc cs', own mono_LstW 1 T2 vb bs', box b' bc' BT'] H' (W.setCell ⟨g, j, none⟩ (.int .i64 n)) := by
  have hgw : W.heap[g]? = some (.cells c T (0, 0)) := h.ple g _ hg
  have hge : w.heap.size ≤ g := by
    have := h.ub g _ hg
    unfold Proofs.YtcmdekhhclgdcaaGreatDoor.up at this
    split at this
    · cases this
    · omega
  have hoth : ∀ k, k ≠ g → (W.setCell ⟨g, j, none⟩ (.int .i64 n)).heap[k]? = W.heap[k]? := fun k hk => Below.heap_setCell _ _ _ _ (fun e => hk e)
  have hthis : (W.setCell ⟨g, j, none⟩ (.int .i64 n)).heap[g]? = some (.cells (c.setIfInBounds j (.int .i64 n)) T (0, 0)) := Own.set (T := T) hgw _ _
  have hne : ∀ (i : Nat) (d : Chunk), ([box b bc BT, own mono_CalE 2 T1 vc cs, own mono_LstW 1 T2 vb bs, box b' bc' BT'] : List Chunk)[i]? = some d → ∀ k, d.foot = some k → k ≠ g := by
    intro i d hi k hk e
    have := (h.fr i d hi k hk).2
    rw [e, hg] at this; cases this
  obtain ⟨cs', l1, -, o1⟩ := OwnC.poke (P := fun _ => True) (H' := Proofs.YtcmdekhhclgdcaaGreatDoor.poke H g j (.int .i64 n)) (w' := W.setCell ⟨g, j, none⟩ (.int .i64 n)) (fun cs x _ he => by obtain ⟨x', hx'⟩ := calE_poke (g := g) (j := j) hn he; exact ⟨x', trivial, hx'⟩) (fun _ _ => trivial) (h.ok 1 _ rfl) (fun k hk => hoth k (hne 1 _ rfl k hk))
  obtain ⟨bs', l2, p2, o2⟩ := OwnC.poke (P := fun l : List Int => l.length = 19) (H' := Proofs.YtcmdekhhclgdcaaGreatDoor.poke H g j (.int .i64 n)) (w' := W.setCell ⟨g, j, none⟩ (.int .i64 n)) (fun cs x hp he => by obtain ⟨x', e', hx'⟩ := lstW_poke (g := g) (j := j) hn he; exact ⟨x', e'.trans hp, hx'⟩) hb (h.ok 2 _ rfl) (fun k hk => hoth k (hne 2 _ rfl k hk))
  have hf : ∀ (i : Nat) (d : Chunk), ([box b bc BT, own mono_CalE 2 T1 vc cs', own mono_LstW 1 T2 vb bs', box b' bc' BT'] : List Chunk)[i]? = some d → ∃ d0, ([box b bc BT, own mono_CalE 2 T1 vc cs, own mono_LstW 1 T2 vb bs, box b' bc' BT'] : List Chunk)[i]? = some d0 ∧ d0.foot = d.foot := by
    intro i d hi
    match i with
    | 0 => cases hi; exact ⟨_, rfl, rfl⟩
    | 1 => cases hi; exact ⟨_, rfl, rfl⟩
    | 2 => cases hi; exact ⟨_, rfl, rfl⟩
    | 3 => cases hi; exact ⟨_, rfl, rfl⟩
    | i + 4 => simp at hi
  refine ⟨Proofs.YtcmdekhhclgdcaaGreatDoor.poke H g j (.int .i64 n), cs', bs', l1, l2, p2, h.l0, noH_le _, fun k o hk => ?_, h.ex.set' hge _, fun i d hi => ?_, fun i d hi k hk => ?_, fun i j' c' d hij hi hj k hk => ?_⟩
  · unfold Proofs.YtcmdekhhclgdcaaGreatDoor.poke at hk
    by_cases hkg : k = g
    · subst hkg
      rw [if_pos rfl, hg] at hk
      unfold Proofs.YtcmdekhhclgdcaaGreatDoor.up
      rw [if_neg (by omega)]
      show (W.setCell ⟨k, j, none⟩ (.int .i64 n)).heap[k]? = some o
      rw [hthis]; exact hk
    · rw [if_neg hkg] at hk
      have h1 := h.ub k o hk
      unfold Proofs.YtcmdekhhclgdcaaGreatDoor.up at h1 ⊢
      split
      · rename_i hlt; rw [if_pos hlt] at h1; exact h1
      · rename_i hlt; rw [if_neg hlt] at h1
        show (W.setCell ⟨g, j, none⟩ (.int .i64 n)).heap[k]? = some o
        rw [hoth k hkg]; exact h1
  · match i with
    | 0 =>
      cases hi
      exact (show Proofs.YtcmdekhhclgdcaaGreatDoor.Own W b bc BT from h.ok 0 _ rfl).setOther (p := ⟨g, j, none⟩) (hne 0 _ rfl b rfl) _
    | 1 => cases hi; exact o1
    | 2 => cases hi; exact o2
    | 3 =>
      cases hi
      exact (show Proofs.YtcmdekhhclgdcaaGreatDoor.Own W b' bc' BT' from h.ok 3 _ rfl).setOther (p := ⟨g, j, none⟩) (hne 3 _ rfl b' rfl) _
    | i + 4 => simp at hi
  · obtain ⟨d0, e0, f0⟩ := hf i d hi
    rw [← f0] at hk
    have h1 := h.fr i d0 e0 k hk
    refine ⟨h1.1, ?_⟩
    unfold Proofs.YtcmdekhhclgdcaaGreatDoor.poke
    rw [if_neg (hne i d0 e0 k hk)]; exact h1.2
  · obtain ⟨d0, e0, f0⟩ := hf i c' hi
    obtain ⟨d1, e1, f1⟩ := hf j' d hj
    rw [← f0] at hk
    rw [← f1]
    exact h.ap i j' d0 d1 hij e0 e1 k hk
end Go.Proofs.YtcmdekhhclgdcaaGreatDoor
