/- Mem across the steps of a range over a function; pairs. -/
import Derived.Test.YtcmdekhhclgdcaaDoorTSort
namespace Go.Proofs.YtcmdekhhclgdcaaDoor
open Go.RowKit Go.Shelf
set_option linter.unusedSimpArgs false
set_option linter.unusedVariables false
section
variable {w0 A B w w' : World} {H0 H : PH} {L : List Chunk}
/-- it stays while blocks that are not its own turn -/
theorem Mem.grownN {row : Option Nat} (h : Mem w0 H0 L H A) (hg : A.grownBy B row) (hw : ∀ r, row = some r → w0.heap.size ≤ r ∧ H r = none ∧ ∀ (i : Nat) (c : Chunk), L[i]? = some c → c.foot ≠ some r) : Mem w0 H0 L H B := by
  refine ⟨h.l0, h.le, fun k o hk => ?_, h.ex.grown hg fun k hk => (hw k hk).1, fun i c hi => c.loc (h.ok i c hi) fun k hk => hg.block k (h.lt hi hk) fun e => (hw k e.symm).2.2 i c hi hk, h.fr, h.ap⟩
  have h1 := h.ub k o hk
  unfold Proofs.YtcmdekhhclgdcaaDoor.up at *
  split
  · rename_i hlt; rw [if_pos hlt] at h1; exact h1
  · rename_i hlt; rw [if_neg hlt] at h1
    show B.heap[k]? = some o
    rw [hg.block k (ph_lt h1) fun e => by rw [(hw k e.symm).2.1] at hk; cases hk]
    exact h1
def Chunk.isC (c : Chunk) : Prop := ∀ H w k, c.ok H w → c.foot = some k → ∃ cs T, w.heap[k]? = some (.cells cs T (0, 0))
theorem isC_box (b : Nat) (c : Array Value) (T : TypeId) : (box b c T).isC := fun H w k h hk => by cases hk; exact ⟨_, _, h⟩
theorem isC_own {α : Type} {E : PH → List Value → α → Prop} (hm : Mono E) (sz : Nat) (T : TypeId) (v : Value) (xs : List α) : (own hm sz T v xs).isC := fun H w k h hk => by
  have h : OwnC H w E sz T v xs := h
  rcases h with ⟨rfl, rfl⟩ | ⟨g, cap, cur, rfl, h1, -⟩
  · cases hk
  · cases hk; exact ⟨_, _, h1⟩
theorem isC_nop : nop.isC := fun H w k h hk => by cases hk
/-- what the law of a range over a function asks of an invariant -/
theorem Mem.ownFrom {row : Option Nat} {n : Nat} (hL : ∀ c ∈ L, c.isC) (h : Mem w0 H0 L noH A) (hn : w0.heap.size ≤ n) (hg : A.grownBy B row) (hr : ∀ r, row = some r → n ≤ r ∧ ∃ o : Obj, A.heap[r]? = some o ∧ o.isCells = false) : Mem w0 H0 L noH B :=
  h.grownN hg fun r e => by
    obtain ⟨h1, o, h2, h3⟩ := hr r e
    refine ⟨Nat.le_trans hn h1, rfl, fun i c hi hf => ?_⟩
    obtain ⟨cs, T, h4⟩ := hL c (List.mem_of_getElem? hi) _ _ _ (h.ok i c hi) hf
    rw [h4] at h2; cases h2; cases h3
theorem Mem.allocN (h : Mem w0 H0 L noH A) (o : Obj) : Mem w0 H0 L noH (A.alloc o) := h.grownN (World.grownBy_alloc A o none) fun r e => by cases e
/-- a block that is no cells, held -/
def raw (b : Nat) (o : Obj) : Chunk where
  foot := some b
  ok := fun _ w => w.heap[b]? = some o
  lt := fun h e => by cases e; exact (Array.getElem?_eq_some_iff.1 h).1
  loc := fun h e => by rw [e b rfl]; exact h
  mono := fun h _ => h
theorem Mem.addRaw {b : Nat} {o : Obj} (hL : ∀ c ∈ L, c.isC) (h : Mem w0 H0 L noH w) (hb : w0.heap.size ≤ b) (ho : w.heap[b]? = some o) (hc : o.isCells = false) : Mem w0 H0 (L ++ [raw b o]) noH w :=
  h.add _ ho fun k hk => by
    cases hk
    refine ⟨hb, rfl, fun i d hi hf => ?_⟩
    obtain ⟨cs, T, h4⟩ := hL d (List.mem_of_getElem? hi) _ _ _ (h.ok i d hi) hf
    rw [h4] at ho; cases ho; cases hc
section
variable {α : Type} {E : PH → List Value → α → Prop} {hm : Mono E} {sz : Nat} {T : TypeId} {v : Value} {xs ys : List α}
/-- the walk's arm at an append; what the memory turned into is told, too -/
theorem wpList_append_MG {P : Program} {ops : Array Oper} {rest : List Oper} {o : Oper} {a : Act} {Q : Exit → Act → World → Prop} (i : Nat) (hgd : o.guard = none) (s x : Operand) (t : TypeId)
    (ho : o.op = .call { callee := .builtin .append, args := #[s, x], argTypes := #[t, t] }) {z : Value} {bytes : Nat}
    (ht : P.underlying t = some (.slice T)) (hinfo : (P.info? T).map (fun i => (i.zero, i.size, i.bytes)) = some (some z, sz, bytes)) (hzs : z.cells.size = sz)
    {vx : Value} (hs : a.eval s = v) (hx : a.eval x = vx) (hS : Mem w0 H0 L H w) (hi : L[i]? = some (own hm sz T v xs)) (hsrc : Src w H E sz vx ys)
    (hone : ∀ cs x, E H cs x → ∀ u ∈ cs, u.oneCell' = true) (hbytes : (xs.length + ys.length) * bytes ≤ 140737488355328) (hcnt : xs.length + ys.length ≤ 140737488355328)
    (h : ∀ v' w', Mem w0 H0 (L.set i (own hm sz T v' (xs ++ ys))) H w' → w.grownBy w' v.ownBlock → wpList P ops Q rest (a.put o.dst v') w') :
    wpList P ops Q (o :: rest) a w := by
  refine wpList_append_S hgd s x t T ho z bytes ht hinfo hzs hs hx (hS.ownS i hi) hsrc hS.ple hS.ex.size hone hbytes hcnt fun v' w' h1 h2 h3 => h v' w' ?_ h2
  refine hS.put i hi (c' := own hm sz T v' (xs ++ ys)) h1.c h3 (hS.ex.grown h2 fun k hk => (hS.fr i _ hi k hk).1) fun k hk hne => h2.block k hk (fun e => hne e.symm)
/-- what kept the body's promise: an own slice grew -/
theorem Mem.keeps (h : Mem w0 H0 L H w) (i : Nat) (hi : L[i]? = some (own hm sz T v xs)) (hg : w.grownBy w' v.ownBlock) : KeepsOthers w w' ∧ Below w0.heap.size w w' := by
  constructor
  · refine KeepsOthers.of_grownBy hg fun j o ej hj => ?_
    obtain ⟨cs, T', h4⟩ := isC_own hm sz T v xs _ _ j (h.ok i _ hi) ej
    rw [h4] at hj; cases hj; rfl
  · exact (Below.refl w0.heap.size w).grown hg h.ex.size fun j ej => (h.fr i _ hi j ej).1
end
theorem Cells.setSnd {x : Iv} {y : Int} (hx : I64 x.1 ∧ I64 y) : ∀ {xs : List Iv} {c : List Value} (k : Nat), xs[k]? = some x → Cells H IvR 2 c xs → Cells H IvR 2 (c.set (k * 2 + 1) (.int .i64 y)) (xs.set k (x.1, y))
  | [], _, k, hk, _ => by simp at hk
  | z :: zs, c, 0, hk, hc => by
    obtain ⟨cs, rest, rfl, h1, h2, h3⟩ := hc
    obtain ⟨rfl, -⟩ := h2
    obtain rfl : z = x := by simpa using hk
    exact ⟨[.int .i64 z.1, .int .i64 y], rest, rfl, rfl, ⟨rfl, hx⟩, h3⟩
  | z :: zs, c, k + 1, hk, hc => by
    obtain ⟨cs, rest, rfl, h1, h2, h3⟩ := hc
    obtain ⟨rfl, -⟩ := id h2
    refine ⟨_, rest.set (k * 2 + 1) (.int .i64 y), ?_, rfl, h2, Cells.setSnd hx k (by simpa using hk) h3⟩
    rw [show (k + 1) * 2 + 1 = (k * 2 + 1) + 1 + 1 by omega]
    rfl
/-- the second half of pair k is written -/
theorem Mem.setSnd {v : Value} {xs : List Iv} {T : TypeId} {x : Iv} {y : Int} (h : Mem w0 H0 L H w) (i : Nat) (hi : L[i]? = some (own mono_IvR 2 T v xs)) (k : Nat) (hk : xs[k]? = some x) (hx : I64 x.1 ∧ I64 y) :
    ∃ g cap, v = .slice (some ⟨g, 0, none⟩) xs.length cap ∧ w.cell? ⟨g, k * 2, none⟩ = some (.int .i64 x.1) ∧ w.cell? ⟨g, k * 2 + 1, none⟩ = some (.int .i64 x.2) ∧ w.frozen? ⟨g, k * 2 + 1, none⟩ = false ∧ g < w.heap.size ∧
      Mem w0 H0 (L.set i (own mono_IvR 2 T v (xs.set k (x.1, y)))) H (w.setCell ⟨g, k * 2 + 1, none⟩ (.int .i64 y)) := by
  have h4 : OwnC H w IvR 2 T v xs := h.ok i _ hi
  obtain ⟨hkl, hkx⟩ := List.getElem?_eq_some_iff.1 hk
  rcases h4 with ⟨rfl, rfl⟩ | ⟨g, cap, cur, rfl, k1, k2, k3, k4, k5⟩
  · simp at hkl
  · have hgl := (Array.getElem?_eq_some_iff.1 k1).1
    obtain ⟨cs, q1, q2, q3⟩ := k5.get k hkl
    obtain ⟨rfl, -⟩ := q3
    rw [hkx] at q2
    have q4 := q2 0 (by omega)
    have q5 := q2 1 (by omega)
    rw [List.getElem?_take, if_pos (by omega)] at q4 q5
    have e : cur.size > k * 2 + 1 := by omega
    refine ⟨g, cap, rfl, ?_, ?_, by simp [World.frozen?, k1], hgl, ?_⟩
    · rw [show w.cell? ⟨g, k * 2, none⟩ = cur[k * 2]? by simp [World.cell?, k1]]; simpa using q4
    · rw [show w.cell? ⟨g, k * 2 + 1, none⟩ = cur[k * 2 + 1]? by simp [World.cell?, k1]]; simpa using q5
    · refine h.put i hi (c' := own mono_IvR 2 T _ (xs.set k (x.1, y))) (.inr ⟨g, cap, cur.setIfInBounds (k * 2 + 1) (.int .i64 y), by simp, ?_, by simpa using k2, k3, by simpa using k4, ?_⟩) (fun k hk => .inl hk) (h.ex.set' (h.fr i _ hi g rfl).1 _) fun j hj hne => ?_
      · exact Own.set (T := T) k1 _ _
      · have := Cells.setSnd (H := H) hx k hk k5
        rw [List.length_set, Array.toList_setIfInBounds, List.take_set]
        exact this
      · rw [Below.heap_setCell _ _ _ _ (fun e => hne (by rw [e]; rfl))]
end
end Go.Proofs.YtcmdekhhclgdcaaDoor
