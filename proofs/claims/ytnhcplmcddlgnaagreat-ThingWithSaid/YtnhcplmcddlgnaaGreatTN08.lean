/- rows of several cells: read out of the middle of a block, written whole, cleared.; the stable sort: rows of an own slice, and the steps of the walk.; slices.Compact at an own slice of values (turned out of FCc by hand).; the stable sort at elements of one cell: rows and steps of the walk.; slices.Compact at an own slice of numbers (turned out of CmV).; the normal form of a thing: sorted lists of which each stands once (plain).; slices.Clone at numbers and at values: a fresh slice (turned out of TxS). -/
import Derived.Laws.Rows
import Derived.Laws.CopyRow
import Derived.Lib.SliceRun
import Derived.Laws.StructEq
import Derived.Test.YtnhcplmcddlgnaaGreatTN00
import Derived.Test.YtnhcplmcddlgnaaGreatTN02
import Derived.Test.YtnhcplmcddlgnaaGreatTN03
import Derived.Test.YtnhcplmcddlgnaaGreatTN06
namespace Go.Proofs.YtnhcplmcddlgnaaGreat
open Go.RowKit Go.Shelf
set_option linter.unusedSimpArgs false
set_option linter.unusedVariables false
/-- a row read out of the middle of a block -/
theorem wpList_load_mid {P : Program} {ops : Array Oper} {rest : List Oper} {o : Oper} {a : Act} {w : World} {Q : Exit → Act → World → Prop} (hgd : o.guard = none) (ty : TypeId) (x : Operand) (ho : o.op = .load ty x)
    (b m : Nat) (hx : a.eval x = .pointer (some ⟨b, m, none⟩)) (cs : List Value) (d : TypeDesc) (hc : ∀ j u, cs[j]? = some u → w.cell? ⟨b, m + j, none⟩ = some u)
    (hu : P.underlying ty = some d) (hd : (match d with | .struct _ | .array _ _ => true | _ => false) = true) (hi : (P.info? ty).map (·.size) = some cs.length)
    (h : wpList P ops Q rest (a.put o.dst (.agg cs.toArray)) w) : wpList P ops Q (o :: rest) a w := by
  refine wpList_plain hgd fun _ hK => ?_
  have hl : (loadCells ⟨b, m, none⟩ cs.length).run P w = .ok cs.toArray w :=
    run_loadCells_list (P := P) w ⟨b, m, none⟩ cs (fun j v hv => by rw [addo]; exact hc j v hv)
  have hv : (loadVar ty ⟨b, m, none⟩).run P w = .ok (.agg cs.toArray) w := by
    cases hq : P.info? ty with
    | none => simp [hq] at hi
    | some i =>
      have hs : i.size = cs.length := by simpa [hq] using hi
      have hagg : (isAgg ty).run P w = .ok true w := by
        unfold isAgg
        rw [Sem.run_bind, run_underlying hu w]
        cases d <;> simp_all
      simp [loadVar, Sem.run_bind, hagg, sizeOf, typeInfo, hq, hs, hl]
  unfold Oper.wp execOp
  simp only [ho, hx, Instr.loadAt, Instr.sureAddr, Sem.run_bind, Sem.run_pure, Result.andThen_ok, hv]
  exact hK _ _ h
theorem oper_load_mid {P : Program} {o : Oper} {a : Act} {w : World} {K : Act → World → Prop} {Q : Exit → Act → World → Prop} (ty : TypeId) (x : Operand) (ho : o.op = .load ty x)
    (b m : Nat) (hx : a.eval x = .pointer (some ⟨b, m, none⟩)) (cs : List Value) (d : TypeDesc) (hc : ∀ j u, cs[j]? = some u → w.cell? ⟨b, m + j, none⟩ = some u)
    (hu : P.underlying ty = some d) (hd : (match d with | .struct _ | .array _ _ => true | _ => false) = true) (hi : (P.info? ty).map (·.size) = some cs.length)
    (h : K (a.put o.dst (.agg cs.toArray)) w) : o.wp P a w K Q := by
  have hl : (loadCells ⟨b, m, none⟩ cs.length).run P w = .ok cs.toArray w :=
    run_loadCells_list (P := P) w ⟨b, m, none⟩ cs (fun j v hv => by rw [addo]; exact hc j v hv)
  have hv : (loadVar ty ⟨b, m, none⟩).run P w = .ok (.agg cs.toArray) w := by
    cases hq : P.info? ty with
    | none => simp [hq] at hi
    | some i =>
      have hs : i.size = cs.length := by simpa [hq] using hi
      have hagg : (isAgg ty).run P w = .ok true w := by
        unfold isAgg
        rw [Sem.run_bind, run_underlying hu w]
        cases d <;> simp_all
      simp [loadVar, Sem.run_bind, hagg, sizeOf, typeInfo, hq, hs, hl]
  unfold Oper.wp execOp
  simp only [ho, hx, Instr.loadAt, Instr.sureAddr, Sem.run_bind, Sem.run_pure, Result.andThen_ok, hv]
  exact h
theorem Src.free {α : Type} {E : PH → List Value → α → Prop} {sz : Nat} {H H' : PH} {w : World} {v : Value} {xs : List α} (h : Src w H E sz v xs) (hE : ∀ cs x, E H cs x → E H' cs x) : Src w H' E sz v xs := by
  obtain ⟨a, cap, h1, h2, h3⟩ := h
  refine ⟨a, cap, h1, h2, ?_⟩
  rcases h3 with h3 | ⟨ad, c, h3, h4, h5⟩
  · exact .inl h3
  · exact .inr ⟨ad, c, h3, h4.mono hE, h5⟩
section
variable {α : Type} {E : PH → List Value → α → Prop} {hm : Mono E} {sz : Nat} {T : TypeId} {w0 w : World} {H0 H : PH} {L : List Chunk} {xs : List α}
theorem Cells.take {c : List Value} (h : Cells H E sz c xs) (k : Nat) : Cells H E sz (c.take (k * sz)) (xs.take k) := by
  induction xs generalizing c k with
  | nil =>
    have : c = [] := h
    subst this; simp; exact rfl
  | cons x xs ih =>
    obtain ⟨cs, rest, rfl, h1, h2, h3⟩ := h
    cases k with
    | zero => simp; exact rfl
    | succ k =>
      refine ⟨cs, rest.take (k * sz), ?_, h1, h2, ih h3 k⟩
      rw [show (k + 1) * sz = cs.length + k * sz by rw [h1, Nat.add_mul]; omega, List.take_length_add_append]
theorem Cells.putRow {x : α} {cs : List Value} (hx : E H cs x) (hs : cs.length = sz) : ∀ {xs : List α} {c : List Value} (k : Nat), k < xs.length → Cells H E sz c xs → Cells H E sz (c.take (k * sz) ++ cs ++ c.drop (k * sz + sz)) (xs.set k x)
  | [], _, k, hk, _ => by simp at hk
  | y :: ys, c, 0, _, hc => by
    obtain ⟨ds, rest, rfl, h1, h2, h3⟩ := hc
    refine ⟨cs, rest, ?_, hs, hx, h3⟩
    rw [Nat.zero_mul, Nat.zero_add, List.take_zero, List.nil_append, List.drop_left' h1]
  | y :: ys, c, k + 1, hk, hc => by
    obtain ⟨ds, rest, rfl, h1, h2, h3⟩ := hc
    refine ⟨ds, rest.take (k * sz) ++ cs ++ rest.drop (k * sz + sz), ?_, h1, h2, Cells.putRow hx hs k (by simpa using hk) h3⟩
    rw [show (k + 1) * sz = ds.length + k * sz by rw [h1, Nat.add_mul]; omega, List.take_length_add_append, show ds.length + k * sz + sz = ds.length + (k * sz + sz) by omega, List.drop_length_add_append]
    simp
theorem setRow_block (w : World) (g k : Nat) (c : Array Value) (h : k ≠ g) : (w.setRow g c).heap[k]? = w.heap[k]? := setRow_other w g k c (fun e => h e)
/-- a row of an own slice is written -/
theorem Mem.putRow {g cap n : Nat} {cur : Array Value} {x : α} {cs : List Value} (h : Mem w0 H0 L H w) (i : Nat) (hi : L[i]? = some (own hm sz T (.slice (some ⟨g, 0, none⟩) n cap) xs)) (hn : n = xs.length) (k : Nat) (hk : k < xs.length) (hx : E H cs x) (hs : cs.length = sz)
    (hg : w.heap[g]? = some (.cells cur T (0, 0))) : Mem w0 H0 (L.set i (own hm sz T (.slice (some ⟨g, 0, none⟩) n cap) (xs.set k x))) H (w.setRow g (cur.toList.take (k * sz) ++ cs ++ cur.toList.drop (k * sz + sz)).toArray) := by
  subst hn
  have h4 : OwnC H w E sz T (.slice (some ⟨g, 0, none⟩) xs.length cap) xs := h.ok i _ hi
  rcases h4 with ⟨h4, -⟩ | ⟨g', cap', cur', e, k1, k2, k3, k4, k5⟩
  · cases h4
  · cases e
    rw [hg] at k1
    cases k1
    have hkn : k * sz + sz ≤ xs.length * sz := by
      have := Nat.mul_le_mul_right sz (show k + 1 ≤ xs.length from hk); rw [Nat.add_mul] at this; omega
    have hnc : xs.length * sz ≤ cap * sz := Nat.mul_le_mul_right _ k2
    have hcl : cur.toList.length = cap * sz := by simpa using k4
    refine h.put i hi (c' := own hm sz T _ (xs.set k x)) (.inr ⟨g, cap, (cur.toList.take (k * sz) ++ cs ++ cur.toList.drop (k * sz + sz)).toArray, by simp, setRow_heap w g cur _ T _ hg, by simpa using k2, k3, ?_, ?_⟩) (fun k hk => .inl hk) ?_ fun j hj hne => setRow_block _ _ _ _ (fun e => hne (by rw [e]; rfl))
    · simp only [List.size_toArray, List.length_append, List.length_take, List.length_drop, hcl, hs]; omega
    · have := Cells.putRow (H := H) hx hs k hk k5
      rw [List.length_set]
      have e1 : (cur.toList.take (k * sz) ++ cs ++ cur.toList.drop (k * sz + sz)).toArray.toList.take (xs.length * sz) = (cur.toList.take (xs.length * sz)).take (k * sz) ++ cs ++ (cur.toList.take (xs.length * sz)).drop (k * sz + sz) := by
        simp only []
        rw [List.take_take, Nat.min_eq_left (by omega), List.drop_take]
        have hl : (cur.toList.take (k * sz) ++ cs).length = k * sz + sz := by rw [List.length_append, List.length_take, hs]; omega
        rw [List.take_append, hl, List.take_of_length_le (by omega)]
      rw [e1]; exact this
    · have hbase := (h.fr i _ hi g rfl).1
      exact h.ex.trans ⟨rfl, rfl, rfl, by simp [World.setRow], fun j hj => setRow_block _ _ _ _ (by omega)⟩
/-- the rows of an own slice from k on are written, and cut off -/
theorem Mem.cut {g cap n : Nat} {cur cur' : Array Value} (h : Mem w0 H0 L H w) (i : Nat) (hi : L[i]? = some (own hm sz T (.slice (some ⟨g, 0, none⟩) n cap) xs)) (hn : n = xs.length) (k : Nat) (hk : k ≤ xs.length)
    (hg : w.heap[g]? = some (.cells cur T (0, 0))) (hs : cur'.size = cur.size) (ht : cur'.toList.take (k * sz) = cur.toList.take (k * sz)) : Mem w0 H0 (L.set i (own hm sz T (.slice (some ⟨g, 0, none⟩) k cap) (xs.take k))) H (w.setRow g cur') := by
  subst hn
  have h4 : OwnC H w E sz T (.slice (some ⟨g, 0, none⟩) xs.length cap) xs := h.ok i _ hi
  rcases h4 with ⟨h4, -⟩ | ⟨g', cap', cur1, e, k1, k2, k3, k4, k5⟩
  · cases h4
  · cases e
    rw [hg] at k1
    cases k1
    have hkl : (xs.take k).length = k := by rw [List.length_take]; omega
    have hkn : k * sz ≤ xs.length * sz := Nat.mul_le_mul_right sz hk
    refine h.put i hi (c' := own hm sz T _ (xs.take k)) (.inr ⟨g, cap, cur', by rw [hkl], setRow_heap w g cur _ T _ hg, by omega, k3, by rw [hs]; exact k4, ?_⟩) (fun k hk => .inl hk) (h.ex.trans ⟨rfl, rfl, rfl, by simp [World.setRow], fun j hj => setRow_block _ _ _ _ (by have := (h.fr i _ hi g rfl).1; omega)⟩) fun j hj hne => setRow_block _ _ _ _ (fun e => hne (by rw [e]; rfl))
    have := Cells.take k5 k
    rw [List.take_take, Nat.min_eq_left hkn] at this
    rw [hkl, ht]; exact this
end
section
variable {P : Program} {α : Type} {E : PH → List Value → α → Prop} {hm : Mono E} {sz : Nat} {T : TypeId} {w0 w : World} {H0 H : PH} {L : List Chunk} {xs : List α}
theorem Mem.cur {g n cap : Nat} (h : Mem w0 H0 L H w) (i : Nat) (hi : L[i]? = some (own hm sz T (.slice (some ⟨g, 0, none⟩) n cap) xs)) : ∃ cur, w.heap[g]? = some (.cells cur T (0, 0)) ∧ cur.size = cap * sz ∧ xs.length ≤ cap ∧ n = xs.length := by
  have h4 : OwnC H w E sz T (.slice (some ⟨g, 0, none⟩) n cap) xs := h.ok i _ hi
  rcases h4 with ⟨h4, -⟩ | ⟨g', cap', cur1, e, k1, k2, k3, k4, k5⟩
  · cases h4
  · cases e; exact ⟨cur1, k1, k4, k2, rfl⟩
/-- a row of an own slice is written: the walk's arm -/
theorem wpList_store_M {ops : Array Oper} {rest : List Oper} {o : Oper} {a : Act} {Q : Exit → Act → World → Prop} (hgd : o.guard = none) (ty : TypeId) (x y : Operand) (ho : o.op = .store ty x y)
    {g n cap : Nat} (k : Nat) (hx : a.eval x = .pointer (some ⟨g, k * sz, none⟩)) {cs : List Value} (hy : a.eval y = .agg cs.toArray) {x' : α} (h : Mem w0 H0 L H w) (i : Nat) (hi : L[i]? = some (own hm sz T (.slice (some ⟨g, 0, none⟩) n cap) xs)) (hk : k < xs.length)
    (hE : E H cs x') (hcs : cs.length = sz) (hone : ∀ u ∈ cs, u.oneCell' = true) (hinfo : (P.info? ty).map (·.size) = some sz)
    (hn : ∀ w', Mem w0 H0 (L.set i (own hm sz T (.slice (some ⟨g, 0, none⟩) n cap) (xs.set k x'))) H w' → wpList P ops Q rest (a.put o.dst undef) w') : wpList P ops Q (o :: rest) a w := by
  obtain ⟨cur, hg, hc1, hc2, rfl⟩ := h.cur i hi
  have hkn : k * sz + sz ≤ cap * sz := by
    have := Nat.mul_le_mul_right sz (show k + 1 ≤ cap by omega); rw [Nat.add_mul] at this; omega
  have hst := run_storeCells_at (P := P) g (k * sz) T cs 0 cur w hg (by omega) hone
  simp only [Nat.add_zero] at hst
  rw [hcs] at hst
  refine wpList_plain hgd fun _ hK => ?_
  have hv : (storeVar ty ⟨g, k * sz, none⟩ (.agg cs.toArray)).run P w = .ok () (w.setRow g (cur.toList.take (k * sz) ++ cs ++ cur.toList.drop (k * sz + sz)).toArray) := by
    cases hq : P.info? ty with
    | none => simp [hq] at hinfo
    | some j =>
      have hs : cs.length = j.size := by simp [hq] at hinfo; omega
      simp [storeVar, sizeOf, typeInfo, hq, Value.cells, hs, hst]
  unfold Oper.wp execOp
  simp only [ho, hx, hy, Instr.storeAt, Instr.sureAddr, Sem.run_bind, Sem.run_pure, Result.andThen_ok, hv]
  exact hK _ _ (hn _ (h.putRow i hi rfl k hk hE hcs hg))
theorem zeroCells_one {z : Array Value} (hz : z.all (·.oneCell') = true) (n : Nat) : ∀ v ∈ (Builtin.zeroCells z n).toList, v.oneCell' = true := by
  intro v hv
  simp [Builtin.zeroCells] at hv
  obtain ⟨j, hj, rfl⟩ := hv
  have hpos : 0 < z.size := Nat.pos_of_ne_zero fun e => by rw [e] at hj; simp at hj
  have hlt : j % z.size < z.size := Nat.mod_lt _ hpos
  have := (Array.all_eq_true.1 hz) (j % z.size) hlt
  simpa [hlt] using this
/-- clear of the rows of an own slice from k on, which are then cut off: the walk's arm -/
theorem wpList_clear_M {ops : Array Oper} {rest : List Oper} {o : Oper} {a : Act} {Q : Exit → Act → World → Prop} (hgd : o.guard = none) (s : Operand) (t : TypeId) (ho : o.op = .call { callee := .builtin .clear, args := #[s], argTypes := #[t] })
    {g n cap c : Nat} (k : Nat) (hs : a.eval s = .slice (some ⟨g, k * sz, none⟩) (n - k) c) {z : Value} (ht : P.underlying t = some (.slice T)) (hz : ∀ w, (zeroValue T).run P w = .ok z w) (hzs : z.cells.size = sz) (hz1 : z.cells.all (·.oneCell') = true)
    (h : Mem w0 H0 L H w) (i : Nat) (hi : L[i]? = some (own hm sz T (.slice (some ⟨g, 0, none⟩) n cap) xs)) (hk : k ≤ xs.length)
    (hn : ∀ w', Mem w0 H0 (L.set i (own hm sz T (.slice (some ⟨g, 0, none⟩) k cap) (xs.take k))) H w' → wpList P ops Q rest (a.put o.dst (.tuple #[])) w') : wpList P ops Q (o :: rest) a w := by
  obtain ⟨cur, hg, hc1, hc2, rfl⟩ := h.cur i hi
  have hzl : (Builtin.zeroCells z.cells (xs.length - k)).toList.length = (xs.length - k) * sz := by rw [Array.length_toList, size_zeroCells, hzs]
  have hle : k * sz + (xs.length - k) * sz ≤ cap * sz := by
    rw [← Nat.add_mul]; exact Nat.mul_le_mul_right _ (by omega)
  have hst := run_storeCells_at (P := P) g (k * sz) T (Builtin.zeroCells z.cells (xs.length - k)).toList 0 cur w hg (by omega) (zeroCells_one hz1 _)
  simp only [Nat.add_zero] at hst
  have hM := h.cut i hi rfl k hk hg (cur' := (cur.toList.take (k * sz) ++ (Builtin.zeroCells z.cells (xs.length - k)).toList ++ cur.toList.drop (k * sz + (Builtin.zeroCells z.cells (xs.length - k)).toList.length)).toArray)
    (by simp only [List.size_toArray, List.length_append, List.length_take, List.length_drop, hzl, Array.length_toList]; omega)
    (by simp only []; rw [List.append_assoc, List.take_append_of_le_length (by rw [List.length_take, Array.length_toList]; omega), List.take_take, Nat.min_self])
  refine wpList_plain hgd fun _ hK => ?_
  have hr : (Builtin.clear_ #[t] o.type #[.slice (some ⟨g, k * sz, none⟩) (xs.length - k) c]).run P w = .ok (.tuple #[]) (w.setRow g (cur.toList.take (k * sz) ++ (Builtin.zeroCells z.cells (xs.length - k)).toList ++ cur.toList.drop (k * sz + (Builtin.zeroCells z.cells (xs.length - k)).toList.length)).toArray) := by
    cases hq : xs.length - k with
    | zero =>
      have hz0 : Builtin.zeroCells z.cells 0 = #[] := by simp [Builtin.zeroCells]
      rw [hz0]
      have e1 : (cur.toList.take (k * sz) ++ (#[] : Array Value).toList ++ cur.toList.drop (k * sz + (#[] : Array Value).toList.length)).toArray = cur := by simp
      rw [e1, setRow_self w g cur T (0, 0) hg]
      simp [Builtin.clear_, run_underlying ht]
    | succ m =>
      rw [hq] at hst
      simp [Builtin.clear_, run_underlying ht, hz, hst]
  unfold Oper.wp execOp
  simp only [ho, resolve, invoke, builtin, Sem.run_bind, Sem.run_pure, Result.andThen_ok, List.map_toArray, List.map_cons, List.map_nil, hs, hr]
  exact hK _ _ (hn _ hM)
end
end Go.Proofs.YtnhcplmcddlgnaaGreat
namespace Go.Proofs.YtnhcplmcddlgnaaGreat
open Go.RowKit Go.Shelf
set_option linter.unusedSimpArgs false
set_option linter.unusedVariables false
theorem Mem.row {α : Type} {E : PH → List Value → α → Prop} {hm : Mono E} {sz : Nat} {T : TypeId} {w0 w : World} {H0 H : PH} {L : List Chunk} {oa : Option Addr} {n cap k i : Nat} {xs : List α} {x : α} (h : Mem w0 H0 L H w) (hi : L[i]? = some (own hm sz T (.slice oa n cap) xs)) (hk : xs[k]? = some x) :
    ∃ g cs, oa = some ⟨g, 0, none⟩ ∧ n = xs.length ∧ g < w.heap.size ∧ cs.length = sz ∧ (∀ j u, cs[j]? = some u → w.cell? ⟨g, k * sz + j, none⟩ = some u) ∧ E H cs x := by
  obtain ⟨hkl, hkx⟩ := List.getElem?_eq_some_iff.1 hk
  obtain ⟨g, cap', cs, hv, hcs, hc, hE, hg⟩ := h.get i hi k hkl
  rw [hkx] at hE
  cases hv
  refine ⟨g, cs, rfl, rfl, hg, hcs, fun j u hu => ?_, hE⟩
  obtain ⟨hj, he⟩ := List.getElem?_eq_some_iff.1 hu
  rw [hc j (by omega), ← he]
  simp [List.getD_eq_getElem?_getD, hj]
section
variable {P : Program} {α : Type} {E : PH → List Value → α → Prop} {hm : Mono E} {sz : Nat} {T : TypeId} {w0 w : World} {H0 H : PH} {L : List Chunk} {xs : List α}
/-- a row of an own slice is written: the walk's arm -/
theorem oper_store_R {o : Oper} {a : Act} {K : Act → World → Prop} {Q : Exit → Act → World → Prop} (ty : TypeId) (x y : Operand) (ho : o.op = .store ty x y)
    {g n cap : Nat} (k : Nat) (hx : a.eval x = .pointer (some ⟨g, k * sz, none⟩)) {cs : List Value} (hy : a.eval y = .agg cs.toArray) {x' : α} (h : Mem w0 H0 L H w) (i : Nat) (hi : L[i]? = some (own hm sz T (.slice (some ⟨g, 0, none⟩) n cap) xs)) (hk : k < xs.length)
    (hE : E H cs x') (hcs : cs.length = sz) (hone : ∀ u ∈ cs, u.oneCell' = true) (hinfo : (P.info? ty).map (·.size) = some sz)
    (hn : ∀ w', Mem w0 H0 (L.set i (own hm sz T (.slice (some ⟨g, 0, none⟩) n cap) (xs.set k x'))) H w' → K (a.put o.dst undef) w') : o.wp P a w K Q := by
  obtain ⟨cur, hg, hc1, hc2, rfl⟩ := h.cur i hi
  have hkn : k * sz + sz ≤ cap * sz := by
    have := Nat.mul_le_mul_right sz (show k + 1 ≤ cap by omega); rw [Nat.add_mul] at this; omega
  have hst := run_storeCells_at (P := P) g (k * sz) T cs 0 cur w hg (by omega) hone
  simp only [Nat.add_zero] at hst
  rw [hcs] at hst
  have hv : (storeVar ty ⟨g, k * sz, none⟩ (.agg cs.toArray)).run P w = .ok () (w.setRow g (cur.toList.take (k * sz) ++ cs ++ cur.toList.drop (k * sz + sz)).toArray) := by
    cases hq : P.info? ty with
    | none => simp [hq] at hinfo
    | some j =>
      have hs : cs.length = j.size := by simp [hq] at hinfo; omega
      simp [storeVar, sizeOf, typeInfo, hq, Value.cells, hs, hst]
  unfold Oper.wp execOp
  simp only [ho, hx, hy, Instr.storeAt, Instr.sureAddr, Sem.run_bind, Sem.run_pure, Result.andThen_ok, hv]
  exact (hn _ (h.putRow i hi rfl k hk hE hcs hg))
end
/-- the comparison that a function value calls -/
def HCmp {α : Type} (E : PH → List Value → α → Prop) (H : PH) (c : α → α → Int) (fid : Nat) : Prop :=
  ∀ w' cs ds x y, PLe H (ph w') → E H cs x → E H ds y → Calls Tryz.prog fid #[.agg cs.toArray, .agg ds.toArray] w' (RetV w' (.int .i64 (c x y)))
theorem swap_next {β : Type} (A C : List β) (x y : β) : ((A ++ y :: x :: C).set (A.length + 1) y).set A.length x = A ++ x :: y :: C := by
  have := swap_mid' A [] C y x
  simp only [List.length_nil, Nat.add_zero, List.append_assoc, List.cons_append, List.nil_append] at this
  exact this
theorem get_mid {β : Type} (A B C : List β) (r : Nat) (h : r < B.length) (i : Nat) (hi : i = A.length + r) : (A ++ B ++ C)[i]? = some B[r] := by
  subst hi
  rw [List.append_assoc, List.getElem?_append_right (by omega), Nat.add_sub_cancel_left, List.getElem?_append_left h, List.getElem?_eq_getElem h]
/-- a function that gives nothing -/
def UnitP (Q : World → Prop) (e : Ending) (w' : World) : Prop := e = .returned (.tuple #[]) ∧ Q w'
section
variable {P : Program} {ops : Array Oper} {Q : Exit → Act → World → Prop} {md : Region.Mode} {fuel : Nat} {listed : Array Bool} {a : Act} {w : World} {i : Nat} {o : Oper} {rs : List Nat}
theorem AllReady.un (ho : ops[i]? = some o) (hg : o.guard = none)
    (h : ∀ K' : Act → World → Prop, (∀ a w, wpAny P md ops Q fuel (listed.setIfInBounds i true) a w → K' a w) → Oper.wp P o a w K' Q)
    (hs : AllReady P md ops Q fuel listed a w rs) : AllReady P md ops Q fuel listed a w (i :: rs) :=
  AllReady.cons ho (fun K' hK => by
    rw [if_pos (by simp only [Region.wanted, hg])]
    exact h K' hK) hs
/-- a whole row is loaded -/
theorem AllReady.load (ho : ops[i]? = some o) (hg : o.guard = none) (ty : TypeId) (x : Operand) (hop : o.op = .load ty x)
    (b m : Nat) (hx : a.eval x = .pointer (some ⟨b, m, none⟩)) (cs : List Value) (d : TypeDesc) (hc : ∀ j u, cs[j]? = some u → w.cell? ⟨b, m + j, none⟩ = some u)
    (hu : P.underlying ty = some d) (hd : (match d with | .struct _ | .array _ _ => true | _ => false) = true) (hi : (P.info? ty).map (·.size) = some cs.length)
    (h : wpAny P md ops Q fuel (listed.setIfInBounds i true) (a.put o.dst (.agg cs.toArray)) w)
    (hs : AllReady P md ops Q fuel listed a w rs) : AllReady P md ops Q fuel listed a w (i :: rs) :=
  AllReady.un ho hg (fun K' hK => oper_load_mid ty x hop b m hx cs d hc hu hd hi (hK _ _ h)) hs
/-- a whole row of an own slice is stored -/
theorem AllReady.store {α : Type} {E : PH → List Value → α → Prop} {hm : Mono E} {sz : Nat} {T : TypeId} {w0 : World} {H0 H : PH} {L : List Chunk} {xs : List α} (ho : ops[i]? = some o) (hg : o.guard = none)
    (ty : TypeId) (x y : Operand) (hop : o.op = .store ty x y) {g n cap : Nat} (k : Nat) (hx : a.eval x = .pointer (some ⟨g, k * sz, none⟩)) {cs : List Value} (hy : a.eval y = .agg cs.toArray) {x' : α} (hM : Mem w0 H0 L H w) (j : Nat) (hi : L[j]? = some (own hm sz T (.slice (some ⟨g, 0, none⟩) n cap) xs)) (hk : k < xs.length)
    (hE : E H cs x') (hcs : cs.length = sz) (hone : ∀ u ∈ cs, u.oneCell' = true) (hinfo : (P.info? ty).map (·.size) = some sz)
    (h : ∀ w', Mem w0 H0 (L.set j (own hm sz T (.slice (some ⟨g, 0, none⟩) n cap) (xs.set k x'))) H w' → wpAny P md ops Q fuel (listed.setIfInBounds i true) (a.put o.dst undef) w')
    (hs : AllReady P md ops Q fuel listed a w rs) : AllReady P md ops Q fuel listed a w (i :: rs) :=
  AllReady.un ho hg (fun K' hK => oper_store_R ty x y hop k hx hy hM j hi hk hE hcs hone hinfo fun w' hM' => hK _ _ (h w' hM')) hs
end
end Go.Proofs.YtnhcplmcddlgnaaGreat
namespace Go.Proofs.YtnhcplmcddlgnaaGreat
open Go.RowKit Go.Shelf
set_option linter.unusedSimpArgs false
set_option linter.unusedVariables false
def valC (x : Val) : List Value := [.int .i64 x.attr, .int .i64 x.n.num, .int .i64 x.n.den]
set_option maxHeartbeats 1000000 in
theorem eqlVl (x y : Val) (w : World) : (binOp .eql 46 (.agg (valC x).toArray) (.agg (valC y).toArray)).run Tryz.prog w = .ok (.bool (x == y)) w := by
  obtain ⟨a, b, c⟩ := x
  obtain ⟨a', b', c'⟩ := y
  have e : ((⟨a, ⟨b, c⟩⟩ : Val) == ⟨a', ⟨b', c'⟩⟩) = (decide (a = a') && (decide (b = b') && decide (c = c'))) := by
    rw [Bool.eq_iff_iff]; simp
  rw [e]
  unfold valC
  rw [run_eql_struct]
  go_simp
  repeat' split
  all_goals simp_all
set_option maxHeartbeats 1000000 in
theorem neqVl (x y : Val) (w : World) : (binOp .neq 46 (.agg (valC x).toArray) (.agg (valC y).toArray)).run Tryz.prog w = .ok (.bool (!(x == y))) w := by
  obtain ⟨a, b, c⟩ := x
  obtain ⟨a', b', c'⟩ := y
  have e : ((⟨a, ⟨b, c⟩⟩ : Val) == ⟨a', ⟨b', c'⟩⟩) = (decide (a = a') && (decide (b = b') && decide (c = c'))) := by
    rw [Bool.eq_iff_iff]; simp
  rw [e]
  unfold valC
  rw [run_neq_struct]
  go_simp
  repeat' split
  all_goals simp_all
theorem oper_bin {P : Program} {o : Oper} {a : Act} {w : World} {K : Act → World → Prop} {Q : Exit → Act → World → Prop} (op : BinOp) (ty ty2 : TypeId) (x y : Operand) (ho : o.op = .binOp op ty x y ty2) {xs ys : Array Value} {v : Value}
    (hx : a.eval x = .agg xs) (hy : a.eval y = .agg ys) (hm : P.eqGuardType P.depth ty = false) (hr : (binOp op ty (.agg xs) (.agg ys)).run P w = .ok v w) (h : K (a.put o.dst v) w) : o.wp P a w K Q := by
  unfold Oper.wp execOp
  simp only [ho, hx, hy, Sem.run_bind, Sem.run_pure, run_eqGuard_agg (hm := hm), Result.andThen_ok, hr]
  exact h
abbrev ownVl (v : Value) (xs : List Val) : Chunk := own mono_ValR 3 46 v xs
theorem vlM_row {w0 W : World} {H0 H : PH} {LB : List Chunk} {oa : Option Addr} {N oc k : Nat} {xs : List Val} {x : Val} (hM : Mem w0 H0 (ownVl (.slice oa N oc) xs :: LB) H W) (hk : xs[k]? = some x) :
    ∃ g, oa = some ⟨g, 0, none⟩ ∧ g < W.heap.size ∧ (∀ j u, (valC x)[j]? = some u → W.cell? ⟨g, k * 3 + j, none⟩ = some u) ∧ ValR H (valC x) x := by
  obtain ⟨g, cs, h1, -, h3, -, h5, h6⟩ := hM.row (i := 0) rfl hk
  obtain rfl : cs = valC x := h6.1
  exact ⟨g, h1, h3, h5, h6⟩
theorem one_valC (x : Val) : ∀ u ∈ valC x, u.oneCell' = true := by
  intro u hu
  simp only [valC, List.mem_cons, List.not_mem_nil, or_false] at hu
  rcases hu with rfl | rfl | rfl <;> rfl
theorem infoVl : (Tryz.prog.info? 46).map (fun i => (i.zero, i.size, i.bytes)) = some (some (.agg #[.int .i64 0, .int .i64 0, .int .i64 0]), 3, 24) := by kernel_rfl
theorem zeroVl1 (w : World) : (zeroValue 46).run Tryz.prog w = .ok (.agg #[.int .i64 0, .int .i64 0, .int .i64 0]) w := by
  obtain ⟨i, hi, hz0, hz1, hz2⟩ := info_parts infoVl
  simp [zeroValue, typeInfo, hi, hz0]
/-- an own slice of values came back -/
def OwnVP (w0 : World) (H0 : PH) (LB : List Chunk) (H : PH) (ys : List Val) (e : Ending) (w' : World) : Prop := ∃ v', e = .returned v' ∧ Mem w0 H0 (ownVl v' ys :: LB) H w'
/-- of equal values that stand side by side the first; d: the one ahead -/
def vddP : Option Val → List Val → List Val
  | _, [] => []
  | d, x :: r => if d = some x then vddP (some x) r else x :: vddP (some x) r
def vlastD (d : Option Val) (l : List Val) : Option Val := match l.getLast? with | some x => some x | none => d
theorem vlastD_cons (d : Option Val) (x : Val) (l : List Val) : vlastD d (x :: l) = vlastD (some x) l := by
  unfold vlastD
  cases l with
  | nil => rfl
  | cons y r => rw [List.getLast?_cons_cons]; cases h : (y :: r).getLast? with
    | none => simp at h
    | some z => rfl
theorem vddP_snoc (x : Val) : ∀ (l : List Val) (d : Option Val), vddP d (l ++ [x]) = vddP d l ++ if vlastD d l = some x then [] else [x]
  | [], d => by
    show vddP d [x] = vddP d [] ++ _
    have e : vlastD d [] = d := rfl
    rw [e]
    by_cases h : d = some x
    · rw [if_pos h]; show (if d = some x then vddP (some x) [] else x :: vddP (some x) []) = _; rw [if_pos h]; rfl
    · rw [if_neg h]; show (if d = some x then vddP (some x) [] else x :: vddP (some x) []) = _; rw [if_neg h]; rfl
  | y :: r, d => by
    rw [List.cons_append, vddP, vddP, vlastD_cons, vddP_snoc x r]
    split
    · rfl
    · rfl
abbrev vdd (l : List Val) : List Val := vddP none l
theorem vdd_take {xs : List Val} {j : Nat} (hj : j < xs.length) (h0 : 0 < j) : vdd (xs.take (j + 1)) = vdd (xs.take j) ++ if (xs[j - 1]'(by omega)) = xs[j] then [] else [xs[j]] := by
  show vddP none _ = vddP none _ ++ _
  rw [List.take_add_one, List.getElem?_eq_getElem hj, Option.toList_some, vddP_snoc]
  congr 1
  have : vlastD none (xs.take j) = some (xs[j - 1]'(by omega)) := by
    unfold vlastD
    rw [List.getLast?_eq_getElem?, List.length_take, Nat.min_eq_left (by omega), List.getElem?_take_of_lt (by omega), List.getElem?_eq_getElem (by omega)]
  rw [this]
  simp only [Option.some.injEq]
/-- where the compaction is -/
def VCmpAt (xs ys : List Val) (i j : Nat) : Prop := ys.length = xs.length ∧ i < j ∧ j ≤ xs.length ∧ ys.take i = vdd (xs.take j) ∧ ys.drop (j - 1) = xs.drop (j - 1)
theorem VCmpAt.at {xs ys : List Val} {i j : Nat} (h : VCmpAt xs ys i j) (hj : j < xs.length) : ys[j]? = some (xs[j]) ∧ ys[j - 1]? = some (xs[j - 1]'(by omega)) := by
  obtain ⟨h1, h2, -, -, h6⟩ := h
  have e0 := congrArg (fun l => l[0]?) h6
  have e1 := congrArg (fun l => l[1]?) h6
  simp only [List.getElem?_drop] at e0 e1
  rw [show j - 1 + 1 = j by omega] at e1
  rw [Nat.add_zero] at e0
  exact ⟨e1.trans (List.getElem?_eq_getElem hj), e0.trans (List.getElem?_eq_getElem (by omega))⟩
theorem VCmpAt.skip {xs ys : List Val} {i j : Nat} (h : VCmpAt xs ys i j) (hj : j < xs.length) (hp : (xs[j - 1]'(by omega)) = xs[j]) : VCmpAt xs ys i (j + 1) := by
  obtain ⟨h1, h2, h3, h4, h6⟩ := h
  refine ⟨h1, by omega, by omega, ?_, ?_⟩
  · rw [vdd_take hj (by omega), if_pos hp, List.append_nil]; exact h4
  · have := congrArg (List.drop 1) h6
    rw [List.drop_drop, List.drop_drop] at this
    rw [show j + 1 - 1 = j - 1 + 1 by omega]; exact this
theorem VCmpAt.keep {xs ys : List Val} {i j : Nat} (h : VCmpAt xs ys i j) (hj : j < xs.length) (hp : (xs[j - 1]'(by omega)) ≠ xs[j]) : VCmpAt xs (ys.set i xs[j]) (i + 1) (j + 1) := by
  obtain ⟨h1, h2, h3, h4, h6⟩ := h
  refine ⟨by simpa using h1, by omega, by omega, ?_, ?_⟩
  · rw [vdd_take hj (by omega), if_neg hp, ← h4, List.take_add_one, List.take_set_of_le (Nat.le_refl _), List.getElem?_set_self (by omega)]; rfl
  · have := congrArg (List.drop 1) h6
    rw [List.drop_drop, List.drop_drop, show j - 1 + 1 = j by omega] at this
    rw [show j + 1 - 1 = j by omega, List.drop_set_of_lt (by omega)]; exact this
theorem VCmpAt.start {xs : List Val} {i : Nat} (h0 : 0 < i) (hi : i < xs.length) (hd : vdd (xs.take i) = xs.take i) (hp : (xs[i - 1]'(by omega)) = xs[i]) : VCmpAt xs xs i (i + 1) :=
  ⟨rfl, by omega, by omega, by rw [vdd_take hi h0, if_pos hp, List.append_nil, hd], rfl⟩
theorem vdd_go {xs : List Val} {i : Nat} (h0 : 0 < i) (hi : i < xs.length) (hd : vdd (xs.take i) = xs.take i) (hp : (xs[i - 1]'(by omega)) ≠ xs[i]) : vdd (xs.take (i + 1)) = xs.take (i + 1) := by
  rw [vdd_take hi h0, if_neg hp, hd, List.take_add_one, List.getElem?_eq_getElem hi]; rfl
theorem VCmpAt.done {xs ys : List Val} {i : Nat} (h : VCmpAt xs ys i xs.length) : ys.take i = vdd xs := by
  rw [h.2.2.2.1, List.take_length]
set_option maxRecDepth 100000 in
set_option maxHeartbeats 4000000 in
theorem compactVl_c (v : Value) (xs : List Val) (w0 w : World) (H0 H : PH) (LB : List Chunk) (hM : Mem w0 H0 (ownVl v xs :: LB) H w) (hlen : xs.length ≤ 1000000) :
    Calls Tryz.prog 41 #[v] w (OwnVP w0 H0 LB H (vdd xs)) := by
  obtain ⟨a, c, rfl, -⟩ := hM.form 0 rfl
  by_cases h2 : xs.length < 2
  · have hd : Hid (vdd xs = xs) := by
      show _ = _
      match xs, h2 with
      | [], _ => rfl
      | [x], _ => rfl
    have h2' : (xs.length : Int) < 2 := by omega
    go_enter Tryz.func41, Tryz.ntmps41
    go_wp2_with fail
    go_ret
    exact ⟨_, rfl, by rw [hd.out]; exact hM⟩
  · obtain ⟨N, hN⟩ : ∃ N, xs.length = N := ⟨_, rfl⟩
    have hN2 : 2 ≤ N := by omega
    have hN6 : N ≤ 1000000 := by omega
    have hst : Hid (vdd (xs.take 1) = xs.take 1) := by
      show _ = _
      match xs with
      | [] => rfl
      | x :: r => rfl
    have hall : Hid (xs.take N = xs) := by show _ = _; rw [← hN, List.take_length]
    rw [hN] at hM
    simp only [hN]
    replace hN := Lib.hid hN
    clear h2 hlen
    go_enter Tryz.func41, Tryz.ntmps41
    go_wp2_with fail
    go_loopw [3] (fun vi wr => ∃ m : Nat, m + 1 ≤ N ∧ vi = .int .i64 ((m : Int) + 1) ∧ Hid (vdd (xs.take (m + 1)) = xs.take (m + 1)) ∧ Ext w wr) (fun vi _ => N - (intOf vi).toNat)
    case atStart => exact ⟨0, by omega, rfl, hst, Ext.rfl' _⟩
    case round =>
      clear hst
      obtain ⟨m, hm, rfl, hd, hxr⟩ := hrel
      have hMr := hM.ext hxr
      by_cases hlt : m + 1 < N
      · have hlx : m + 1 < xs.length := by rw [hN.out]; exact hlt
        obtain ⟨g, rfl, hg, gc1, hI1⟩ := vlM_row hMr (List.getElem?_eq_getElem hlx)
        obtain ⟨g', e, -, gc0, hI0⟩ := vlM_row hMr (List.getElem?_eq_getElem (show m < xs.length by omega))
        cases e
        have hja : decide (m + 1 < N) = true := by simpa using hlt
        have hgo := fun (h : (xs[m]'(by omega)) ≠ xs[m + 1]) => vdd_go (xs := xs) (i := m + 1) (Nat.succ_pos m) hlx hd.out h
        have hcs := fun (h : (xs[m]'(by omega)) = xs[m + 1]) => VCmpAt.start (xs := xs) (i := m + 1) (Nat.succ_pos m) hlx hd.out h
        have hr3 := fun W => eqlVl xs[m + 1] xs[m] W
        generalize xs[m + 1] = x1 at *
        generalize xs[m] = x0 at *
        obtain ⟨qz, hqz⟩ : ∃ q, (x1 == x0) = q := ⟨_, rfl⟩
        simp only [hqz] at hr3
        replace hqz := Lib.hid hqz
        replace gc1 := Lib.hid gc1
        replace gc0 := Lib.hid gc0
        replace hgo := Lib.hid hgo
        replace hcs := Lib.hid hcs
        replace hr3 := Lib.hid hr3
        have hlti : ((m + 1 : Nat) : Int) < N := by omega
        have hmN : m < N := by omega
        clear hlx hI0 hI1




        have hwm : IntKind.i64.wrap ((m : Int) + 1 - 1) = (m : Int) := by rw [IntKind.wrap_i64]; omega
        have hwm3 : IntKind.i64.wrap (m : Int) = (m : Int) := by rw [IntKind.wrap_i64]; omega
        have hwm2 : IntKind.i64.wrap (((m + 1 : Nat) : Int) - 1) = (m : Int) := by rw [IntKind.wrap_i64]; omega
        go_upto_region 6 with (fail)
        (refine wp_region_I 10 (by kernel_rfl) (by kernel_rfl) ?_; simp only [List.toList_toArray, List.take_succ_cons, List.take_zero, List.drop_succ_cons, List.drop_zero])
        iterate 3 (refine walkI_is (u := ?_) rfl (by simp) rfl ?_ ?_; rotate_left; (focus (intro A w' hS hA K hK; (simp only [List.map_cons, List.map_nil, knows, Is, Op.operands, Call.operands, List.lookup_cons, List.lookup_nil, Nat.reduceBEq, Bool.false_eq_true, if_false, if_true, Act.eval, Array.getD_eq_getD_getElem?, List.getElem?_toArray, List.getElem?_cons_succ, List.getElem?_cons_zero, Option.getD_some, and_true, true_and, List.append_toArray, List.nil_append, List.cons_append, List.toList_toArray, Array.toList_append, Option.toArray, List.append_nil] at hA); first | fail | (obtain ⟨hSc, hSf, hSs⟩ := hS.cells; go_simp; exact hK _ (by first | exact Ext.rfl' _ | exact Ext.new _ _ | assumption)))); (try simp only [List.nil_append, List.cons_append]))
        (refine walkI_is (u := ?_) rfl (by simp) rfl ?_ ?_; rotate_left; (focus (intro A w' hS hA K hK; (simp only [List.map_cons, List.map_nil, knows, Is, Op.operands, Call.operands, List.lookup_cons, List.lookup_nil, Nat.reduceBEq, Bool.false_eq_true, if_false, if_true, Act.eval, Array.getD_eq_getD_getElem?, List.getElem?_toArray, List.getElem?_cons_succ, List.getElem?_cons_zero, Option.getD_some, and_true, true_and, List.append_toArray, List.nil_append, List.cons_append, List.toList_toArray, Array.toList_append, Option.toArray, List.append_nil] at hA); first | (refine oper_load_mid 46 (.tmp 18) rfl g ((m + 1) * 3) (by simpa [Act.eval] using hA) (valC x1) _ (fun j u h => hS.cell1 (gc1.out j u h)) Tryz.underlying46 rfl (by kernel_rfl) ?_; exact hK _ (Ext.rfl' _)) | (obtain ⟨hSc, hSf, hSs⟩ := hS.cells; go_simp; exact hK _ (by first | exact Ext.rfl' _ | exact Ext.new _ _ | assumption)))); (try simp only [List.nil_append, List.cons_append]))
        iterate 4 (refine walkI_is (u := ?_) rfl (by simp) rfl ?_ ?_; rotate_left; (focus (intro A w' hS hA K hK; (simp only [List.map_cons, List.map_nil, knows, Is, Op.operands, Call.operands, List.lookup_cons, List.lookup_nil, Nat.reduceBEq, Bool.false_eq_true, if_false, if_true, Act.eval, Array.getD_eq_getD_getElem?, List.getElem?_toArray, List.getElem?_cons_succ, List.getElem?_cons_zero, Option.getD_some, and_true, true_and, List.append_toArray, List.nil_append, List.cons_append, List.toList_toArray, Array.toList_append, Option.toArray, List.append_nil] at hA); first | fail | (obtain ⟨hSc, hSf, hSs⟩ := hS.cells; go_simp; exact hK _ (by first | exact Ext.rfl' _ | exact Ext.new _ _ | assumption)))); (try simp only [List.nil_append, List.cons_append]))
        (refine walkI_is (u := ?_) rfl (by simp) rfl ?_ ?_; rotate_left; (focus (intro A w' hS hA K hK; (simp only [List.map_cons, List.map_nil, knows, Is, Op.operands, Call.operands, List.lookup_cons, List.lookup_nil, Nat.reduceBEq, Bool.false_eq_true, if_false, if_true, Act.eval, Array.getD_eq_getD_getElem?, List.getElem?_toArray, List.getElem?_cons_succ, List.getElem?_cons_zero, Option.getD_some, and_true, true_and, List.append_toArray, List.nil_append, List.cons_append, List.toList_toArray, Array.toList_append, Option.toArray, List.append_nil] at hA); first | (refine oper_load_mid 46 (.tmp 23) rfl g (m * 3) (by simpa [Act.eval] using hA) (valC x0) _ (fun j u h => hS.cell1 (gc0.out j u h)) Tryz.underlying46 rfl (by kernel_rfl) ?_; exact hK _ (Ext.rfl' _)) | (obtain ⟨hSc, hSf, hSs⟩ := hS.cells; go_simp; exact hK _ (by first | exact Ext.rfl' _ | exact Ext.new _ _ | assumption)))); (try simp only [List.nil_append, List.cons_append]))
        (refine walkI_is (u := ?_) rfl (by simp) rfl ?_ ?_; rotate_left; (focus (intro A w' hS hA K hK; (simp only [List.map_cons, List.map_nil, knows, Is, Op.operands, Call.operands, List.lookup_cons, List.lookup_nil, Nat.reduceBEq, Bool.false_eq_true, if_false, if_true, Act.eval, Array.getD_eq_getD_getElem?, List.getElem?_toArray, List.getElem?_cons_succ, List.getElem?_cons_zero, Option.getD_some, and_true, true_and, List.append_toArray, List.nil_append, List.cons_append, List.toList_toArray, Array.toList_append, Option.toArray, List.append_nil] at hA); first | (obtain ⟨hA1, hA2⟩ := hA; refine oper_bin .eql 46 _ (.tmp 19) (.tmp 24) rfl (by simpa [Act.eval] using hA1) (by simpa [Act.eval] using hA2) (by kernel_rfl) (hr3.out w') ?_; exact hK _ (Ext.rfl' _)) | (obtain ⟨hSc, hSf, hSs⟩ := hS.cells; go_simp; exact hK _ (by first | exact Ext.rfl' _ | exact Ext.new _ _ | assumption)))); (try simp only [List.nil_append, List.cons_append]))
        (refine walkI_nil ?_; simp only [List.nil_append, List.cons_append, fins, Is, forall_eq, Act.put, List.setIfInBounds_toArray, List.set_cons_zero, List.set_cons_succ])
        intro w3 hx3
        cases qz with
        | true =>
          have hday : x0 = x1 := by have := hqz.out; rw [beq_iff_eq] at this; exact this.symm
          have hC := Lib.hid (hcs.out hday)
          have hM3 := hMr.ext hx3
          have hxl : Hid (m + 1 + 1 ≤ xs.length) := Lib.hid (by rw [hN.out]; omega)
          have hcap0 : N ≤ c := by
            obtain ⟨cur, -, -, h3, -⟩ := hM3.cur 0 rfl
            rw [hN.out] at h3; exact h3
          clear hday hcs hgo hd hall hMr gc0 gc1 hr3
          go_wp2_with fail
          have hlt' := Lib.hid hlt
          replace hlti := Lib.hid hlti
          replace hja := Lib.hid hja
          clear hlt
          generalize decide ((N : Int) < 2) = z10
          generalize decide ((m : Int) + 1 < (N : Int)) = z15
          generalize hv12 : Value.int IntKind.i64 ((m : Int) + 1) = v12
          replace hv12 := Lib.hid hv12
          go_loopw [3, 5] (fun vi vk wr2 => ∃ (i k : Nat) (ys : List Val), vi = .int .i64 (i : Int) ∧ vk = .int .i64 ((k : Int) + 1) ∧ m + 1 + (k + 1) ≤ N ∧ i < m + 1 + (k + 1) ∧ Hid (VCmpAt xs ys i (m + 1 + (k + 1))) ∧ Mem w0 H0 (ownVl (.slice (some ⟨g, 0, none⟩) N c) ys :: LB) H wr2) (fun _ vk _ => N - (intOf vk).toNat)
          case atStart => exact ⟨m + 1, 0, xs, by rw [← hv12.out]; go_num, by go_num, by omega, by omega, hC, hM3⟩
          case round =>
            clear hM3 hC
            obtain ⟨i, k, ys, rfl, rfl, hkN, hik, hD, hM⟩ := hrel
            have hyl : Hid (ys.length = N) := by show _ = _; rw [hD.out.1]; exact hN.out
            by_cases hlt2 : k + 1 < N - (m + 1)
            · have hjx : m + 1 + (k + 1) < xs.length := by rw [hN.out]; omega
              obtain ⟨hy1, hy0⟩ := hD.out.at hjx
              obtain ⟨g1, e, hg1, gc1, hI2⟩ := vlM_row hM hy1
              cases e
              obtain ⟨g1, e, -, gc0, hI0⟩ := vlM_row hM hy0
              cases e
              have hsk := fun (h : (xs[m + 1 + (k + 1) - 1]'(by omega)) = xs[m + 1 + (k + 1)]) => hD.out.skip hjx h
              have hkp := fun (h : (xs[m + 1 + (k + 1) - 1]'(by omega)) ≠ xs[m + 1 + (k + 1)]) => hD.out.keep hjx h
              have hr3 := fun W => neqVl xs[m + 1 + (k + 1)] (xs[m + 1 + (k + 1) - 1]'(by omega)) W
              generalize xs[m + 1 + (k + 1)] = z1 at *
              generalize (xs[m + 1 + (k + 1) - 1]'(by omega)) = z0 at *
              obtain ⟨q, hq⟩ : ∃ q, (z1 == z0) = q := ⟨_, rfl⟩
              simp only [hq] at hr3
              replace hq := Lib.hid hq
              have gd1 : Hid (∀ j u, (valC z1)[j]? = some u → wr.cell? ⟨g, (m + 1) * 3 + (k + 1) * 3 + j, none⟩ = some u) := Lib.hid fun j u h => by
                have := gc1 j u h
                rwa [show (m + 1 + (k + 1)) * 3 + j = (m + 1) * 3 + (k + 1) * 3 + j by omega] at this
              have gd0 : Hid (∀ j u, (valC z0)[j]? = some u → wr.cell? ⟨g, (m + 1) * 3 + k * 3 + j, none⟩ = some u) := Lib.hid fun j u h => by
                have := gc0 j u h
                rwa [show (m + 1 + (k + 1) - 1) * 3 + j = (m + 1) * 3 + k * 3 + j by omega] at this
              replace hr3 := Lib.hid hr3
              replace hsk := Lib.hid hsk
              replace hkp := Lib.hid hkp
              replace hy1 := Lib.hid hy1
              have hja2 : decide (k + 1 < N - (m + 1)) = true := by simpa using hlt2
              have hwk : IntKind.i64.wrap (k : Int) = (k : Int) := by rw [IntKind.wrap_i64]; omega
              have hiN : i < N := by omega
              have hkN2 : k < N - (m + 1) := by omega
              clear gc1 gc0 hy0 hjx hI0
              go_upto_region 11 with (fail)
              (refine wp_region_I 10 (by kernel_rfl) (by kernel_rfl) ?_; simp only [List.toList_toArray, List.take_succ_cons, List.take_zero, List.drop_succ_cons, List.drop_zero])
              iterate 3 (refine walkI_is (u := ?_) rfl (by simp) rfl ?_ ?_; rotate_left; (focus (intro A w' hS hA K hK; (simp only [List.map_cons, List.map_nil, knows, Is, Op.operands, Call.operands, List.lookup_cons, List.lookup_nil, Nat.reduceBEq, Bool.false_eq_true, if_false, if_true, Act.eval, Array.getD_eq_getD_getElem?, List.getElem?_toArray, List.getElem?_cons_succ, List.getElem?_cons_zero, Option.getD_some, and_true, true_and, List.append_toArray, List.nil_append, List.cons_append, List.toList_toArray, Array.toList_append, Option.toArray, List.append_nil] at hA); first | fail | (obtain ⟨hSc, hSf, hSs⟩ := hS.cells; go_simp; exact hK _ (by first | exact Ext.rfl' _ | exact Ext.new _ _ | assumption)))); (try simp only [List.nil_append, List.cons_append]))
              (refine walkI_is (u := ?_) rfl (by simp) rfl ?_ ?_; rotate_left; (focus (intro A w' hS hA K hK; (simp only [List.map_cons, List.map_nil, knows, Is, Op.operands, Call.operands, List.lookup_cons, List.lookup_nil, Nat.reduceBEq, Bool.false_eq_true, if_false, if_true, Act.eval, Array.getD_eq_getD_getElem?, List.getElem?_toArray, List.getElem?_cons_succ, List.getElem?_cons_zero, Option.getD_some, and_true, true_and, List.append_toArray, List.nil_append, List.cons_append, List.toList_toArray, Array.toList_append, Option.toArray, List.append_nil] at hA); first | (refine oper_load_mid 46 (.tmp 37) rfl g ((m + 1) * 3 + (k + 1) * 3) (by simpa [Act.eval] using hA) (valC z1) _ (fun j u h => hS.cell1 (gd1.out j u h)) Tryz.underlying46 rfl (by kernel_rfl) ?_; exact hK _ (Ext.rfl' _)) | (obtain ⟨hSc, hSf, hSs⟩ := hS.cells; go_simp; exact hK _ (by first | exact Ext.rfl' _ | exact Ext.new _ _ | assumption)))); (try simp only [List.nil_append, List.cons_append]))
              iterate 4 (refine walkI_is (u := ?_) rfl (by simp) rfl ?_ ?_; rotate_left; (focus (intro A w' hS hA K hK; (simp only [List.map_cons, List.map_nil, knows, Is, Op.operands, Call.operands, List.lookup_cons, List.lookup_nil, Nat.reduceBEq, Bool.false_eq_true, if_false, if_true, Act.eval, Array.getD_eq_getD_getElem?, List.getElem?_toArray, List.getElem?_cons_succ, List.getElem?_cons_zero, Option.getD_some, and_true, true_and, List.append_toArray, List.nil_append, List.cons_append, List.toList_toArray, Array.toList_append, Option.toArray, List.append_nil] at hA); first | fail | (obtain ⟨hSc, hSf, hSs⟩ := hS.cells; go_simp; exact hK _ (by first | exact Ext.rfl' _ | exact Ext.new _ _ | assumption)))); (try simp only [List.nil_append, List.cons_append]))
              (refine walkI_is (u := ?_) rfl (by simp) rfl ?_ ?_; rotate_left; (focus (intro A w' hS hA K hK; (simp only [List.map_cons, List.map_nil, knows, Is, Op.operands, Call.operands, List.lookup_cons, List.lookup_nil, Nat.reduceBEq, Bool.false_eq_true, if_false, if_true, Act.eval, Array.getD_eq_getD_getElem?, List.getElem?_toArray, List.getElem?_cons_succ, List.getElem?_cons_zero, Option.getD_some, and_true, true_and, List.append_toArray, List.nil_append, List.cons_append, List.toList_toArray, Array.toList_append, Option.toArray, List.append_nil] at hA); first | (refine oper_load_mid 46 (.tmp 42) rfl g ((m + 1) * 3 + k * 3) (by simpa [Act.eval] using hA) (valC z0) _ (fun j u h => hS.cell1 (gd0.out j u h)) Tryz.underlying46 rfl (by kernel_rfl) ?_; exact hK _ (Ext.rfl' _)) | (obtain ⟨hSc, hSf, hSs⟩ := hS.cells; go_simp; exact hK _ (by first | exact Ext.rfl' _ | exact Ext.new _ _ | assumption)))); (try simp only [List.nil_append, List.cons_append]))
              (refine walkI_is (u := ?_) rfl (by simp) rfl ?_ ?_; rotate_left; (focus (intro A w' hS hA K hK; (simp only [List.map_cons, List.map_nil, knows, Is, Op.operands, Call.operands, List.lookup_cons, List.lookup_nil, Nat.reduceBEq, Bool.false_eq_true, if_false, if_true, Act.eval, Array.getD_eq_getD_getElem?, List.getElem?_toArray, List.getElem?_cons_succ, List.getElem?_cons_zero, Option.getD_some, and_true, true_and, List.append_toArray, List.nil_append, List.cons_append, List.toList_toArray, Array.toList_append, Option.toArray, List.append_nil] at hA); first | (obtain ⟨hA1, hA2⟩ := hA; refine oper_bin .neq 46 _ (.tmp 38) (.tmp 43) rfl (by simpa [Act.eval] using hA1) (by simpa [Act.eval] using hA2) (by kernel_rfl) (hr3.out w') ?_; exact hK _ (Ext.rfl' _)) | (obtain ⟨hSc, hSf, hSs⟩ := hS.cells; go_simp; exact hK _ (by first | exact Ext.rfl' _ | exact Ext.new _ _ | assumption)))); (try simp only [List.nil_append, List.cons_append]))
              (refine walkI_nil ?_; simp only [List.nil_append, List.cons_append, fins, Is, forall_eq, Act.put, List.setIfInBounds_toArray, List.set_cons_zero, List.set_cons_succ])
              intro w7 hx7
              have hM7 := hM.ext hx7
              cases q with
              | true =>
                have hday2 : z0 = z1 := by have := hq.out; rw [beq_iff_eq] at this; exact this.symm
                have hD2 := Lib.hid (hsk.out hday2)
                clear hday2 hsk hkp
                go_wp2_with fail
                go_roundw
                case rel => exact ⟨i, k + 1, ys, by go_num, by go_num, by omega, by omega, hD2, hM7⟩
                case measure => simp [intOf]; omega
              | false =>
                have hday2 : ¬ z0 = z1 := by have := hq.out; rw [beq_eq_false_iff_ne] at this; exact fun e => this e.symm
                have hD2 := Lib.hid (hkp.out hday2)
                have gd7 : Hid (∀ j u, (valC z1)[j]? = some u → w7.cell? ⟨g, (m + 1) * 3 + (k + 1) * 3 + j, none⟩ = some u) := Lib.hid fun j u h => hx7.cell1 (gd1.out j u h)
                have hiy : Hid (i < ys.length) := Lib.hid (by rw [hyl.out]; omega)
                have hia : decide (i < N) = true := by simpa using hiN
                clear hday2 hsk hkp gd1 gd0
                go_upto_region 12 with (fail)
                go_upto_region 13 with (first | (refine wpList_load_mid rfl 46 (.tmp 49) rfl g ((m + 1) * 3 + (k + 1) * 3) rfl (valC z1) _ gd7.out Tryz.underlying46 rfl (by kernel_rfl) ?_) | (refine wpList_store_M (xs := ys) (n := N) (cap := c) (g := g) rfl 46 (.tmp 51) _ rfl i rfl (cs := valC z1) rfl (x' := z1) hM7 0 rfl hiy.out hI2 rfl (one_valC z1) (by kernel_rfl) ?c5))
                case c5 =>
                  intro w5 hM5
                  try simp only [List.set_cons_zero] at hM5
                  have hkN4 : Hid (m + 1 + (k + 1 + 1) ≤ N) := Lib.hid (by omega)
                  have hik4 : Hid (i + 1 < m + 1 + (k + 1 + 1)) := Lib.hid (by omega)
                  replace hN2 := Lib.hid hN2
                  replace hkN := Lib.hid hkN
                  replace hmN := Lib.hid hmN
                  replace hm := Lib.hid hm
                  go_wp2_with fail
                  go_roundw
                  case rel => exact ⟨i + 1, k + 1, ys.set i z1, by go_num, by go_num, hkN4.out, hik4.out, hD2, hM5⟩
                  case measure => simp [intOf]; omega
            · have hja2 : decide (k + 1 < N - (m + 1)) = false := by simpa using hlt2
              have hkN3 : m + 1 + (k + 1) = N := by omega
              have hdn : Hid (ys.take i = vdd xs) := by
                have h := hD.out
                rw [hkN3, ← hN.out] at h
                exact Lib.hid h.done
              have hil : Hid (i ≤ ys.length) := Lib.hid (by rw [hyl.out]; omega)
              have hiN : i < N := by omega
              have hcap : N ≤ c := by
                obtain ⟨cur, -, -, h3, -⟩ := hM.cur 0 rfl
                rw [hyl.out] at h3; exact h3
              clear hD hkN3
              go_upto_region 14 with (fail)
              go_upto_region 15 with (refine wpList_clear_M (xs := ys) (n := N) (cap := c) (g := g) rfl (.tmp 56) 25 rfl i rfl Tryz.underlying25 zeroVl1 rfl (by kernel_rfl) hM 0 rfl hil.out ?d5)
              case d5 =>
                intro w5 hM5
                try simp only [List.set_cons_zero] at hM5
                rw [hdn.out] at hM5
                go_wp2_with fail
                go_ret
                exact ⟨_, rfl, hM5⟩
        | false =>
          have hday : ¬ x0 = x1 := by have := hqz.out; rw [beq_eq_false_iff_ne] at this; exact fun e => this e.symm
          have hD := Lib.hid (hgo.out hday)
          clear hday hcs hgo
          go_wp2_with fail
          go_roundw
          case rel => exact ⟨m + 1, by omega, by go_num, hD, hxr.then hx3⟩
          case measure => simp [intOf]; omega
      · have hja : decide (m + 1 < N) = false := by simpa using hlt
        have hdd : Hid (vdd xs = xs) := by
          show _ = _
          have h := hd.out
          rw [show m + 1 = N by omega, hall.out] at h
          exact h
        have hlti : ¬ ((m + 1 : Nat) : Int) < N := by omega
        go_wp2_with fail
        go_ret
        exact ⟨_, rfl, by rw [hdd.out]; exact hMr⟩
end Go.Proofs.YtnhcplmcddlgnaaGreat
namespace Go.Proofs.YtnhcplmcddlgnaaGreat
open Go.RowKit Go.Shelf
set_option linter.unusedSimpArgs false
set_option linter.unusedVariables false
/-- the value of a row of one cell -/
def v1 (cs : List Value) : Value := cs.headD undef
section
variable {P : Program} {ops : Array Oper} {Q : Exit → Act → World → Prop} {md : Region.Mode} {fuel : Nat} {listed : Array Bool} {a : Act} {w : World} {i : Nat} {o : Oper} {rs : List Nat}
end
section
variable {P : Program} {α : Type} {E : PH → List Value → α → Prop} {hm : Mono E} {T : TypeId} {w0 w : World} {H0 H : PH} {L : List Chunk} {xs : List α}
theorem oper_store_1 {o : Oper} {a : Act} {K : Act → World → Prop} {Q : Exit → Act → World → Prop} (ty : TypeId) (x y : Operand) (ho : o.op = .store ty x y)
    {g n cap : Nat} (k : Nat) (hx : a.eval x = .pointer (some ⟨g, k, none⟩)) {cs : List Value} (hy : a.eval y = v1 cs) {x' : α} (h : Mem w0 H0 L H w) (i : Nat) (hi : L[i]? = some (own hm 1 T (.slice (some ⟨g, 0, none⟩) n cap) xs)) (hk : k < xs.length)
    (hE : E H cs x') (hcs : cs.length = 1) (hone : ∀ u ∈ cs, u.oneCell' = true) (hinfo : (P.info? ty).map (·.size) = some 1)
    (hn : ∀ w', Mem w0 H0 (L.set i (own hm 1 T (.slice (some ⟨g, 0, none⟩) n cap) (xs.set k x'))) H w' → K (a.put o.dst undef) w') : o.wp P a w K Q := by
  obtain ⟨u, rfl⟩ := List.length_eq_one_iff.1 hcs
  have hu1 : u.oneCell' = true := hone u (by simp)
  have huc : u.cells = [u].toArray := by cases u <;> first | rfl | (simp [Value.oneCell'] at hu1)
  obtain ⟨cur, hg, hc1, hc2, rfl⟩ := h.cur i hi
  have hst := run_storeCells_at (P := P) g k T [u] 0 cur w hg (by simp; omega) hone
  simp only [Nat.add_zero] at hst
  have hv : (storeVar ty ⟨g, k, none⟩ u).run P w = .ok () (w.setRow g (cur.toList.take k ++ [u] ++ cur.toList.drop (k + 1)).toArray) := by
    cases hq : P.info? ty with
    | none => simp [hq] at hinfo
    | some j =>
      have hs : j.size = 1 := by simpa [hq] using hinfo
      simp only [List.length_singleton] at hst
      simp [storeVar, sizeOf, typeInfo, hq, huc, hs, hst]
  have hput := h.putRow i hi rfl k hk hE rfl hg
  rw [Nat.mul_one] at hput
  unfold Oper.wp execOp
  simp only [ho, hx, Instr.storeAt, Instr.sureAddr, Sem.run_bind, Sem.run_pure, Result.andThen_ok]
  rw [show a.eval y = u from hy, hv]
  exact hn _ hput
end
section
variable {P : Program} {ops : Array Oper} {Q : Exit → Act → World → Prop} {md : Region.Mode} {fuel : Nat} {listed : Array Bool} {a : Act} {w : World} {i : Nat} {o : Oper} {rs : List Nat}
end
end Go.Proofs.YtnhcplmcddlgnaaGreat
namespace Go.Proofs.YtnhcplmcddlgnaaGreat
open Go.RowKit Go.Shelf
set_option linter.unusedSimpArgs false
set_option linter.unusedVariables false
abbrev ownIn (v : Value) (xs : List Int) : Chunk := own mono_IntR 1 3 v xs
theorem inM_row {w0 W : World} {H0 H : PH} {LB : List Chunk} {oa : Option Addr} {N oc k : Nat} {xs : List Int} {x : Int} (hM : Mem w0 H0 (ownIn (.slice oa N oc) xs :: LB) H W) (hk : xs[k]? = some x) :
    ∃ g, oa = some ⟨g, 0, none⟩ ∧ g < W.heap.size ∧ W.cell? ⟨g, k, none⟩ = some (.int .i64 x) ∧ IntR H [.int .i64 x] x := by
  obtain ⟨g, cs, h1, -, h3, -, h5, h6⟩ := hM.row (i := 0) rfl hk
  obtain rfl : cs = [.int .i64 x] := h6.1
  exact ⟨g, h1, h3, by have := h5 0 _ rfl; rwa [Nat.mul_one, Nat.add_zero] at this, h6⟩
theorem wpList_store_i {P : Program} {T : TypeId} {w0 w : World} {H0 H : PH} {L : List Chunk} {xs : List Int} {ops : Array Oper} {rest : List Oper} {o : Oper} {a : Act} {Q : Exit → Act → World → Prop} (hgd : o.guard = none) (ty : TypeId) (x y : Operand) (ho : o.op = .store ty x y)
    {g n cap : Nat} (k : Nat) (hx : a.eval x = .pointer (some ⟨g, k, none⟩)) {z : Int} (hy : a.eval y = .int .i64 z) (h : Mem w0 H0 L H w) (i : Nat) (hi : L[i]? = some (own mono_IntR 1 T (.slice (some ⟨g, 0, none⟩) n cap) xs)) (hk : k < xs.length)
    (hE : IntR H [.int .i64 z] z) (hinfo : (P.info? ty).map (·.size) = some 1)
    (hn : ∀ w', Mem w0 H0 (L.set i (own mono_IntR 1 T (.slice (some ⟨g, 0, none⟩) n cap) (xs.set k z))) H w' → wpList P ops Q rest (a.put o.dst undef) w') : wpList P ops Q (o :: rest) a w :=
  wpList_plain hgd fun _ hK => oper_store_1 ty x y ho k hx (cs := [.int .i64 z]) hy h i hi hk hE rfl (by simp [Value.oneCell']) hinfo fun w' hM => hK _ _ (hn w' hM)
theorem wpList_clear_i {P : Program} {T : TypeId} {w0 w : World} {H0 H : PH} {L : List Chunk} {xs : List Int} {ops : Array Oper} {rest : List Oper} {o : Oper} {a : Act} {Q : Exit → Act → World → Prop} (hgd : o.guard = none) (s : Operand) (t : TypeId) (ho : o.op = .call { callee := .builtin .clear, args := #[s], argTypes := #[t] })
    {g n cap c : Nat} (k : Nat) (hs : a.eval s = .slice (some ⟨g, k, none⟩) (n - k) c) {z : Value} (ht : P.underlying t = some (.slice T)) (hz : ∀ w, (zeroValue T).run P w = .ok z w) (hzs : z.cells.size = 1) (hz1 : z.cells.all (·.oneCell') = true)
    (h : Mem w0 H0 L H w) (i : Nat) (hi : L[i]? = some (own mono_IntR 1 T (.slice (some ⟨g, 0, none⟩) n cap) xs)) (hk : k ≤ xs.length)
    (hn : ∀ w', Mem w0 H0 (L.set i (own mono_IntR 1 T (.slice (some ⟨g, 0, none⟩) k cap) (xs.take k))) H w' → wpList P ops Q rest (a.put o.dst (.tuple #[])) w') : wpList P ops Q (o :: rest) a w :=
  wpList_clear_M hgd s t ho k (by rw [hs, Nat.mul_one]) ht hz hzs hz1 h i hi hk hn
/-- an own slice of numbers came back -/
def OwnIP (w0 : World) (H0 : PH) (LB : List Chunk) (H : PH) (ys : List Int) (e : Ending) (w' : World) : Prop := ∃ v', e = .returned v' ∧ Mem w0 H0 (ownIn v' ys :: LB) H w'
theorem infoIn : (Tryz.prog.info? 3).map (fun i => (i.zero, i.size, i.bytes)) = some (some (.int .i64 0), 1, 8) := by kernel_rfl
theorem zeroIn1 (w : World) : (zeroValue 3).run Tryz.prog w = .ok (.int .i64 0) w := by
  obtain ⟨i, hi, hz0, hz1, hz2⟩ := info_parts infoIn
  simp [zeroValue, typeInfo, hi, hz0]
/-- of equal numbers that stand side by side the first; d: the one ahead -/
def iddP : Option Int → List Int → List Int
  | _, [] => []
  | d, x :: r => if d = some x then iddP (some x) r else x :: iddP (some x) r
def ilastD (d : Option Int) (l : List Int) : Option Int := match l.getLast? with | some x => some x | none => d
theorem ilastD_cons (d : Option Int) (x : Int) (l : List Int) : ilastD d (x :: l) = ilastD (some x) l := by
  unfold ilastD
  cases l with
  | nil => rfl
  | cons y r => rw [List.getLast?_cons_cons]; cases h : (y :: r).getLast? with
    | none => simp at h
    | some z => rfl
theorem iddP_snoc (x : Int) : ∀ (l : List Int) (d : Option Int), iddP d (l ++ [x]) = iddP d l ++ if ilastD d l = some x then [] else [x]
  | [], d => by
    show iddP d [x] = iddP d [] ++ _
    have e : ilastD d [] = d := rfl
    rw [e]
    by_cases h : d = some x
    · rw [if_pos h]; show (if d = some x then iddP (some x) [] else x :: iddP (some x) []) = _; rw [if_pos h]; rfl
    · rw [if_neg h]; show (if d = some x then iddP (some x) [] else x :: iddP (some x) []) = _; rw [if_neg h]; rfl
  | y :: r, d => by
    rw [List.cons_append, iddP, iddP, ilastD_cons, iddP_snoc x r]
    split
    · rfl
    · rfl
abbrev idd (l : List Int) : List Int := iddP none l
theorem idd_take {xs : List Int} {j : Nat} (hj : j < xs.length) (h0 : 0 < j) : idd (xs.take (j + 1)) = idd (xs.take j) ++ if (xs[j - 1]'(by omega)) = xs[j] then [] else [xs[j]] := by
  show iddP none _ = iddP none _ ++ _
  rw [List.take_add_one, List.getElem?_eq_getElem hj, Option.toList_some, iddP_snoc]
  congr 1
  have : ilastD none (xs.take j) = some (xs[j - 1]'(by omega)) := by
    unfold ilastD
    rw [List.getLast?_eq_getElem?, List.length_take, Nat.min_eq_left (by omega), List.getElem?_take_of_lt (by omega), List.getElem?_eq_getElem (by omega)]
  rw [this]
  simp only [Option.some.injEq]
/-- where the compaction is -/
def ICmpAt (xs ys : List Int) (i j : Nat) : Prop := ys.length = xs.length ∧ i < j ∧ j ≤ xs.length ∧ ys.take i = idd (xs.take j) ∧ ys.drop (j - 1) = xs.drop (j - 1)
theorem ICmpAt.at {xs ys : List Int} {i j : Nat} (h : ICmpAt xs ys i j) (hj : j < xs.length) : ys[j]? = some (xs[j]) ∧ ys[j - 1]? = some (xs[j - 1]'(by omega)) := by
  obtain ⟨h1, h2, -, -, h6⟩ := h
  have e0 := congrArg (fun l => l[0]?) h6
  have e1 := congrArg (fun l => l[1]?) h6
  simp only [List.getElem?_drop] at e0 e1
  rw [show j - 1 + 1 = j by omega] at e1
  rw [Nat.add_zero] at e0
  exact ⟨e1.trans (List.getElem?_eq_getElem hj), e0.trans (List.getElem?_eq_getElem (by omega))⟩
theorem ICmpAt.skip {xs ys : List Int} {i j : Nat} (h : ICmpAt xs ys i j) (hj : j < xs.length) (hp : (xs[j - 1]'(by omega)) = xs[j]) : ICmpAt xs ys i (j + 1) := by
  obtain ⟨h1, h2, h3, h4, h6⟩ := h
  refine ⟨h1, by omega, by omega, ?_, ?_⟩
  · rw [idd_take hj (by omega), if_pos hp, List.append_nil]; exact h4
  · have := congrArg (List.drop 1) h6
    rw [List.drop_drop, List.drop_drop] at this
    rw [show j + 1 - 1 = j - 1 + 1 by omega]; exact this
theorem ICmpAt.keep {xs ys : List Int} {i j : Nat} (h : ICmpAt xs ys i j) (hj : j < xs.length) (hp : (xs[j - 1]'(by omega)) ≠ xs[j]) : ICmpAt xs (ys.set i xs[j]) (i + 1) (j + 1) := by
  obtain ⟨h1, h2, h3, h4, h6⟩ := h
  refine ⟨by simpa using h1, by omega, by omega, ?_, ?_⟩
  · rw [idd_take hj (by omega), if_neg hp, ← h4, List.take_add_one, List.take_set_of_le (Nat.le_refl _), List.getElem?_set_self (by omega)]; rfl
  · have := congrArg (List.drop 1) h6
    rw [List.drop_drop, List.drop_drop, show j - 1 + 1 = j by omega] at this
    rw [show j + 1 - 1 = j by omega, List.drop_set_of_lt (by omega)]; exact this
theorem ICmpAt.start {xs : List Int} {i : Nat} (h0 : 0 < i) (hi : i < xs.length) (hd : idd (xs.take i) = xs.take i) (hp : (xs[i - 1]'(by omega)) = xs[i]) : ICmpAt xs xs i (i + 1) :=
  ⟨rfl, by omega, by omega, by rw [idd_take hi h0, if_pos hp, List.append_nil, hd], rfl⟩
theorem idd_go {xs : List Int} {i : Nat} (h0 : 0 < i) (hi : i < xs.length) (hd : idd (xs.take i) = xs.take i) (hp : (xs[i - 1]'(by omega)) ≠ xs[i]) : idd (xs.take (i + 1)) = xs.take (i + 1) := by
  rw [idd_take hi h0, if_neg hp, hd, List.take_add_one, List.getElem?_eq_getElem hi]; rfl
theorem ICmpAt.done {xs ys : List Int} {i : Nat} (h : ICmpAt xs ys i xs.length) : ys.take i = idd xs := by
  rw [h.2.2.2.1, List.take_length]
set_option maxRecDepth 100000 in
set_option maxHeartbeats 4000000 in
theorem compactIn_c (v : Value) (xs : List Int) (w0 w : World) (H0 H : PH) (LB : List Chunk) (hM : Mem w0 H0 (ownIn v xs :: LB) H w) (hlen : xs.length ≤ 1000000) :
    Calls Tryz.prog 38 #[v] w (OwnIP w0 H0 LB H (idd xs)) := by
  obtain ⟨a, c, rfl, -⟩ := hM.form 0 rfl
  by_cases h2 : xs.length < 2
  · have hd : Hid (idd xs = xs) := by
      show _ = _
      match xs, h2 with
      | [], _ => rfl
      | [x], _ => rfl
    have h2' : (xs.length : Int) < 2 := by omega
    go_enter Tryz.func38, Tryz.ntmps38
    go_wp2_with fail
    go_ret
    exact ⟨_, rfl, by rw [hd.out]; exact hM⟩
  · obtain ⟨N, hN⟩ : ∃ N, xs.length = N := ⟨_, rfl⟩
    have hN2 : 2 ≤ N := by omega
    have hN6 : N ≤ 1000000 := by omega
    have hst : Hid (idd (xs.take 1) = xs.take 1) := by
      show _ = _
      match xs with
      | [] => rfl
      | x :: r => rfl
    have hall : Hid (xs.take N = xs) := by show _ = _; rw [← hN, List.take_length]
    rw [hN] at hM
    simp only [hN]
    replace hN := Lib.hid hN
    clear h2 hlen
    go_enter Tryz.func38, Tryz.ntmps38
    go_wp2_with fail
    go_loopw [3] (fun vi wr => ∃ m : Nat, m + 1 ≤ N ∧ vi = .int .i64 ((m : Int) + 1) ∧ Hid (idd (xs.take (m + 1)) = xs.take (m + 1)) ∧ Ext w wr) (fun vi _ => N - (intOf vi).toNat)
    case atStart => exact ⟨0, by omega, rfl, hst, Ext.rfl' _⟩
    case round =>
      clear hst
      obtain ⟨m, hm, rfl, hd, hxr⟩ := hrel
      have hMr := hM.ext hxr
      by_cases hlt : m + 1 < N
      · have hlx : m + 1 < xs.length := by rw [hN.out]; exact hlt
        obtain ⟨g, rfl, hg, gc1, hI1⟩ := inM_row hMr (List.getElem?_eq_getElem hlx)
        obtain ⟨g', e, -, gc0, hI0⟩ := inM_row hMr (List.getElem?_eq_getElem (show m < xs.length by omega))
        cases e
        have hja : decide (m + 1 < N) = true := by simpa using hlt
        have hgo := fun (h : (xs[m]'(by omega)) ≠ xs[m + 1]) => idd_go (xs := xs) (i := m + 1) (Nat.succ_pos m) hlx hd.out h
        have hcs := fun (h : (xs[m]'(by omega)) = xs[m + 1]) => ICmpAt.start (xs := xs) (i := m + 1) (Nat.succ_pos m) hlx hd.out h
        generalize xs[m + 1] = x1 at *
        generalize xs[m] = x0 at *
        obtain ⟨qz, hqz⟩ : ∃ q, (x1 == x0) = q := ⟨_, rfl⟩
        replace hqz := Lib.hid hqz
        replace gc1 := Lib.hid gc1
        replace gc0 := Lib.hid gc0
        replace hgo := Lib.hid hgo
        replace hcs := Lib.hid hcs
        have hlti : ((m + 1 : Nat) : Int) < N := by omega
        have hmN : m < N := by omega
        clear hlx hI0 hI1




        have hwm : IntKind.i64.wrap ((m : Int) + 1 - 1) = (m : Int) := by rw [IntKind.wrap_i64]; omega
        have hwm3 : IntKind.i64.wrap (m : Int) = (m : Int) := by rw [IntKind.wrap_i64]; omega
        have hwm2 : IntKind.i64.wrap (((m + 1 : Nat) : Int) - 1) = (m : Int) := by rw [IntKind.wrap_i64]; omega
        go_upto_region 6 with (fail)
        (refine wp_region_I 10 (by kernel_rfl) (by kernel_rfl) ?_; simp only [List.toList_toArray, List.take_succ_cons, List.take_zero, List.drop_succ_cons, List.drop_zero])
        iterate 3 (refine walkI_is (u := ?_) rfl (by simp) rfl ?_ ?_; rotate_left; (focus (intro A w' hS hA K hK; (simp only [List.map_cons, List.map_nil, knows, Is, Op.operands, Call.operands, List.lookup_cons, List.lookup_nil, Nat.reduceBEq, Bool.false_eq_true, if_false, if_true, Act.eval, Array.getD_eq_getD_getElem?, List.getElem?_toArray, List.getElem?_cons_succ, List.getElem?_cons_zero, Option.getD_some, and_true, true_and, List.append_toArray, List.nil_append, List.cons_append, List.toList_toArray, Array.toList_append, Option.toArray, List.append_nil] at hA); first | fail | (obtain ⟨hSc, hSf, hSs⟩ := hS.cells; go_simp; exact hK _ (by first | exact Ext.rfl' _ | exact Ext.new _ _ | assumption)))); (try simp only [List.nil_append, List.cons_append]))
        (refine walkI_is (u := ?_) rfl (by simp) rfl ?_ ?_; rotate_left; (focus (intro A w' hS hA K hK; (simp only [List.map_cons, List.map_nil, knows, Is, Op.operands, Call.operands, List.lookup_cons, List.lookup_nil, Nat.reduceBEq, Bool.false_eq_true, if_false, if_true, Act.eval, Array.getD_eq_getD_getElem?, List.getElem?_toArray, List.getElem?_cons_succ, List.getElem?_cons_zero, Option.getD_some, and_true, true_and, List.append_toArray, List.nil_append, List.cons_append, List.toList_toArray, Array.toList_append, Option.toArray, List.append_nil] at hA); first | (have q1 := hS.cell1 gc1.out; have q2 := cell_lt q1; go_simp; exact hK _ (Ext.rfl' _)) | (obtain ⟨hSc, hSf, hSs⟩ := hS.cells; go_simp; exact hK _ (by first | exact Ext.rfl' _ | exact Ext.new _ _ | assumption)))); (try simp only [List.nil_append, List.cons_append]))
        iterate 4 (refine walkI_is (u := ?_) rfl (by simp) rfl ?_ ?_; rotate_left; (focus (intro A w' hS hA K hK; (simp only [List.map_cons, List.map_nil, knows, Is, Op.operands, Call.operands, List.lookup_cons, List.lookup_nil, Nat.reduceBEq, Bool.false_eq_true, if_false, if_true, Act.eval, Array.getD_eq_getD_getElem?, List.getElem?_toArray, List.getElem?_cons_succ, List.getElem?_cons_zero, Option.getD_some, and_true, true_and, List.append_toArray, List.nil_append, List.cons_append, List.toList_toArray, Array.toList_append, Option.toArray, List.append_nil] at hA); first | fail | (obtain ⟨hSc, hSf, hSs⟩ := hS.cells; go_simp; exact hK _ (by first | exact Ext.rfl' _ | exact Ext.new _ _ | assumption)))); (try simp only [List.nil_append, List.cons_append]))
        (refine walkI_is (u := ?_) rfl (by simp) rfl ?_ ?_; rotate_left; (focus (intro A w' hS hA K hK; (simp only [List.map_cons, List.map_nil, knows, Is, Op.operands, Call.operands, List.lookup_cons, List.lookup_nil, Nat.reduceBEq, Bool.false_eq_true, if_false, if_true, Act.eval, Array.getD_eq_getD_getElem?, List.getElem?_toArray, List.getElem?_cons_succ, List.getElem?_cons_zero, Option.getD_some, and_true, true_and, List.append_toArray, List.nil_append, List.cons_append, List.toList_toArray, Array.toList_append, Option.toArray, List.append_nil] at hA); first | (have q1 := hS.cell1 gc0.out; have q2 := cell_lt q1; go_simp; exact hK _ (Ext.rfl' _)) | (obtain ⟨hSc, hSf, hSs⟩ := hS.cells; go_simp; exact hK _ (by first | exact Ext.rfl' _ | exact Ext.new _ _ | assumption)))); (try simp only [List.nil_append, List.cons_append]))
        (refine walkI_is (u := ?_) rfl (by simp) rfl ?_ ?_; rotate_left; (focus (intro A w' hS hA K hK; (simp only [List.map_cons, List.map_nil, knows, Is, Op.operands, Call.operands, List.lookup_cons, List.lookup_nil, Nat.reduceBEq, Bool.false_eq_true, if_false, if_true, Act.eval, Array.getD_eq_getD_getElem?, List.getElem?_toArray, List.getElem?_cons_succ, List.getElem?_cons_zero, Option.getD_some, and_true, true_and, List.append_toArray, List.nil_append, List.cons_append, List.toList_toArray, Array.toList_append, Option.toArray, List.append_nil] at hA); first | (go_simp; exact hK _ (Ext.rfl' _)) | (obtain ⟨hSc, hSf, hSs⟩ := hS.cells; go_simp; exact hK _ (by first | exact Ext.rfl' _ | exact Ext.new _ _ | assumption)))); (try simp only [List.nil_append, List.cons_append]))
        (refine walkI_nil ?_; simp only [List.nil_append, List.cons_append, fins, Is, forall_eq, Act.put, List.setIfInBounds_toArray, List.set_cons_zero, List.set_cons_succ])
        intro w3 hx3
        rw [show (x1 == x0) = qz from hqz.out]
        cases qz with
        | true =>
          have hday : x0 = x1 := by have := hqz.out; rw [beq_iff_eq] at this; exact this.symm
          have hC := Lib.hid (hcs.out hday)
          have hM3 := hMr.ext hx3
          have hxl : Hid (m + 1 + 1 ≤ xs.length) := Lib.hid (by rw [hN.out]; omega)
          have hcap0 : N ≤ c := by
            obtain ⟨cur, -, -, h3, -⟩ := hM3.cur 0 rfl
            rw [hN.out] at h3; exact h3
          clear hday hcs hgo hd hall hMr gc0 gc1
          go_wp2_with fail
          have hlt' := Lib.hid hlt
          replace hlti := Lib.hid hlti
          replace hja := Lib.hid hja
          clear hlt
          generalize decide ((N : Int) < 2) = z10
          generalize decide ((m : Int) + 1 < (N : Int)) = z15
          generalize hv12 : Value.int IntKind.i64 ((m : Int) + 1) = v12
          replace hv12 := Lib.hid hv12
          go_loopw [3, 5] (fun vi vk wr2 => ∃ (i k : Nat) (ys : List Int), vi = .int .i64 (i : Int) ∧ vk = .int .i64 ((k : Int) + 1) ∧ m + 1 + (k + 1) ≤ N ∧ i < m + 1 + (k + 1) ∧ Hid (ICmpAt xs ys i (m + 1 + (k + 1))) ∧ Mem w0 H0 (ownIn (.slice (some ⟨g, 0, none⟩) N c) ys :: LB) H wr2) (fun _ vk _ => N - (intOf vk).toNat)
          case atStart => exact ⟨m + 1, 0, xs, by rw [← hv12.out]; go_num, by go_num, by omega, by omega, hC, hM3⟩
          case round =>
            clear hM3 hC
            obtain ⟨i, k, ys, rfl, rfl, hkN, hik, hD, hM⟩ := hrel
            have hyl : Hid (ys.length = N) := by show _ = _; rw [hD.out.1]; exact hN.out
            by_cases hlt2 : k + 1 < N - (m + 1)
            · have hjx : m + 1 + (k + 1) < xs.length := by rw [hN.out]; omega
              obtain ⟨hy1, hy0⟩ := hD.out.at hjx
              obtain ⟨g1, e, hg1, gc1, hI2⟩ := inM_row hM hy1
              cases e
              obtain ⟨g1, e, -, gc0, hI0⟩ := inM_row hM hy0
              cases e
              have hsk := fun (h : (xs[m + 1 + (k + 1) - 1]'(by omega)) = xs[m + 1 + (k + 1)]) => hD.out.skip hjx h
              have hkp := fun (h : (xs[m + 1 + (k + 1) - 1]'(by omega)) ≠ xs[m + 1 + (k + 1)]) => hD.out.keep hjx h
              generalize xs[m + 1 + (k + 1)] = z1 at *
              generalize (xs[m + 1 + (k + 1) - 1]'(by omega)) = z0 at *
              obtain ⟨q, hq⟩ : ∃ q, (z1 == z0) = q := ⟨_, rfl⟩
              replace hq := Lib.hid hq
              have gd1 : Hid (wr.cell? ⟨g, m + 1 + (k + 1), none⟩ = some (.int .i64 z1)) := Lib.hid gc1
              have gd0 : Hid (wr.cell? ⟨g, m + 1 + k, none⟩ = some (.int .i64 z0)) := Lib.hid (by rwa [show m + 1 + (k + 1) - 1 = m + 1 + k by omega] at gc0)
              replace hsk := Lib.hid hsk
              replace hkp := Lib.hid hkp
              replace hy1 := Lib.hid hy1
              have hja2 : decide (k + 1 < N - (m + 1)) = true := by simpa using hlt2
              have hwk : IntKind.i64.wrap (k : Int) = (k : Int) := by rw [IntKind.wrap_i64]; omega
              have hiN : i < N := by omega
              have hkN2 : k < N - (m + 1) := by omega
              clear gc1 gc0 hy0 hjx hI0
              go_upto_region 11 with (fail)
              (refine wp_region_I 10 (by kernel_rfl) (by kernel_rfl) ?_; simp only [List.toList_toArray, List.take_succ_cons, List.take_zero, List.drop_succ_cons, List.drop_zero])
              iterate 3 (refine walkI_is (u := ?_) rfl (by simp) rfl ?_ ?_; rotate_left; (focus (intro A w' hS hA K hK; (simp only [List.map_cons, List.map_nil, knows, Is, Op.operands, Call.operands, List.lookup_cons, List.lookup_nil, Nat.reduceBEq, Bool.false_eq_true, if_false, if_true, Act.eval, Array.getD_eq_getD_getElem?, List.getElem?_toArray, List.getElem?_cons_succ, List.getElem?_cons_zero, Option.getD_some, and_true, true_and, List.append_toArray, List.nil_append, List.cons_append, List.toList_toArray, Array.toList_append, Option.toArray, List.append_nil] at hA); first | fail | (obtain ⟨hSc, hSf, hSs⟩ := hS.cells; go_simp; exact hK _ (by first | exact Ext.rfl' _ | exact Ext.new _ _ | assumption)))); (try simp only [List.nil_append, List.cons_append]))
              (refine walkI_is (u := ?_) rfl (by simp) rfl ?_ ?_; rotate_left; (focus (intro A w' hS hA K hK; (simp only [List.map_cons, List.map_nil, knows, Is, Op.operands, Call.operands, List.lookup_cons, List.lookup_nil, Nat.reduceBEq, Bool.false_eq_true, if_false, if_true, Act.eval, Array.getD_eq_getD_getElem?, List.getElem?_toArray, List.getElem?_cons_succ, List.getElem?_cons_zero, Option.getD_some, and_true, true_and, List.append_toArray, List.nil_append, List.cons_append, List.toList_toArray, Array.toList_append, Option.toArray, List.append_nil] at hA); first | (have q1 := hS.cell1 gd1.out; have q2 := cell_lt q1; go_simp; exact hK _ (Ext.rfl' _)) | (obtain ⟨hSc, hSf, hSs⟩ := hS.cells; go_simp; exact hK _ (by first | exact Ext.rfl' _ | exact Ext.new _ _ | assumption)))); (try simp only [List.nil_append, List.cons_append]))
              iterate 4 (refine walkI_is (u := ?_) rfl (by simp) rfl ?_ ?_; rotate_left; (focus (intro A w' hS hA K hK; (simp only [List.map_cons, List.map_nil, knows, Is, Op.operands, Call.operands, List.lookup_cons, List.lookup_nil, Nat.reduceBEq, Bool.false_eq_true, if_false, if_true, Act.eval, Array.getD_eq_getD_getElem?, List.getElem?_toArray, List.getElem?_cons_succ, List.getElem?_cons_zero, Option.getD_some, and_true, true_and, List.append_toArray, List.nil_append, List.cons_append, List.toList_toArray, Array.toList_append, Option.toArray, List.append_nil] at hA); first | fail | (obtain ⟨hSc, hSf, hSs⟩ := hS.cells; go_simp; exact hK _ (by first | exact Ext.rfl' _ | exact Ext.new _ _ | assumption)))); (try simp only [List.nil_append, List.cons_append]))
              (refine walkI_is (u := ?_) rfl (by simp) rfl ?_ ?_; rotate_left; (focus (intro A w' hS hA K hK; (simp only [List.map_cons, List.map_nil, knows, Is, Op.operands, Call.operands, List.lookup_cons, List.lookup_nil, Nat.reduceBEq, Bool.false_eq_true, if_false, if_true, Act.eval, Array.getD_eq_getD_getElem?, List.getElem?_toArray, List.getElem?_cons_succ, List.getElem?_cons_zero, Option.getD_some, and_true, true_and, List.append_toArray, List.nil_append, List.cons_append, List.toList_toArray, Array.toList_append, Option.toArray, List.append_nil] at hA); first | (have q1 := hS.cell1 gd0.out; have q2 := cell_lt q1; go_simp; exact hK _ (Ext.rfl' _)) | (obtain ⟨hSc, hSf, hSs⟩ := hS.cells; go_simp; exact hK _ (by first | exact Ext.rfl' _ | exact Ext.new _ _ | assumption)))); (try simp only [List.nil_append, List.cons_append]))
              (refine walkI_is (u := ?_) rfl (by simp) rfl ?_ ?_; rotate_left; (focus (intro A w' hS hA K hK; (simp only [List.map_cons, List.map_nil, knows, Is, Op.operands, Call.operands, List.lookup_cons, List.lookup_nil, Nat.reduceBEq, Bool.false_eq_true, if_false, if_true, Act.eval, Array.getD_eq_getD_getElem?, List.getElem?_toArray, List.getElem?_cons_succ, List.getElem?_cons_zero, Option.getD_some, and_true, true_and, List.append_toArray, List.nil_append, List.cons_append, List.toList_toArray, Array.toList_append, Option.toArray, List.append_nil] at hA); first | (go_simp; exact hK _ (Ext.rfl' _)) | (obtain ⟨hSc, hSf, hSs⟩ := hS.cells; go_simp; exact hK _ (by first | exact Ext.rfl' _ | exact Ext.new _ _ | assumption)))); (try simp only [List.nil_append, List.cons_append]))
              (refine walkI_nil ?_; simp only [List.nil_append, List.cons_append, fins, Is, forall_eq, Act.put, List.setIfInBounds_toArray, List.set_cons_zero, List.set_cons_succ])
              intro w7 hx7
              have hM7 := hM.ext hx7
              first | rw [show (z1 != z0) = !q from by rw [bne, hq.out]] | rw [show (z1 == z0) = q from hq.out]
              cases q with
              | true =>
                have hday2 : z0 = z1 := by have := hq.out; rw [beq_iff_eq] at this; exact this.symm
                have hD2 := Lib.hid (hsk.out hday2)
                clear hday2 hsk hkp
                go_wp2_with fail
                go_roundw
                case rel => exact ⟨i, k + 1, ys, by go_num, by go_num, by omega, by omega, hD2, hM7⟩
                case measure => simp [intOf]; omega
              | false =>
                have hday2 : ¬ z0 = z1 := by have := hq.out; rw [beq_eq_false_iff_ne] at this; exact fun e => this e.symm
                have hD2 := Lib.hid (hkp.out hday2)
                have gd7 : Hid (w7.cell? ⟨g, m + 1 + (k + 1), none⟩ = some (.int .i64 z1)) := Lib.hid (hx7.cell1 gd1.out)
                have hiy : Hid (i < ys.length) := Lib.hid (by rw [hyl.out]; omega)
                have hia : decide (i < N) = true := by simpa using hiN
                clear hday2 hsk hkp gd1 gd0
                go_upto_region 12 with (fail)
                have gd8 := gd7.out
                have gl8 := cell_lt gd8
                go_upto_region 13 with (refine wpList_store_i (xs := ys) (n := N) (cap := c) (g := g) rfl 3 (.tmp 51) _ rfl i rfl (z := z1) rfl hM7 0 rfl hiy.out hI2 (by kernel_rfl) ?c5)
                case c5 =>
                  intro w5 hM5
                  try simp only [List.set_cons_zero] at hM5
                  have hkN4 : Hid (m + 1 + (k + 1 + 1) ≤ N) := Lib.hid (by omega)
                  have hik4 : Hid (i + 1 < m + 1 + (k + 1 + 1)) := Lib.hid (by omega)
                  replace hN2 := Lib.hid hN2
                  replace hkN := Lib.hid hkN
                  replace hmN := Lib.hid hmN
                  replace hm := Lib.hid hm
                  go_wp2_with fail
                  go_roundw
                  case rel => exact ⟨i + 1, k + 1, ys.set i z1, by go_num, by go_num, hkN4.out, hik4.out, hD2, hM5⟩
                  case measure => simp [intOf]; omega
            · have hja2 : decide (k + 1 < N - (m + 1)) = false := by simpa using hlt2
              have hkN3 : m + 1 + (k + 1) = N := by omega
              have hdn : Hid (ys.take i = idd xs) := by
                have h := hD.out
                rw [hkN3, ← hN.out] at h
                exact Lib.hid h.done
              have hil : Hid (i ≤ ys.length) := Lib.hid (by rw [hyl.out]; omega)
              have hiN : i < N := by omega
              have hcap : N ≤ c := by
                obtain ⟨cur, -, -, h3, -⟩ := hM.cur 0 rfl
                rw [hyl.out] at h3; exact h3
              clear hD hkN3
              go_upto_region 14 with (fail)
              go_upto_region 15 with (refine wpList_clear_i (xs := ys) (n := N) (cap := c) (g := g) rfl (.tmp 56) 22 rfl i rfl Tryz.underlying22 zeroIn1 rfl (by kernel_rfl) hM 0 rfl hil.out ?d5)
              case d5 =>
                intro w5 hM5
                try simp only [List.set_cons_zero] at hM5
                rw [hdn.out] at hM5
                go_wp2_with fail
                go_ret
                exact ⟨_, rfl, hM5⟩
        | false =>
          have hday : ¬ x0 = x1 := by have := hqz.out; rw [beq_eq_false_iff_ne] at this; exact fun e => this e.symm
          have hD := Lib.hid (hgo.out hday)
          clear hday hcs hgo
          go_wp2_with fail
          go_roundw
          case rel => exact ⟨m + 1, by omega, by go_num, hD, hxr.then hx3⟩
          case measure => simp [intOf]; omega
      · have hja : decide (m + 1 < N) = false := by simpa using hlt
        have hdd : Hid (idd xs = xs) := by
          show _ = _
          have h := hd.out
          rw [show m + 1 = N by omega, hall.out] at h
          exact h
        have hlti : ¬ ((m + 1 : Nat) : Int) < N := by omega
        go_wp2_with fail
        go_ret
        exact ⟨_, rfl, by rw [hdd.out]; exact hMr⟩
end Go.Proofs.YtnhcplmcddlgnaaGreat
namespace Go.Proofs.YtnhcplmcddlgnaaGreat
set_option linter.unusedSimpArgs false
set_option linter.unusedVariables false
theorem iddP_law : ∀ (l : List Int) (d : Option Int), l.Pairwise (fun x y => x ≤ y) → (∀ y, d = some y → ∀ x ∈ l, y ≤ x) →
    (iddP d l).Pairwise (fun x y => x < y) ∧ (∀ x ∈ iddP d l, x ∈ l ∧ ∀ y, d = some y → y < x) ∧ ∀ x ∈ l, x ∈ iddP d l ∨ d = some x
  | [], d, _, _ => ⟨List.Pairwise.nil, fun x (hx : x ∈ []) => (by cases hx), fun x (hx : x ∈ []) => (by cases hx)⟩
  | z :: l, d, hp, hd => by
    obtain ⟨hp1, hp2⟩ := List.pairwise_cons.1 hp
    obtain ⟨i1, i2, i3⟩ := iddP_law l (some z) hp2 (fun y hy x hx => by cases hy; exact hp1 x hx)
    rw [iddP]
    split
    · rename_i h
      refine ⟨i1, fun x hx => ⟨by simp [(i2 x hx).1], fun y hy => ?_⟩, fun x hx => ?_⟩
      · rw [h] at hy; exact (i2 x hx).2 y hy
      · rcases List.mem_cons.1 hx with rfl | hx
        · exact .inr h
        · rcases i3 x hx with h3 | h3
          · exact .inl h3
          · exact .inr (h.trans h3)
    · rename_i h
      have hlt : ∀ y, d = some y → y < z := fun y hy => by
        have h1 := hd y hy z (by simp)
        have h2 : y ≠ z := fun e => h (by rw [hy, e])
        omega
      refine ⟨List.pairwise_cons.2 ⟨fun x hx => (i2 x hx).2 z rfl, i1⟩, fun x hx => ?_, fun x hx => ?_⟩
      · rcases List.mem_cons.1 hx with rfl | hx
        · exact ⟨by simp, hlt⟩
        · exact ⟨by simp [(i2 x hx).1], fun y hy => by have := hlt y hy; have := hp1 x (i2 x hx).1; omega⟩
      · rcases List.mem_cons.1 hx with rfl | hx
        · exact .inl (by simp)
        · rcases i3 x hx with h3 | h3
          · exact .inl (by simp [h3])
          · cases h3; exact .inl (by simp)
/-- the classes sorted, each once -/
theorem idd_cls {l m : List Int} (hm : m.Perm l) (hp : m.Pairwise (fun x y => x ≤ y)) : idd m = clsN l := by
  obtain ⟨h1, h2, h3⟩ := iddP_law m none hp (fun y hy => by cases hy)
  refine clsN_of h1 fun x => ?_
  rw [← hm.mem_iff]
  exact ⟨fun hx => (h2 x hx).1, fun hx => (h3 x hx).resolve_right (by simp)⟩
theorem vddP_law : ∀ (l : List Val) (d : Option Val), l.Pairwise (fun x y : Val => cmpV x y ≤ 0) → (∀ y, d = some y → ∀ x ∈ l, cmpV y x ≤ 0) →
    (vddP d l).Pairwise (fun x y : Val => cmpV x y < 0) ∧ (∀ x ∈ vddP d l, x ∈ l ∧ ∀ y, d = some y → cmpV y x < 0) ∧ ∀ x ∈ l, x ∈ vddP d l ∨ d = some x
  | [], d, _, _ => ⟨List.Pairwise.nil, fun x (hx : x ∈ []) => (by cases hx), fun x (hx : x ∈ []) => (by cases hx)⟩
  | z :: l, d, hp, hd => by
    obtain ⟨hp1, hp2⟩ := List.pairwise_cons.1 hp
    obtain ⟨i1, i2, i3⟩ := vddP_law l (some z) hp2 (fun y hy x hx => by cases hy; exact hp1 x hx)
    rw [vddP]
    split
    · rename_i h
      refine ⟨i1, fun x hx => ⟨by simp [(i2 x hx).1], fun y hy => ?_⟩, fun x hx => ?_⟩
      · rw [h] at hy; exact (i2 x hx).2 y hy
      · rcases List.mem_cons.1 hx with rfl | hx
        · exact .inr h
        · rcases i3 x hx with h3 | h3
          · exact .inl h3
          · exact .inr (h.trans h3)
    · rename_i h
      have hlt : ∀ y, d = some y → cmpV y z < 0 := fun y hy => by
        have h1 := hd y hy z (by simp)
        have h2 : cmpV y z ≠ 0 := fun e => h (by rw [hy, ((cmpV_ord y).eq z).1 e])
        omega
      refine ⟨List.pairwise_cons.2 ⟨fun x hx => (i2 x hx).2 z rfl, i1⟩, fun x hx => ?_, fun x hx => ?_⟩
      · rcases List.mem_cons.1 hx with rfl | hx
        · exact ⟨by simp, hlt⟩
        · refine ⟨by simp [(i2 x hx).1], fun y hy => ?_⟩
          have a1 := hlt y hy
          have a2 := hp1 x (i2 x hx).1
          have a3 := (cmpV_ord y).tr z x (by omega) a2
          rcases Int.lt_or_eq_of_le a3 with h | h
          · exact h
          · have e := ((cmpV_ord y).eq x).1 h
            subst e
            have := (cmpV_ord y).opp z
            omega
      · rcases List.mem_cons.1 hx with rfl | hx
        · exact .inl (by simp)
        · rcases i3 x hx with h3 | h3
          · exact .inl (by simp [h3])
          · cases h3; exact .inl (by simp)
theorem cmpV_attr {x y : Val} (h : cmpV x y < 0) : x.attr ≤ y.attr := by
  unfold cmpV cmpL cmpI at h
  by_cases h1 : x.attr < y.attr
  · omega
  · by_cases h2 : y.attr < x.attr
    · rw [if_neg h1, if_pos h2] at h
      simp at h
    · omega
/-- neighbours tell whether each attribute has one value -/
theorem vals_adj {l K : List Val} (hmem : ∀ z, z ∈ K ↔ z ∈ l) (hpw : K.Pairwise (fun x y : Val => cmpV x y < 0)) :
    ((∀ i (h : i + 1 < K.length), (K[i]'(by omega)).attr ≠ (K[i + 1]).attr) → valsN l = some K) ∧
      ((∃ i, ∃ h : i + 1 < K.length, (K[i]'(by omega)).attr = (K[i + 1]).attr) → valsN l = none) := by
  have hat := List.pairwise_iff_getElem.1 hpw
  refine ⟨fun hn => valsN_of ?_ hmem, fun ⟨i, hi, he⟩ => valsN_no fun ho => ?_⟩
  · unfold AscV
    rw [List.pairwise_iff_getElem]
    intro i j hi hj hij
    have a1 := cmpV_attr (hat i (i + 1) (by omega) (by omega) (by omega))
    have a2 := hn i (by omega)
    rcases Nat.lt_or_ge (i + 1) j with h | h
    · have a3 := cmpV_attr (hat (i + 1) j (by omega) hj h); omega
    · obtain rfl : j = i + 1 := by omega
      omega
  · have e := ho _ ((hmem _).1 (List.getElem_mem (show i < K.length by omega))) _ ((hmem _).1 (List.getElem_mem hi)) he
    have := hat i (i + 1) (by omega) hi (by omega)
    rw [e, ((cmpV_ord _).eq _).2 rfl] at this
    omega
/-- the values sorted, each once -/
theorem vdd_vals {l m : List Val} (hm : m.Perm l) (hp : m.Pairwise (fun x y : Val => cmpV x y ≤ 0)) : (∀ z, z ∈ vdd m ↔ z ∈ l) ∧ (vdd m).Pairwise (fun x y : Val => cmpV x y < 0) := by
  obtain ⟨h1, h2, h3⟩ := vddP_law m none hp (fun y hy => by cases hy)
  refine ⟨fun z => ?_, h1⟩
  rw [← hm.mem_iff]
  exact ⟨fun hx => (h2 z hx).1, fun hx => (h3 z hx).resolve_right (by simp)⟩
end Go.Proofs.YtnhcplmcddlgnaaGreat
namespace Go.Proofs.YtnhcplmcddlgnaaGreat
open Go.RowKit Go.Shelf
set_option linter.unusedSimpArgs false
set_option linter.unusedVariables false
theorem one_VlR {h : PH} : ∀ cs x, ValR h cs x → ∀ u ∈ cs, u.oneCell' = true := by
  rintro cs x ⟨rfl, -⟩
  exact one_valC x
theorem cloneN_c (xs : List Int) (v : Value) (w : World) (hr : IntsR (ph w) v xs) (hl : xs.length ≤ 1000000) : Calls Tryz.prog 35 #[v] w (fun e w' => ∃ v', e = .returned v' ∧ OwnS w.heap.size noH w' IntR 1 3 v' xs ∧ Ext w w') := by
  obtain ⟨a, c, rfl, -, hA⟩ := hr.form
  have hq := fun w => Lib.run_eql_slice_nil (P := Tryz.prog) w 22 3 a xs.length c 0 0 Tryz.underlying22
  cases a with
  | none =>
    have hx : xs = [] := by
      cases xs with
      | nil => rfl
      | cons x r =>
        obtain ⟨b, o, h, -⟩ := IntsR.at hA 0 (by simp)
        cases h
    subst hx
    simp only [List.length_nil, Option.isNone_none] at hq ⊢
    go_enter Tryz.func35, Tryz.ntmps35
    go_wp2_with fail
    go_ret
    exact ⟨_, rfl, OwnS.nil _ _ _ _ _ _, (by with_reducible repeat (first | assumption | exact Ext.rfl' _ | exact Ext.new _ _ | refine Ext.alloc' ?_ _ | refine Ext.drew' ?_ | refine Ext.drewN' ?_ _ | (refine Ext.set' ?_ ?_ _; rotate_left; focus (first | omega | (simp; done) | (simp; omega))) | (refine Ext.then (b := ?_) ?_ ?_; rotate_left; rotate_left; assumption)))⟩
  | some ad =>
    have hM0 := ((Mem.start w noH (noH_le _)).new #[] 3).asOwn (xs := ([] : List Int)) (E := IntR) (sz := 1) 0 rfl mono_IntR (n := 0) (by simp) (by decide) rfl rfl
    simp only [List.nil_append, List.set_cons_zero] at hM0
    have hS := (Src.ofRep (w := w.alloc (.cells #[] 3)) (hA.mono mono_IntR (Ext.new _ _).ple) (PLe.refl _)).free (H' := noH) fun _ _ h => h
    clear hA
    simp only [Option.isNone_some] at hq
    go_enter Tryz.func35, Tryz.ntmps35
    go_wp2_with (first | (at_builtin; refine wpList_append_M 0 rfl _ _ 22 rfl Tryz.underlying22 infoIn rfl rfl rfl hM0 rfl hS one_IntR (by simp; omega) (by simp; omega) ?c5))
    case c5 =>
      intro v' w' hM
      try simp only [List.nil_append, List.set_cons_zero] at hM
      obtain ⟨na, nc, rfl, -⟩ := hM.form 0 rfl
      go_wp2_with fail
      go_ret
      exact ⟨_, rfl, hM.ownS 0 rfl, hM.ex⟩
theorem cloneV_c (xs : List Val) (v : Value) (w : World) (hr : ValsR (ph w) v xs) (hl : xs.length ≤ 1000000) : Calls Tryz.prog 36 #[v] w (fun e w' => ∃ v', e = .returned v' ∧ OwnS w.heap.size noH w' ValR 3 46 v' xs ∧ Ext w w') := by
  obtain ⟨a, c, rfl, -, hA⟩ := hr.form
  have hq := fun w => Lib.run_eql_slice_nil (P := Tryz.prog) w 25 46 a xs.length c 0 0 Tryz.underlying25
  cases a with
  | none =>
    have hx : xs = [] := by
      cases xs with
      | nil => rfl
      | cons x r =>
        obtain ⟨b, o, h, -⟩ := ValsR.at hA 0 (by simp)
        cases h
    subst hx
    simp only [List.length_nil, Option.isNone_none] at hq ⊢
    go_enter Tryz.func36, Tryz.ntmps36
    go_wp2_with fail
    go_ret
    exact ⟨_, rfl, OwnS.nil _ _ _ _ _ _, (by with_reducible repeat (first | assumption | exact Ext.rfl' _ | exact Ext.new _ _ | refine Ext.alloc' ?_ _ | refine Ext.drew' ?_ | refine Ext.drewN' ?_ _ | (refine Ext.set' ?_ ?_ _; rotate_left; focus (first | omega | (simp; done) | (simp; omega))) | (refine Ext.then (b := ?_) ?_ ?_; rotate_left; rotate_left; assumption)))⟩
  | some ad =>
    have hM0 := ((Mem.start w noH (noH_le _)).new #[] 46).asOwn (xs := ([] : List Val)) (E := ValR) (sz := 3) 0 rfl mono_ValR (n := 0) (by simp) (by decide) rfl rfl
    simp only [List.nil_append, List.set_cons_zero] at hM0
    have hS := (Src.ofRep (w := w.alloc (.cells #[] 46)) (hA.mono mono_ValR (Ext.new _ _).ple) (PLe.refl _)).free (H' := noH) fun _ _ h => h
    clear hA
    simp only [Option.isNone_some] at hq
    go_enter Tryz.func36, Tryz.ntmps36
    go_wp2_with (first | (at_builtin; refine wpList_append_M 0 rfl _ _ 25 rfl Tryz.underlying25 infoVl rfl rfl rfl hM0 rfl hS one_VlR (by simp; omega) (by simp; omega) ?c5))
    case c5 =>
      intro v' w' hM
      try simp only [List.nil_append, List.set_cons_zero] at hM
      obtain ⟨na, nc, rfl, -⟩ := hM.form 0 rfl
      go_wp2_with fail
      go_ret
      exact ⟨_, rfl, hM.ownS 0 rfl, hM.ex⟩
end Go.Proofs.YtnhcplmcddlgnaaGreat
