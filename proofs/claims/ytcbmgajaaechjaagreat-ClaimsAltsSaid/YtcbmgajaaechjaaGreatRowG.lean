/- rows of several cells: read out of the middle of a block, written whole, cleared. -/
import Derived.Laws.Rows
import Derived.Laws.CopyRow
import Derived.Lib.SliceRun
import Derived.Test.YtcbmgajaaechjaaGreatMemA
namespace Go.Proofs.YtcbmgajaaechjaaGreat
open Go.RowKit Go.Shelf
set_option linter.unusedSimpArgs false
set_option linter.unusedVariables false
/-- a row read out of the middle of a block -/
theorem wpList_load_mid {P : Program} {ops : Array Oper} {rest : List Oper} {o : Oper} {a : Act} {w : World} {Q : Exit → Act → World → Prop} (hgd : o.guard = none) (ty : TypeId) (x : Operand) (ho : o.op = .load ty x)
    (b m : Nat) (hx : a.eval x = .pointer (some ⟨b, m, none⟩)) (cs : List Value) (d : TypeDesc) (hc : ∀ j u, cs[j]? = some u → w.cell? ⟨b, m + j, none⟩ = some u)
    (hu : P.underlying ty = some d) (hd : (match d with | .struct _ | .array _ _ => true | _ => false) = true) (hi : (P.info? ty).map (·.size) = some cs.length)
    (h : wpList P ops Q rest (a.put o.dst (.agg cs.toArray)) w) : wpList P ops Q (o :: rest) a w := by
  refine wpList_plain hgd fun _ hK => ?_
  have hl : (loadCells ⟨b, m, none⟩ cs.length).run P w = .ok cs.toArray w :=
    run_loadCells_list (P := P) w ⟨b, m, none⟩ cs (fun j v hv => by rw [addo]; exact hc j v hv)
  have hv : (loadVar ty ⟨b, m, none⟩).run P w = .ok (.agg cs.toArray) w := by
    cases hq : P.info? ty with
    | none => simp [hq] at hi
    | some i =>
      have hs : i.size = cs.length := by simpa [hq] using hi
      have hagg : (isAgg ty).run P w = .ok true w := by
        unfold isAgg
        rw [Sem.run_bind, run_underlying hu w]
        cases d <;> simp_all
      simp [loadVar, Sem.run_bind, hagg, sizeOf, typeInfo, hq, hs, hl]
  unfold Oper.wp execOp
  simp only [ho, hx, Instr.loadAt, Instr.sureAddr, Sem.run_bind, Sem.run_pure, Result.andThen_ok, hv]
  exact hK _ _ h
theorem setRow_alloc (w : World) (c c' : Array Value) (T : TypeId) : (w.alloc (.cells c T)).setRow w.heap.size c' = w.alloc (.cells c' T) := by
  have h : (w.heap.push (Obj.cells c T)).modify w.heap.size (fun | .cells _ elem frozen => .cells c' elem frozen | o => o) = w.heap.push (Obj.cells c' T) := by
    apply Array.ext
    · simp
    · intro i h1 h2
      rw [Array.getElem_modify]
      by_cases e : w.heap.size = i
      · subst e; simp
      · rw [if_neg e]
        have hi : i < w.heap.size := by simp at h2; omega
        simp [Array.getElem_push, hi]
  unfold World.setRow World.alloc
  exact congrArg (fun hp => { w with heap := hp }) h
/-- a row written into the block made last -/
theorem wpList_store_new {P : Program} {ops : Array Oper} {rest : List Oper} {o : Oper} {a : Act} {w : World} {Q : Exit → Act → World → Prop} (hgd : o.guard = none) (ty : TypeId) (x y : Operand) (ho : o.op = .store ty x y)
    (cells : Array Value) (hx : a.eval x = .pointer (some ⟨w.heap.size, 0, none⟩)) (hy : a.eval y = .agg cells)
    (t : TypeId) (old : Array Value) (hi : (P.info? ty).map (·.size) = some cells.size)
    (hold : old.size = cells.size) (h1 : cells.all (·.oneCell') = true)
    (h : wpList P ops Q rest (a.put o.dst undef) (w.alloc (.cells cells t))) : wpList P ops Q (o :: rest) a (w.alloc (.cells old t)) := by
  refine wpList_store_row hgd ty x y ho w.heap.size cells hx hy t old (heap_alloc_new w _) hi hold h1 ?_
  rw [setRow_alloc]; exact h
theorem oper_load_mid {P : Program} {o : Oper} {a : Act} {w : World} {K : Act → World → Prop} {Q : Exit → Act → World → Prop} (ty : TypeId) (x : Operand) (ho : o.op = .load ty x)
    (b m : Nat) (hx : a.eval x = .pointer (some ⟨b, m, none⟩)) (cs : List Value) (d : TypeDesc) (hc : ∀ j u, cs[j]? = some u → w.cell? ⟨b, m + j, none⟩ = some u)
    (hu : P.underlying ty = some d) (hd : (match d with | .struct _ | .array _ _ => true | _ => false) = true) (hi : (P.info? ty).map (·.size) = some cs.length)
    (h : K (a.put o.dst (.agg cs.toArray)) w) : o.wp P a w K Q := by
  have hl : (loadCells ⟨b, m, none⟩ cs.length).run P w = .ok cs.toArray w :=
    run_loadCells_list (P := P) w ⟨b, m, none⟩ cs (fun j v hv => by rw [addo]; exact hc j v hv)
  have hv : (loadVar ty ⟨b, m, none⟩).run P w = .ok (.agg cs.toArray) w := by
    cases hq : P.info? ty with
    | none => simp [hq] at hi
    | some i =>
      have hs : i.size = cs.length := by simpa [hq] using hi
      have hagg : (isAgg ty).run P w = .ok true w := by
        unfold isAgg
        rw [Sem.run_bind, run_underlying hu w]
        cases d <;> simp_all
      simp [loadVar, Sem.run_bind, hagg, sizeOf, typeInfo, hq, hs, hl]
  unfold Oper.wp execOp
  simp only [ho, hx, Instr.loadAt, Instr.sureAddr, Sem.run_bind, Sem.run_pure, Result.andThen_ok, hv]
  exact h
theorem Src.free {α : Type} {E : PH → List Value → α → Prop} {sz : Nat} {H H' : PH} {w : World} {v : Value} {xs : List α} (h : Src w H E sz v xs) (hE : ∀ cs x, E H cs x → E H' cs x) : Src w H' E sz v xs := by
  obtain ⟨a, cap, h1, h2, h3⟩ := h
  refine ⟨a, cap, h1, h2, ?_⟩
  rcases h3 with h3 | ⟨ad, c, h3, h4, h5⟩
  · exact .inl h3
  · exact .inr ⟨ad, c, h3, h4.mono hE, h5⟩
theorem Mem.addO {α : Type} {E : PH → List Value → α → Prop} {hm : Mono E} {sz : Nat} {T : TypeId} {v : Value} {xs : List α} {w0 W W' : World} {L : List Chunk} (h : Mem w0 noH L noH W) (e : Ext W W') (ho : OwnS W.heap.size noH W' E sz T v xs) : Mem w0 noH (L ++ [own hm sz T v xs]) noH W' :=
  (h.ext e).add (own hm sz T v xs) ho.c (fun k hk => ⟨Nat.le_trans h.ex.size (ho.lt k hk).1, rfl, fun i d hi hd => by
    have := h.lt hi hd; have := (ho.lt k hk).1; omega⟩)
section
variable {α : Type} {E : PH → List Value → α → Prop} {hm : Mono E} {sz : Nat} {T : TypeId} {w0 w : World} {H0 H : PH} {L : List Chunk} {xs : List α}
theorem Cells.take {c : List Value} (h : Cells H E sz c xs) (k : Nat) : Cells H E sz (c.take (k * sz)) (xs.take k) := by
  induction xs generalizing c k with
  | nil =>
    have : c = [] := h
    subst this; simp; exact rfl
  | cons x xs ih =>
    obtain ⟨cs, rest, rfl, h1, h2, h3⟩ := h
    cases k with
    | zero => simp; exact rfl
    | succ k =>
      refine ⟨cs, rest.take (k * sz), ?_, h1, h2, ih h3 k⟩
      rw [show (k + 1) * sz = cs.length + k * sz by rw [h1, Nat.add_mul]; omega, List.take_length_add_append]
theorem Cells.putRow {x : α} {cs : List Value} (hx : E H cs x) (hs : cs.length = sz) : ∀ {xs : List α} {c : List Value} (k : Nat), k < xs.length → Cells H E sz c xs → Cells H E sz (c.take (k * sz) ++ cs ++ c.drop (k * sz + sz)) (xs.set k x)
  | [], _, k, hk, _ => by simp at hk
  | y :: ys, c, 0, _, hc => by
    obtain ⟨ds, rest, rfl, h1, h2, h3⟩ := hc
    refine ⟨cs, rest, ?_, hs, hx, h3⟩
    rw [Nat.zero_mul, Nat.zero_add, List.take_zero, List.nil_append, List.drop_left' h1]
  | y :: ys, c, k + 1, hk, hc => by
    obtain ⟨ds, rest, rfl, h1, h2, h3⟩ := hc
    refine ⟨ds, rest.take (k * sz) ++ cs ++ rest.drop (k * sz + sz), ?_, h1, h2, Cells.putRow hx hs k (by simpa using hk) h3⟩
    rw [show (k + 1) * sz = ds.length + k * sz by rw [h1, Nat.add_mul]; omega, List.take_length_add_append, show ds.length + k * sz + sz = ds.length + (k * sz + sz) by omega, List.drop_length_add_append]
    simp
theorem setRow_block (w : World) (g k : Nat) (c : Array Value) (h : k ≠ g) : (w.setRow g c).heap[k]? = w.heap[k]? := setRow_other w g k c (fun e => h e)
/-- a row of an own slice is written -/
theorem Mem.putRow {g cap n : Nat} {cur : Array Value} {x : α} {cs : List Value} (h : Mem w0 H0 L H w) (i : Nat) (hi : L[i]? = some (own hm sz T (.slice (some ⟨g, 0, none⟩) n cap) xs)) (hn : n = xs.length) (k : Nat) (hk : k < xs.length) (hx : E H cs x) (hs : cs.length = sz)
    (hg : w.heap[g]? = some (.cells cur T (0, 0))) : Mem w0 H0 (L.set i (own hm sz T (.slice (some ⟨g, 0, none⟩) n cap) (xs.set k x))) H (w.setRow g (cur.toList.take (k * sz) ++ cs ++ cur.toList.drop (k * sz + sz)).toArray) := by
  subst hn
  have h4 : OwnC H w E sz T (.slice (some ⟨g, 0, none⟩) xs.length cap) xs := h.ok i _ hi
  rcases h4 with ⟨h4, -⟩ | ⟨g', cap', cur', e, k1, k2, k3, k4, k5⟩
  · cases h4
  · cases e
    rw [hg] at k1
    cases k1
    have hkn : k * sz + sz ≤ xs.length * sz := by
      have := Nat.mul_le_mul_right sz (show k + 1 ≤ xs.length from hk); rw [Nat.add_mul] at this; omega
    have hnc : xs.length * sz ≤ cap * sz := Nat.mul_le_mul_right _ k2
    have hcl : cur.toList.length = cap * sz := by simpa using k4
    refine h.put i hi (c' := own hm sz T _ (xs.set k x)) (.inr ⟨g, cap, (cur.toList.take (k * sz) ++ cs ++ cur.toList.drop (k * sz + sz)).toArray, by simp, setRow_heap w g cur _ T _ hg, by simpa using k2, k3, ?_, ?_⟩) (fun k hk => .inl hk) ?_ fun j hj hne => setRow_block _ _ _ _ (fun e => hne (by rw [e]; rfl))
    · simp only [List.size_toArray, List.length_append, List.length_take, List.length_drop, hcl, hs]; omega
    · have := Cells.putRow (H := H) hx hs k hk k5
      rw [List.length_set]
      have e1 : (cur.toList.take (k * sz) ++ cs ++ cur.toList.drop (k * sz + sz)).toArray.toList.take (xs.length * sz) = (cur.toList.take (xs.length * sz)).take (k * sz) ++ cs ++ (cur.toList.take (xs.length * sz)).drop (k * sz + sz) := by
        simp only []
        rw [List.take_take, Nat.min_eq_left (by omega), List.drop_take]
        have hl : (cur.toList.take (k * sz) ++ cs).length = k * sz + sz := by rw [List.length_append, List.length_take, hs]; omega
        rw [List.take_append, hl, List.take_of_length_le (by omega)]
      rw [e1]; exact this
    · have hbase := (h.fr i _ hi g rfl).1
      exact h.ex.trans ⟨rfl, rfl, rfl, by simp [World.setRow], fun j hj => setRow_block _ _ _ _ (by omega)⟩
/-- the rows of an own slice from k on are written, and cut off -/
theorem Mem.cut {g cap n : Nat} {cur cur' : Array Value} (h : Mem w0 H0 L H w) (i : Nat) (hi : L[i]? = some (own hm sz T (.slice (some ⟨g, 0, none⟩) n cap) xs)) (hn : n = xs.length) (k : Nat) (hk : k ≤ xs.length)
    (hg : w.heap[g]? = some (.cells cur T (0, 0))) (hs : cur'.size = cur.size) (ht : cur'.toList.take (k * sz) = cur.toList.take (k * sz)) : Mem w0 H0 (L.set i (own hm sz T (.slice (some ⟨g, 0, none⟩) k cap) (xs.take k))) H (w.setRow g cur') := by
  subst hn
  have h4 : OwnC H w E sz T (.slice (some ⟨g, 0, none⟩) xs.length cap) xs := h.ok i _ hi
  rcases h4 with ⟨h4, -⟩ | ⟨g', cap', cur1, e, k1, k2, k3, k4, k5⟩
  · cases h4
  · cases e
    rw [hg] at k1
    cases k1
    have hkl : (xs.take k).length = k := by rw [List.length_take]; omega
    have hkn : k * sz ≤ xs.length * sz := Nat.mul_le_mul_right sz hk
    refine h.put i hi (c' := own hm sz T _ (xs.take k)) (.inr ⟨g, cap, cur', by rw [hkl], setRow_heap w g cur _ T _ hg, by omega, k3, by rw [hs]; exact k4, ?_⟩) (fun k hk => .inl hk) (h.ex.trans ⟨rfl, rfl, rfl, by simp [World.setRow], fun j hj => setRow_block _ _ _ _ (by have := (h.fr i _ hi g rfl).1; omega)⟩) fun j hj hne => setRow_block _ _ _ _ (fun e => hne (by rw [e]; rfl))
    have := Cells.take k5 k
    rw [List.take_take, Nat.min_eq_left hkn] at this
    rw [hkl, ht]; exact this
end
section
variable {P : Program} {α : Type} {E : PH → List Value → α → Prop} {hm : Mono E} {sz : Nat} {T : TypeId} {w0 w : World} {H0 H : PH} {L : List Chunk} {xs : List α}
theorem Mem.cur {g n cap : Nat} (h : Mem w0 H0 L H w) (i : Nat) (hi : L[i]? = some (own hm sz T (.slice (some ⟨g, 0, none⟩) n cap) xs)) : ∃ cur, w.heap[g]? = some (.cells cur T (0, 0)) ∧ cur.size = cap * sz ∧ xs.length ≤ cap ∧ n = xs.length := by
  have h4 : OwnC H w E sz T (.slice (some ⟨g, 0, none⟩) n cap) xs := h.ok i _ hi
  rcases h4 with ⟨h4, -⟩ | ⟨g', cap', cur1, e, k1, k2, k3, k4, k5⟩
  · cases h4
  · cases e; exact ⟨cur1, k1, k4, k2, rfl⟩
/-- a row of an own slice is written: the walk's arm -/
theorem wpList_store_M {ops : Array Oper} {rest : List Oper} {o : Oper} {a : Act} {Q : Exit → Act → World → Prop} (hgd : o.guard = none) (ty : TypeId) (x y : Operand) (ho : o.op = .store ty x y)
    {g n cap : Nat} (k : Nat) (hx : a.eval x = .pointer (some ⟨g, k * sz, none⟩)) {cs : List Value} (hy : a.eval y = .agg cs.toArray) {x' : α} (h : Mem w0 H0 L H w) (i : Nat) (hi : L[i]? = some (own hm sz T (.slice (some ⟨g, 0, none⟩) n cap) xs)) (hk : k < xs.length)
    (hE : E H cs x') (hcs : cs.length = sz) (hone : ∀ u ∈ cs, u.oneCell' = true) (hinfo : (P.info? ty).map (·.size) = some sz)
    (hn : ∀ w', Mem w0 H0 (L.set i (own hm sz T (.slice (some ⟨g, 0, none⟩) n cap) (xs.set k x'))) H w' → wpList P ops Q rest (a.put o.dst undef) w') : wpList P ops Q (o :: rest) a w := by
  obtain ⟨cur, hg, hc1, hc2, rfl⟩ := h.cur i hi
  have hkn : k * sz + sz ≤ cap * sz := by
    have := Nat.mul_le_mul_right sz (show k + 1 ≤ cap by omega); rw [Nat.add_mul] at this; omega
  have hst := run_storeCells_at (P := P) g (k * sz) T cs 0 cur w hg (by omega) hone
  simp only [Nat.add_zero] at hst
  rw [hcs] at hst
  refine wpList_plain hgd fun _ hK => ?_
  have hv : (storeVar ty ⟨g, k * sz, none⟩ (.agg cs.toArray)).run P w = .ok () (w.setRow g (cur.toList.take (k * sz) ++ cs ++ cur.toList.drop (k * sz + sz)).toArray) := by
    cases hq : P.info? ty with
    | none => simp [hq] at hinfo
    | some j =>
      have hs : cs.length = j.size := by simp [hq] at hinfo; omega
      simp [storeVar, sizeOf, typeInfo, hq, Value.cells, hs, hst]
  unfold Oper.wp execOp
  simp only [ho, hx, hy, Instr.storeAt, Instr.sureAddr, Sem.run_bind, Sem.run_pure, Result.andThen_ok, hv]
  exact hK _ _ (hn _ (h.putRow i hi rfl k hk hE hcs hg))
theorem zeroCells_one {z : Array Value} (hz : z.all (·.oneCell') = true) (n : Nat) : ∀ v ∈ (Builtin.zeroCells z n).toList, v.oneCell' = true := by
  intro v hv
  simp [Builtin.zeroCells] at hv
  obtain ⟨j, hj, rfl⟩ := hv
  have hpos : 0 < z.size := Nat.pos_of_ne_zero fun e => by rw [e] at hj; simp at hj
  have hlt : j % z.size < z.size := Nat.mod_lt _ hpos
  have := (Array.all_eq_true.1 hz) (j % z.size) hlt
  simpa [hlt] using this
/-- clear of the rows of an own slice from k on, which are then cut off: the walk's arm -/
theorem wpList_clear_M {ops : Array Oper} {rest : List Oper} {o : Oper} {a : Act} {Q : Exit → Act → World → Prop} (hgd : o.guard = none) (s : Operand) (t : TypeId) (ho : o.op = .call { callee := .builtin .clear, args := #[s], argTypes := #[t] })
    {g n cap c : Nat} (k : Nat) (hs : a.eval s = .slice (some ⟨g, k * sz, none⟩) (n - k) c) {z : Value} (ht : P.underlying t = some (.slice T)) (hz : ∀ w, (zeroValue T).run P w = .ok z w) (hzs : z.cells.size = sz) (hz1 : z.cells.all (·.oneCell') = true)
    (h : Mem w0 H0 L H w) (i : Nat) (hi : L[i]? = some (own hm sz T (.slice (some ⟨g, 0, none⟩) n cap) xs)) (hk : k ≤ xs.length)
    (hn : ∀ w', Mem w0 H0 (L.set i (own hm sz T (.slice (some ⟨g, 0, none⟩) k cap) (xs.take k))) H w' → wpList P ops Q rest (a.put o.dst (.tuple #[])) w') : wpList P ops Q (o :: rest) a w := by
  obtain ⟨cur, hg, hc1, hc2, rfl⟩ := h.cur i hi
  have hzl : (Builtin.zeroCells z.cells (xs.length - k)).toList.length = (xs.length - k) * sz := by rw [Array.length_toList, size_zeroCells, hzs]
  have hle : k * sz + (xs.length - k) * sz ≤ cap * sz := by
    rw [← Nat.add_mul]; exact Nat.mul_le_mul_right _ (by omega)
  have hst := run_storeCells_at (P := P) g (k * sz) T (Builtin.zeroCells z.cells (xs.length - k)).toList 0 cur w hg (by omega) (zeroCells_one hz1 _)
  simp only [Nat.add_zero] at hst
  have hM := h.cut i hi rfl k hk hg (cur' := (cur.toList.take (k * sz) ++ (Builtin.zeroCells z.cells (xs.length - k)).toList ++ cur.toList.drop (k * sz + (Builtin.zeroCells z.cells (xs.length - k)).toList.length)).toArray)
    (by simp only [List.size_toArray, List.length_append, List.length_take, List.length_drop, hzl, Array.length_toList]; omega)
    (by simp only []; rw [List.append_assoc, List.take_append_of_le_length (by rw [List.length_take, Array.length_toList]; omega), List.take_take, Nat.min_self])
  refine wpList_plain hgd fun _ hK => ?_
  have hr : (Builtin.clear_ #[t] o.type #[.slice (some ⟨g, k * sz, none⟩) (xs.length - k) c]).run P w = .ok (.tuple #[]) (w.setRow g (cur.toList.take (k * sz) ++ (Builtin.zeroCells z.cells (xs.length - k)).toList ++ cur.toList.drop (k * sz + (Builtin.zeroCells z.cells (xs.length - k)).toList.length)).toArray) := by
    cases hq : xs.length - k with
    | zero =>
      have hz0 : Builtin.zeroCells z.cells 0 = #[] := by simp [Builtin.zeroCells]
      rw [hz0]
      have e1 : (cur.toList.take (k * sz) ++ (#[] : Array Value).toList ++ cur.toList.drop (k * sz + (#[] : Array Value).toList.length)).toArray = cur := by simp
      rw [e1, setRow_self w g cur T (0, 0) hg]
      simp [Builtin.clear_, run_underlying ht]
    | succ m =>
      rw [hq] at hst
      simp [Builtin.clear_, run_underlying ht, hz, hst]
  unfold Oper.wp execOp
  simp only [ho, resolve, invoke, builtin, Sem.run_bind, Sem.run_pure, Result.andThen_ok, List.map_toArray, List.map_cons, List.map_nil, hs, hr]
  exact hK _ _ (hn _ hM)
end
end Go.Proofs.YtcbmgajaaechjaaGreat
