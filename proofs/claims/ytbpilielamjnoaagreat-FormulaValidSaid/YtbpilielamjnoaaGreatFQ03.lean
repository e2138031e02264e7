/- rows of several cells: read out of the middle of a block, written whole, cleared.; sets of half-open intervals over a strict total order: the canonical list of a set is one alone.; ratios as plain data.; ends of intervals: their order, in plain words.; sets of intervals by runs: the list that a sequence of ends makes is canonical, and has just the ends of the set.; package ratio: gcd, size, build, New, Valid; the reference's divisor and Good.; ratio.Valid; the reference's divisor and Good.; intervals and sets of numbers, in plain words: what the code and the reference make of them.; new boxes in a drawn region; a block as a slice.; package span: ends, less, good, Valid.; package span: both ends of an interval.; package span: between, good, Valid, inside. -/
import Derived.Laws.Rows
import Derived.Laws.CopyRow
import Derived.Lib.SliceRun
import Derived.Test.YtbpilielamjnoaaGreatFQ00
import Derived.Test.YtbpilielamjnoaaGreatFQ01
import Derived.Test.YtbpilielamjnoaaGreatFQ02
namespace Go.Proofs.YtbpilielamjnoaaGreat
open Go.RowKit Go.Shelf
set_option linter.unusedSimpArgs false
set_option linter.unusedVariables false
/-- a row read out of the middle of a block -/
theorem wpList_load_mid {P : Program} {ops : Array Oper} {rest : List Oper} {o : Oper} {a : Act} {w : World} {Q : Exit → Act → World → Prop} (hgd : o.guard = none) (ty : TypeId) (x : Operand) (ho : o.op = .load ty x)
    (b m : Nat) (hx : a.eval x = .pointer (some ⟨b, m, none⟩)) (cs : List Value) (d : TypeDesc) (hc : ∀ j u, cs[j]? = some u → w.cell? ⟨b, m + j, none⟩ = some u)
    (hu : P.underlying ty = some d) (hd : (match d with | .struct _ | .array _ _ => true | _ => false) = true) (hi : (P.info? ty).map (·.size) = some cs.length)
    (h : wpList P ops Q rest (a.put o.dst (.agg cs.toArray)) w) : wpList P ops Q (o :: rest) a w := by
  refine wpList_plain hgd fun _ hK => ?_
  have hl : (loadCells ⟨b, m, none⟩ cs.length).run P w = .ok cs.toArray w :=
    run_loadCells_list (P := P) w ⟨b, m, none⟩ cs (fun j v hv => by rw [addo]; exact hc j v hv)
  have hv : (loadVar ty ⟨b, m, none⟩).run P w = .ok (.agg cs.toArray) w := by
    cases hq : P.info? ty with
    | none => simp [hq] at hi
    | some i =>
      have hs : i.size = cs.length := by simpa [hq] using hi
      have hagg : (isAgg ty).run P w = .ok true w := by
        unfold isAgg
        rw [Sem.run_bind, run_underlying hu w]
        cases d <;> simp_all
      simp [loadVar, Sem.run_bind, hagg, sizeOf, typeInfo, hq, hs, hl]
  unfold Oper.wp execOp
  simp only [ho, hx, Instr.loadAt, Instr.sureAddr, Sem.run_bind, Sem.run_pure, Result.andThen_ok, hv]
  exact hK _ _ h
theorem oper_load_mid {P : Program} {o : Oper} {a : Act} {w : World} {K : Act → World → Prop} {Q : Exit → Act → World → Prop} (ty : TypeId) (x : Operand) (ho : o.op = .load ty x)
    (b m : Nat) (hx : a.eval x = .pointer (some ⟨b, m, none⟩)) (cs : List Value) (d : TypeDesc) (hc : ∀ j u, cs[j]? = some u → w.cell? ⟨b, m + j, none⟩ = some u)
    (hu : P.underlying ty = some d) (hd : (match d with | .struct _ | .array _ _ => true | _ => false) = true) (hi : (P.info? ty).map (·.size) = some cs.length)
    (h : K (a.put o.dst (.agg cs.toArray)) w) : o.wp P a w K Q := by
  have hl : (loadCells ⟨b, m, none⟩ cs.length).run P w = .ok cs.toArray w :=
    run_loadCells_list (P := P) w ⟨b, m, none⟩ cs (fun j v hv => by rw [addo]; exact hc j v hv)
  have hv : (loadVar ty ⟨b, m, none⟩).run P w = .ok (.agg cs.toArray) w := by
    cases hq : P.info? ty with
    | none => simp [hq] at hi
    | some i =>
      have hs : i.size = cs.length := by simpa [hq] using hi
      have hagg : (isAgg ty).run P w = .ok true w := by
        unfold isAgg
        rw [Sem.run_bind, run_underlying hu w]
        cases d <;> simp_all
      simp [loadVar, Sem.run_bind, hagg, sizeOf, typeInfo, hq, hs, hl]
  unfold Oper.wp execOp
  simp only [ho, hx, Instr.loadAt, Instr.sureAddr, Sem.run_bind, Sem.run_pure, Result.andThen_ok, hv]
  exact h
theorem Src.free {α : Type} {E : PH → List Value → α → Prop} {sz : Nat} {H H' : PH} {w : World} {v : Value} {xs : List α} (h : Src w H E sz v xs) (hE : ∀ cs x, E H cs x → E H' cs x) : Src w H' E sz v xs := by
  obtain ⟨a, cap, h1, h2, h3⟩ := h
  refine ⟨a, cap, h1, h2, ?_⟩
  rcases h3 with h3 | ⟨ad, c, h3, h4, h5⟩
  · exact .inl h3
  · exact .inr ⟨ad, c, h3, h4.mono hE, h5⟩
section
variable {α : Type} {E : PH → List Value → α → Prop} {hm : Mono E} {sz : Nat} {T : TypeId} {w0 w : World} {H0 H : PH} {L : List Chunk} {xs : List α}
theorem Cells.take {c : List Value} (h : Cells H E sz c xs) (k : Nat) : Cells H E sz (c.take (k * sz)) (xs.take k) := by
  induction xs generalizing c k with
  | nil =>
    have : c = [] := h
    subst this; simp; exact rfl
  | cons x xs ih =>
    obtain ⟨cs, rest, rfl, h1, h2, h3⟩ := h
    cases k with
    | zero => simp; exact rfl
    | succ k =>
      refine ⟨cs, rest.take (k * sz), ?_, h1, h2, ih h3 k⟩
      rw [show (k + 1) * sz = cs.length + k * sz by rw [h1, Nat.add_mul]; omega, List.take_length_add_append]
theorem Cells.putRow {x : α} {cs : List Value} (hx : E H cs x) (hs : cs.length = sz) : ∀ {xs : List α} {c : List Value} (k : Nat), k < xs.length → Cells H E sz c xs → Cells H E sz (c.take (k * sz) ++ cs ++ c.drop (k * sz + sz)) (xs.set k x)
  | [], _, k, hk, _ => by simp at hk
  | y :: ys, c, 0, _, hc => by
    obtain ⟨ds, rest, rfl, h1, h2, h3⟩ := hc
    refine ⟨cs, rest, ?_, hs, hx, h3⟩
    rw [Nat.zero_mul, Nat.zero_add, List.take_zero, List.nil_append, List.drop_left' h1]
  | y :: ys, c, k + 1, hk, hc => by
    obtain ⟨ds, rest, rfl, h1, h2, h3⟩ := hc
    refine ⟨ds, rest.take (k * sz) ++ cs ++ rest.drop (k * sz + sz), ?_, h1, h2, Cells.putRow hx hs k (by simpa using hk) h3⟩
    rw [show (k + 1) * sz = ds.length + k * sz by rw [h1, Nat.add_mul]; omega, List.take_length_add_append, show ds.length + k * sz + sz = ds.length + (k * sz + sz) by omega, List.drop_length_add_append]
    simp
theorem setRow_block (w : World) (g k : Nat) (c : Array Value) (h : k ≠ g) : (w.setRow g c).heap[k]? = w.heap[k]? := setRow_other w g k c (fun e => h e)
/-- a row of an own slice is written -/
theorem Mem.putRow {g cap n : Nat} {cur : Array Value} {x : α} {cs : List Value} (h : Mem w0 H0 L H w) (i : Nat) (hi : L[i]? = some (own hm sz T (.slice (some ⟨g, 0, none⟩) n cap) xs)) (hn : n = xs.length) (k : Nat) (hk : k < xs.length) (hx : E H cs x) (hs : cs.length = sz)
    (hg : w.heap[g]? = some (.cells cur T (0, 0))) : Mem w0 H0 (L.set i (own hm sz T (.slice (some ⟨g, 0, none⟩) n cap) (xs.set k x))) H (w.setRow g (cur.toList.take (k * sz) ++ cs ++ cur.toList.drop (k * sz + sz)).toArray) := by
  subst hn
  have h4 : OwnC H w E sz T (.slice (some ⟨g, 0, none⟩) xs.length cap) xs := h.ok i _ hi
  rcases h4 with ⟨h4, -⟩ | ⟨g', cap', cur', e, k1, k2, k3, k4, k5⟩
  · cases h4
  · cases e
    rw [hg] at k1
    cases k1
    have hkn : k * sz + sz ≤ xs.length * sz := by
      have := Nat.mul_le_mul_right sz (show k + 1 ≤ xs.length from hk); rw [Nat.add_mul] at this; omega
    have hnc : xs.length * sz ≤ cap * sz := Nat.mul_le_mul_right _ k2
    have hcl : cur.toList.length = cap * sz := by simpa using k4
    refine h.put i hi (c' := own hm sz T _ (xs.set k x)) (.inr ⟨g, cap, (cur.toList.take (k * sz) ++ cs ++ cur.toList.drop (k * sz + sz)).toArray, by simp, setRow_heap w g cur _ T _ hg, by simpa using k2, k3, ?_, ?_⟩) (fun k hk => .inl hk) ?_ fun j hj hne => setRow_block _ _ _ _ (fun e => hne (by rw [e]; rfl))
    · simp only [List.size_toArray, List.length_append, List.length_take, List.length_drop, hcl, hs]; omega
    · have := Cells.putRow (H := H) hx hs k hk k5
      rw [List.length_set]
      have e1 : (cur.toList.take (k * sz) ++ cs ++ cur.toList.drop (k * sz + sz)).toArray.toList.take (xs.length * sz) = (cur.toList.take (xs.length * sz)).take (k * sz) ++ cs ++ (cur.toList.take (xs.length * sz)).drop (k * sz + sz) := by
        simp only []
        rw [List.take_take, Nat.min_eq_left (by omega), List.drop_take]
        have hl : (cur.toList.take (k * sz) ++ cs).length = k * sz + sz := by rw [List.length_append, List.length_take, hs]; omega
        rw [List.take_append, hl, List.take_of_length_le (by omega)]
      rw [e1]; exact this
    · have hbase := (h.fr i _ hi g rfl).1
      exact h.ex.trans ⟨rfl, rfl, rfl, by simp [World.setRow], fun j hj => setRow_block _ _ _ _ (by omega)⟩
/-- the rows of an own slice from k on are written, and cut off -/
theorem Mem.cut {g cap n : Nat} {cur cur' : Array Value} (h : Mem w0 H0 L H w) (i : Nat) (hi : L[i]? = some (own hm sz T (.slice (some ⟨g, 0, none⟩) n cap) xs)) (hn : n = xs.length) (k : Nat) (hk : k ≤ xs.length)
    (hg : w.heap[g]? = some (.cells cur T (0, 0))) (hs : cur'.size = cur.size) (ht : cur'.toList.take (k * sz) = cur.toList.take (k * sz)) : Mem w0 H0 (L.set i (own hm sz T (.slice (some ⟨g, 0, none⟩) k cap) (xs.take k))) H (w.setRow g cur') := by
  subst hn
  have h4 : OwnC H w E sz T (.slice (some ⟨g, 0, none⟩) xs.length cap) xs := h.ok i _ hi
  rcases h4 with ⟨h4, -⟩ | ⟨g', cap', cur1, e, k1, k2, k3, k4, k5⟩
  · cases h4
  · cases e
    rw [hg] at k1
    cases k1
    have hkl : (xs.take k).length = k := by rw [List.length_take]; omega
    have hkn : k * sz ≤ xs.length * sz := Nat.mul_le_mul_right sz hk
    refine h.put i hi (c' := own hm sz T _ (xs.take k)) (.inr ⟨g, cap, cur', by rw [hkl], setRow_heap w g cur _ T _ hg, by omega, k3, by rw [hs]; exact k4, ?_⟩) (fun k hk => .inl hk) (h.ex.trans ⟨rfl, rfl, rfl, by simp [World.setRow], fun j hj => setRow_block _ _ _ _ (by have := (h.fr i _ hi g rfl).1; omega)⟩) fun j hj hne => setRow_block _ _ _ _ (fun e => hne (by rw [e]; rfl))
    have := Cells.take k5 k
    rw [List.take_take, Nat.min_eq_left hkn] at this
    rw [hkl, ht]; exact this
end
section
variable {P : Program} {α : Type} {E : PH → List Value → α → Prop} {hm : Mono E} {sz : Nat} {T : TypeId} {w0 w : World} {H0 H : PH} {L : List Chunk} {xs : List α}
theorem Mem.cur {g n cap : Nat} (h : Mem w0 H0 L H w) (i : Nat) (hi : L[i]? = some (own hm sz T (.slice (some ⟨g, 0, none⟩) n cap) xs)) : ∃ cur, w.heap[g]? = some (.cells cur T (0, 0)) ∧ cur.size = cap * sz ∧ xs.length ≤ cap ∧ n = xs.length := by
  have h4 : OwnC H w E sz T (.slice (some ⟨g, 0, none⟩) n cap) xs := h.ok i _ hi
  rcases h4 with ⟨h4, -⟩ | ⟨g', cap', cur1, e, k1, k2, k3, k4, k5⟩
  · cases h4
  · cases e; exact ⟨cur1, k1, k4, k2, rfl⟩
/-- a row of an own slice is written: the walk's arm -/
theorem wpList_store_M {ops : Array Oper} {rest : List Oper} {o : Oper} {a : Act} {Q : Exit → Act → World → Prop} (hgd : o.guard = none) (ty : TypeId) (x y : Operand) (ho : o.op = .store ty x y)
    {g n cap : Nat} (k : Nat) (hx : a.eval x = .pointer (some ⟨g, k * sz, none⟩)) {cs : List Value} (hy : a.eval y = .agg cs.toArray) {x' : α} (h : Mem w0 H0 L H w) (i : Nat) (hi : L[i]? = some (own hm sz T (.slice (some ⟨g, 0, none⟩) n cap) xs)) (hk : k < xs.length)
    (hE : E H cs x') (hcs : cs.length = sz) (hone : ∀ u ∈ cs, u.oneCell' = true) (hinfo : (P.info? ty).map (·.size) = some sz)
    (hn : ∀ w', Mem w0 H0 (L.set i (own hm sz T (.slice (some ⟨g, 0, none⟩) n cap) (xs.set k x'))) H w' → wpList P ops Q rest (a.put o.dst undef) w') : wpList P ops Q (o :: rest) a w := by
  obtain ⟨cur, hg, hc1, hc2, rfl⟩ := h.cur i hi
  have hkn : k * sz + sz ≤ cap * sz := by
    have := Nat.mul_le_mul_right sz (show k + 1 ≤ cap by omega); rw [Nat.add_mul] at this; omega
  have hst := run_storeCells_at (P := P) g (k * sz) T cs 0 cur w hg (by omega) hone
  simp only [Nat.add_zero] at hst
  rw [hcs] at hst
  refine wpList_plain hgd fun _ hK => ?_
  have hv : (storeVar ty ⟨g, k * sz, none⟩ (.agg cs.toArray)).run P w = .ok () (w.setRow g (cur.toList.take (k * sz) ++ cs ++ cur.toList.drop (k * sz + sz)).toArray) := by
    cases hq : P.info? ty with
    | none => simp [hq] at hinfo
    | some j =>
      have hs : cs.length = j.size := by simp [hq] at hinfo; omega
      simp [storeVar, sizeOf, typeInfo, hq, Value.cells, hs, hst]
  unfold Oper.wp execOp
  simp only [ho, hx, hy, Instr.storeAt, Instr.sureAddr, Sem.run_bind, Sem.run_pure, Result.andThen_ok, hv]
  exact hK _ _ (hn _ (h.putRow i hi rfl k hk hE hcs hg))
theorem zeroCells_one {z : Array Value} (hz : z.all (·.oneCell') = true) (n : Nat) : ∀ v ∈ (Builtin.zeroCells z n).toList, v.oneCell' = true := by
  intro v hv
  simp [Builtin.zeroCells] at hv
  obtain ⟨j, hj, rfl⟩ := hv
  have hpos : 0 < z.size := Nat.pos_of_ne_zero fun e => by rw [e] at hj; simp at hj
  have hlt : j % z.size < z.size := Nat.mod_lt _ hpos
  have := (Array.all_eq_true.1 hz) (j % z.size) hlt
  simpa [hlt] using this
/-- clear of the rows of an own slice from k on, which are then cut off: the walk's arm -/
theorem wpList_clear_M {ops : Array Oper} {rest : List Oper} {o : Oper} {a : Act} {Q : Exit → Act → World → Prop} (hgd : o.guard = none) (s : Operand) (t : TypeId) (ho : o.op = .call { callee := .builtin .clear, args := #[s], argTypes := #[t] })
    {g n cap c : Nat} (k : Nat) (hs : a.eval s = .slice (some ⟨g, k * sz, none⟩) (n - k) c) {z : Value} (ht : P.underlying t = some (.slice T)) (hz : ∀ w, (zeroValue T).run P w = .ok z w) (hzs : z.cells.size = sz) (hz1 : z.cells.all (·.oneCell') = true)
    (h : Mem w0 H0 L H w) (i : Nat) (hi : L[i]? = some (own hm sz T (.slice (some ⟨g, 0, none⟩) n cap) xs)) (hk : k ≤ xs.length)
    (hn : ∀ w', Mem w0 H0 (L.set i (own hm sz T (.slice (some ⟨g, 0, none⟩) k cap) (xs.take k))) H w' → wpList P ops Q rest (a.put o.dst (.tuple #[])) w') : wpList P ops Q (o :: rest) a w := by
  obtain ⟨cur, hg, hc1, hc2, rfl⟩ := h.cur i hi
  have hzl : (Builtin.zeroCells z.cells (xs.length - k)).toList.length = (xs.length - k) * sz := by rw [Array.length_toList, size_zeroCells, hzs]
  have hle : k * sz + (xs.length - k) * sz ≤ cap * sz := by
    rw [← Nat.add_mul]; exact Nat.mul_le_mul_right _ (by omega)
  have hst := run_storeCells_at (P := P) g (k * sz) T (Builtin.zeroCells z.cells (xs.length - k)).toList 0 cur w hg (by omega) (zeroCells_one hz1 _)
  simp only [Nat.add_zero] at hst
  have hM := h.cut i hi rfl k hk hg (cur' := (cur.toList.take (k * sz) ++ (Builtin.zeroCells z.cells (xs.length - k)).toList ++ cur.toList.drop (k * sz + (Builtin.zeroCells z.cells (xs.length - k)).toList.length)).toArray)
    (by simp only [List.size_toArray, List.length_append, List.length_take, List.length_drop, hzl, Array.length_toList]; omega)
    (by simp only []; rw [List.append_assoc, List.take_append_of_le_length (by rw [List.length_take, Array.length_toList]; omega), List.take_take, Nat.min_self])
  refine wpList_plain hgd fun _ hK => ?_
  have hr : (Builtin.clear_ #[t] o.type #[.slice (some ⟨g, k * sz, none⟩) (xs.length - k) c]).run P w = .ok (.tuple #[]) (w.setRow g (cur.toList.take (k * sz) ++ (Builtin.zeroCells z.cells (xs.length - k)).toList ++ cur.toList.drop (k * sz + (Builtin.zeroCells z.cells (xs.length - k)).toList.length)).toArray) := by
    cases hq : xs.length - k with
    | zero =>
      have hz0 : Builtin.zeroCells z.cells 0 = #[] := by simp [Builtin.zeroCells]
      rw [hz0]
      have e1 : (cur.toList.take (k * sz) ++ (#[] : Array Value).toList ++ cur.toList.drop (k * sz + (#[] : Array Value).toList.length)).toArray = cur := by simp
      rw [e1, setRow_self w g cur T (0, 0) hg]
      simp [Builtin.clear_, run_underlying ht]
    | succ m =>
      rw [hq] at hst
      simp [Builtin.clear_, run_underlying ht, hz, hst]
  unfold Oper.wp execOp
  simp only [ho, resolve, invoke, builtin, Sem.run_bind, Sem.run_pure, Result.andThen_ok, List.map_toArray, List.map_cons, List.map_nil, hs, hr]
  exact hK _ _ (hn _ hM)
end
end Go.Proofs.YtbpilielamjnoaaGreat
namespace Go.Proofs.YtbpilielamjnoaaGreat
set_option linter.unusedVariables false
section
variable {α : Type} {lt : α → α → Prop}
structure STO (lt : α → α → Prop) : Prop where
  irr : ∀ a, ¬ lt a a
  trans : ∀ a b c, lt a b → lt b c → lt a c
  total : ∀ a b, lt a b ∨ a = b ∨ lt b a
/-- intervals in order, apart, none empty -/
def CanE (lt : α → α → Prop) : List (α × α) → Prop
  | [] => True
  | [x] => lt x.1 x.2
  | x :: y :: r => lt x.1 x.2 ∧ lt x.2 y.1 ∧ CanE lt (y :: r)
theorem CanE.head {x : α × α} {r : List (α × α)} (h : CanE lt (x :: r)) : lt x.1 x.2 := by
  cases r with
  | nil => exact h
  | cons y r => exact h.1
theorem CanE.after (ho : STO lt) : ∀ {r : List (α × α)} {x : α × α}, CanE lt (x :: r) → ∀ z ∈ r, lt x.2 z.1
  | [], _, _, z, hz => by cases hz
  | y :: r, x, h, z, hz => by
    rcases List.mem_cons.1 hz with rfl | hz
    · exact h.2.1
    · have h1 := CanE.after ho h.2.2 z hz
      exact ho.trans _ _ _ (ho.trans _ _ _ h.2.1 (CanE.head h.2.2)) h1
end
end Go.Proofs.YtbpilielamjnoaaGreat
namespace Go.Proofs.YtbpilielamjnoaaGreat
structure Rat2 where
  num : Int
  den : Int
  deriving DecidableEq
def RatR (_ : PH) (cs : List Value) (r : Rat2) : Prop := cs = [.int .i64 r.num, .int .i64 r.den] ∧ I64 r.num ∧ I64 r.den
theorem mono_RatR : Mono RatR := fun _ _ _ _ _ h => h
end Go.Proofs.YtbpilielamjnoaaGreat
namespace Go.Proofs.YtbpilielamjnoaaGreat
set_option linter.unusedVariables false
/-- in lowest terms, the denominator positive -/
def Rat2.ok (r : Rat2) : Prop := 0 < r.den ∧ Nat.Coprime r.num.natAbs r.den.natAbs
theorem Rat2.ext' {a b : Rat2} (h1 : a.num = b.num) (h2 : a.den = b.den) : a = b := by cases a; cases b; cases h1; cases h2; rfl
/-- ratios of one value are one ratio -/
theorem Rat2.same {a b : Rat2} (ha : a.ok) (hb : b.ok) (h : a.num * b.den = b.num * a.den) : a = b := by
  have hn : a.num.natAbs * b.den.natAbs = b.num.natAbs * a.den.natAbs := by
    have := congrArg Int.natAbs h
    rwa [Int.natAbs_mul, Int.natAbs_mul] at this
  have d1 : a.den.natAbs ∣ b.den.natAbs := by
    have : a.den.natAbs ∣ a.num.natAbs * b.den.natAbs := ⟨b.num.natAbs, by rw [hn, Nat.mul_comm]⟩
    exact Nat.Coprime.dvd_of_dvd_mul_left ha.2.symm this
  have d2 : b.den.natAbs ∣ a.den.natAbs := by
    have : b.den.natAbs ∣ b.num.natAbs * a.den.natAbs := ⟨a.num.natAbs, by rw [← hn, Nat.mul_comm]⟩
    exact Nat.Coprime.dvd_of_dvd_mul_left hb.2.symm this
  have e0 : a.den.natAbs = b.den.natAbs := Nat.dvd_antisymm d1 d2
  have e1 : a.den = b.den := by have := ha.1; have := hb.1; omega
  have e2 : a.num = b.num := by
    rw [e1] at h
    have := hb.1
    exact Int.eq_of_mul_eq_mul_right (by omega) h
  exact Rat2.ext' e2 e1
/-- an end: far -1, 0 or 1 -/
structure En where
  far : Int
  at' : Rat2
  aft : Bool
  deriving DecidableEq
def En.ok (e : En) : Prop := (e.far = 0 ∧ e.at'.ok) ∨ ((e.far = -1 ∨ e.far = 1) ∧ e.at' = ⟨0, 0⟩ ∧ e.aft = false)
def lessE (a b : En) : Bool :=
  if a.far ≠ b.far then decide (a.far < b.far) else if a.far ≠ 0 then false else
  if a.at'.num * b.at'.den ≠ b.at'.num * a.at'.den then decide (a.at'.num * b.at'.den < b.at'.num * a.at'.den) else (!a.aft && b.aft)
end Go.Proofs.YtbpilielamjnoaaGreat
namespace Go.Proofs.YtbpilielamjnoaaGreat
set_option linter.unusedVariables false
section
variable {α : Type} {lt : α → α → Prop}
theorem CanE.cons (ho : STO lt) {i : α × α} {l : List (α × α)} (h : lt i.1 i.2) (hl : CanE lt l) (ha : ∀ j ∈ l, lt i.2 j.1) : CanE lt (i :: l) := by
  cases l with
  | nil => exact h
  | cons j r => exact ⟨h, ha j List.mem_cons_self, hl⟩
end
end Go.Proofs.YtbpilielamjnoaaGreat
namespace Go.Proofs.YtbpilielamjnoaaGreat
open Go.RowKit
set_option linter.unusedSimpArgs false
set_option linter.unusedVariables false
set_option maxHeartbeats 400000 in
theorem gcd_c (a b : Nat) (w : World) (ha : a ≤ 18446744073709551615) (hb : b ≤ 18446744073709551615) :
    Calls Tryz.prog 184 #[.int .u64 a, .int .u64 b] w (RetV w (.int .u64 (Nat.gcd a b))) := by
  go_enter Tryz.func184, Tryz.ntmps184
  go_wp2
  go_loopw [0, 1] (fun u v wr => ∃ x y : Nat, x ≤ 18446744073709551615 ∧ y ≤ 18446744073709551615 ∧ u = .int .u64 x ∧ v = .int .u64 y ∧ Hid (Nat.gcd x y = Nat.gcd a b) ∧ Ext w wr) (fun _ v _ => (intOf v).toNat)
  case atStart => exact ⟨a, b, ha, hb, rfl, rfl, Lib.hid rfl, (by with_reducible repeat (first | assumption | exact Ext.rfl' _ | exact Ext.new _ _ | refine Ext.alloc' ?_ _ | refine Ext.drew' ?_ | refine Ext.drewN' ?_ _ | (refine Ext.set' ?_ ?_ _; rotate_left; focus (first | omega | (simp; done) | (simp; omega))) | (refine Ext.then (b := ?_) ?_ ?_; rotate_left; rotate_left; assumption)))⟩
  case round =>
    obtain ⟨x, y, hx, hy, rfl, rfl, hg, he⟩ := hrel
    by_cases hlt : 0 < y
    · go_wp2_with fail
      go_quiet (fail)
      go_wp2_with fail
      refine ⟨⟨y, x % y, hy, ?_, rfl, val_int (by simp), Lib.hid ?_, (by with_reducible repeat (first | assumption | exact Ext.rfl' _ | exact Ext.new _ _ | refine Ext.alloc' ?_ _ | refine Ext.drew' ?_ | refine Ext.drewN' ?_ _ | (refine Ext.set' ?_ ?_ _; rotate_left; focus (first | omega | (simp; done) | (simp; omega))) | (refine Ext.then (b := ?_) ?_ ?_; rotate_left; rotate_left; assumption)))⟩, ?_⟩
      · have := Nat.mod_lt x hlt; omega
      · rw [← hg.out]; rw [Nat.gcd_comm x y, Nat.gcd_rec y x, Nat.gcd_comm]
      · have := Nat.mod_lt x hlt; simp only [intOf]; rw [← Int.natCast_emod]; omega
    · go_wp2_with fail
      go_ret
      exact ⟨ret_int (by have := hg.out; obtain rfl : y = 0 := by omega
                         simp at this; rw [this]), (by with_reducible repeat (first | assumption | exact Ext.rfl' _ | exact Ext.new _ _ | refine Ext.alloc' ?_ _ | refine Ext.drew' ?_ | refine Ext.drewN' ?_ _ | (refine Ext.set' ?_ ?_ _; rotate_left; focus (first | omega | (simp; done) | (simp; omega))) | (refine Ext.then (b := ?_) ?_ ?_; rotate_left; rotate_left; assumption)))⟩
set_option maxHeartbeats 400000 in
theorem sizeI_c (n : Int) (w : World) (hn : I64 n) :
    Calls Tryz.prog 171 #[.int .i64 n] w (RetV w (.int .u64 n.natAbs)) := by
  obtain ⟨h1, h2⟩ := hn
  by_cases hneg : n < 0
  · go_enter Tryz.func171, Tryz.ntmps171
    go_wp2
    go_ret
    exact ⟨ret_int (by simp only [IntKind.wrap_u64]; omega), (by with_reducible repeat (first | assumption | exact Ext.rfl' _ | exact Ext.new _ _ | refine Ext.alloc' ?_ _ | refine Ext.drew' ?_ | refine Ext.drewN' ?_ _ | (refine Ext.set' ?_ ?_ _; rotate_left; focus (first | omega | (simp; done) | (simp; omega))) | (refine Ext.then (b := ?_) ?_ ?_; rotate_left; rotate_left; assumption)))⟩
  · go_enter Tryz.func171, Tryz.ntmps171
    go_wp2
    go_ret
    exact ⟨ret_int (by omega), (by with_reducible repeat (first | assumption | exact Ext.rfl' _ | exact Ext.new _ _ | refine Ext.alloc' ?_ _ | refine Ext.drew' ?_ | refine Ext.drewN' ?_ _ | (refine Ext.set' ?_ ?_ _; rotate_left; focus (first | omega | (simp; done) | (simp; omega))) | (refine Ext.then (b := ?_) ?_ ?_; rotate_left; rotate_left; assumption)))⟩
def ratErr (r : Rat2) (e : Int) : Value := .tuple #[.agg #[.int .i64 r.num, .int .i64 r.den], .int .i64 e]
def buildS (neg : Bool) (n d : Nat) : Rat2 × Int :=
  if 1099511627776 < n / Nat.gcd n d ∨ 1048576 < d / Nat.gcd n d then (⟨0, 0⟩, 5)
  else (⟨if neg then -((n / Nat.gcd n d : Nat) : Int) else (n / Nat.gcd n d : Nat), (d / Nat.gcd n d : Nat)⟩, 0)
def newS (num den : Int) : Rat2 × Int := if den = 0 then (⟨0, 0⟩, 1) else buildS (decide (num < 0) != decide (den < 0)) num.natAbs den.natAbs
set_option maxHeartbeats 400000 in
theorem build_c (neg : Bool) (n d : Nat) (w : World) (hn : n ≤ 18446744073709551615) (hd : d ≤ 18446744073709551615) (h0 : 0 < d) :
    Calls Tryz.prog 170 #[.bool neg, .int .u64 n, .int .u64 d] w (RetV w (ratErr (buildS neg n d).1 (buildS neg n d).2)) := by
  have hg : 0 < Nat.gcd n d := Nat.gcd_pos_of_pos_right _ h0
  have hgd : Nat.gcd n d ≤ d := Nat.gcd_le_right _ h0
  go_enter Tryz.func170, Tryz.ntmps170
  go_wp2_with fail
  refine (gcd_c n d _ hn hd).mono ?_
  rintro e w1 ⟨rfl, hb1⟩
  have ho1 : Own w1 w.heap.size #[.int .i64 0, .int .i64 0] 81 := (by repeat (first | (with_reducible assumption) | (with_reducible exact Own.new _ _ _) | (with_reducible refine Own.new' _ _ _ ?_; (focus (simp; done))) | (with_reducible refine Own.alloc ?_ _) | (with_reducible refine Own.drew ?_) | (with_reducible refine Own.drewN ?_ _) | (with_reducible refine Own.keep (w := ?_) ?_ ?_; rotate_left; (with_reducible assumption); (exact (by with_reducible repeat (first | assumption | exact Ext.rfl' _ | exact Ext.new _ _ | refine Ext.alloc' ?_ _ | refine Ext.drew' ?_ | refine Ext.drewN' ?_ _ | (refine Ext.set' ?_ ?_ _; rotate_left; focus (first | omega | (simp; done) | (simp; omega))) | (refine Ext.then (b := ?_) ?_ ?_; rotate_left; rotate_left; assumption))))) | (with_reducible refine Own.keep (w := ?_) ?_ ?_; rotate_left; rotate_left; (with_reducible assumption))))
  replace hb1 : Ext w w1 := (by with_reducible repeat (first | assumption | exact Ext.rfl' _ | exact Ext.new _ _ | refine Ext.alloc' ?_ _ | refine Ext.drew' ?_ | refine Ext.drewN' ?_ _ | (refine Ext.set' ?_ ?_ _; rotate_left; focus (first | omega | (simp; done) | (simp; omega))) | (refine Ext.then (b := ?_) ?_ ?_; rotate_left; rotate_left; assumption)))
  have hq1 : Hid (IntKind.u64.wrap (↑n / ↑(n.gcd d)) = ((n / n.gcd d : Nat) : Int)) := by
    show _ = _
    rw [IntKind.wrap_u64, ← Int.natCast_ediv]
    have := Nat.div_le_self n (n.gcd d); generalize n / n.gcd d = q at *; omega
  have hq2 : Hid (IntKind.u64.wrap (↑d / ↑(n.gcd d)) = ((d / n.gcd d : Nat) : Int)) := by
    show _ = _
    rw [IntKind.wrap_u64, ← Int.natCast_ediv]
    have := Nat.div_le_self d (n.gcd d); generalize d / n.gcd d = q at *; omega
  go_wp2_with fail
  go_quiet (fail)
  rw [hq1.out, hq2.out]
  have ho : Own (w1.drewN nq) w.heap.size #[.int .i64 0, .int .i64 0] 81 := (by repeat (first | (with_reducible assumption) | (with_reducible exact Own.new _ _ _) | (with_reducible refine Own.new' _ _ _ ?_; (focus (simp; done))) | (with_reducible refine Own.alloc ?_ _) | (with_reducible refine Own.drew ?_) | (with_reducible refine Own.drewN ?_ _) | (with_reducible refine Own.keep (w := ?_) ?_ ?_; rotate_left; (with_reducible assumption); (exact (by with_reducible repeat (first | assumption | exact Ext.rfl' _ | exact Ext.new _ _ | refine Ext.alloc' ?_ _ | refine Ext.drew' ?_ | refine Ext.drewN' ?_ _ | (refine Ext.set' ?_ ?_ _; rotate_left; focus (first | omega | (simp; done) | (simp; omega))) | (refine Ext.then (b := ?_) ?_ ?_; rotate_left; rotate_left; assumption))))) | (with_reducible refine Own.keep (w := ?_) ?_ ?_; rotate_left; rotate_left; (with_reducible assumption))))
  have hb : Ext w (w1.drewN nq) := (by with_reducible repeat (first | assumption | exact Ext.rfl' _ | exact Ext.new _ _ | refine Ext.alloc' ?_ _ | refine Ext.drew' ?_ | refine Ext.drewN' ?_ _ | (refine Ext.set' ?_ ?_ _; rotate_left; focus (first | omega | (simp; done) | (simp; omega))) | (refine Ext.then (b := ?_) ?_ ?_; rotate_left; rotate_left; assumption)))
  generalize w1.drewN nq = w2 at *
  clear hb1 ho1
  have hl := ho.lt
  obtain ⟨hoc, hof⟩ := ho.facts
  have hspec : buildS neg n d = if 1099511627776 < n / Nat.gcd n d ∨ 1048576 < d / Nat.gcd n d then (⟨0, 0⟩, 5)
      else (⟨if neg then -((n / Nat.gcd n d : Nat) : Int) else (n / Nat.gcd n d : Nat), (d / Nat.gcd n d : Nat)⟩, 0) := rfl
  have hql := Nat.div_le_self n (n.gcd d)
  have hml := Nat.div_le_self d (n.gcd d)
  have HS := Lib.hid hspec
  clear hspec hq1 hq2
  generalize n / Nat.gcd n d = q at *
  generalize d / Nat.gcd n d = m at *
  generalize Nat.gcd n d = g at *
  by_cases h1 : 1099511627776 < q
  · go_wp2_with fail
    exact bodyPost_ret (v := .tuple #[.agg #[.int .i64 0, .int .i64 0], .int .i64 5]) (by simp [results, Tryz.results170, go_sem, hoc, hof, hl]) rfl ⟨by rw [HS.out, if_pos (.inl h1)]; rfl, (by with_reducible repeat (first | assumption | exact Ext.rfl' _ | exact Ext.new _ _ | refine Ext.alloc' ?_ _ | refine Ext.drew' ?_ | refine Ext.drewN' ?_ _ | (refine Ext.set' ?_ ?_ _; rotate_left; focus (first | omega | (simp; done) | (simp; omega))) | (refine Ext.then (b := ?_) ?_ ?_; rotate_left; rotate_left; assumption)))⟩
  · by_cases h2 : 1048576 < m
    · go_wp2_with fail
      exact bodyPost_ret (v := .tuple #[.agg #[.int .i64 0, .int .i64 0], .int .i64 5]) (by simp [results, Tryz.results170, go_sem, hoc, hof, hl]) rfl ⟨by rw [HS.out, if_pos (.inr h2)]; rfl, (by with_reducible repeat (first | assumption | exact Ext.rfl' _ | exact Ext.new _ _ | refine Ext.alloc' ?_ _ | refine Ext.drew' ?_ | refine Ext.drewN' ?_ _ | (refine Ext.set' ?_ ?_ _; rotate_left; focus (first | omega | (simp; done) | (simp; omega))) | (refine Ext.then (b := ?_) ?_ ?_; rotate_left; rotate_left; assumption)))⟩
    · cases neg with
      | true =>
        go_wp2_with fail
        exact bodyPost_ret (v := .tuple #[.agg #[.int .i64 (-q), .int .i64 m], .int .i64 0]) (by simp [results, Tryz.results170, go_sem, hoc, hof, hl]) rfl ⟨by rw [HS.out, if_neg (by omega)]; rfl, (by with_reducible repeat (first | assumption | exact Ext.rfl' _ | exact Ext.new _ _ | refine Ext.alloc' ?_ _ | refine Ext.drew' ?_ | refine Ext.drewN' ?_ _ | (refine Ext.set' ?_ ?_ _; rotate_left; focus (first | omega | (simp; done) | (simp; omega))) | (refine Ext.then (b := ?_) ?_ ?_; rotate_left; rotate_left; assumption)))⟩
      | false =>
        go_wp2_with fail
        exact bodyPost_ret (v := .tuple #[.agg #[.int .i64 q, .int .i64 m], .int .i64 0]) (by simp [results, Tryz.results170, go_sem, hoc, hof, hl]) rfl ⟨by rw [HS.out, if_neg (by omega)]; rfl, (by with_reducible repeat (first | assumption | exact Ext.rfl' _ | exact Ext.new _ _ | refine Ext.alloc' ?_ _ | refine Ext.drew' ?_ | refine Ext.drewN' ?_ _ | (refine Ext.set' ?_ ?_ _; rotate_left; focus (first | omega | (simp; done) | (simp; omega))) | (refine Ext.then (b := ?_) ?_ ?_; rotate_left; rotate_left; assumption)))⟩
set_option maxHeartbeats 400000 in
theorem new_c (num den : Int) (w : World) (hn : I64 num) (hd : I64 den) :
    Calls Tryz.prog 161 #[.int .i64 num, .int .i64 den] w (RetV w (ratErr (newS num den).1 (newS num den).2)) := by
  obtain ⟨hn1, hn2⟩ := hn
  obtain ⟨hd1, hd2⟩ := hd
  by_cases h0 : den = 0
  · subst h0
    go_enter Tryz.func161, Tryz.ntmps161
    go_wp2_with fail
    exact bodyPost_ret (v := .tuple #[.agg #[.int .i64 0, .int .i64 0], .int .i64 1]) (by simp [results, Tryz.results161, go_sem]) rfl ⟨rfl, (by with_reducible repeat (first | assumption | exact Ext.rfl' _ | exact Ext.new _ _ | refine Ext.alloc' ?_ _ | refine Ext.drew' ?_ | refine Ext.drewN' ?_ _ | (refine Ext.set' ?_ ?_ _; rotate_left; focus (first | omega | (simp; done) | (simp; omega))) | (refine Ext.then (b := ?_) ?_ ?_; rotate_left; rotate_left; assumption)))⟩
  · go_enter Tryz.func161, Tryz.ntmps161
    go_wp2_with fail
    refine (sizeI_c num _ ⟨hn1, hn2⟩).mono ?_
    rintro e w1 ⟨rfl, hb1⟩
    go_wp2_with fail
    refine (sizeI_c den _ ⟨hd1, hd2⟩).mono ?_
    rintro e w2 ⟨rfl, hb2⟩
    go_wp2_with fail
    refine (build_c _ num.natAbs den.natAbs _ (by omega) (by omega) (by omega)).mono ?_
    rintro e w3 ⟨rfl, hb3⟩
    have ho : Own w3 w.heap.size #[.int .i64 0, .int .i64 0] 81 := (by repeat (first | (with_reducible assumption) | (with_reducible exact Own.new _ _ _) | (with_reducible refine Own.new' _ _ _ ?_; (focus (simp; done))) | (with_reducible refine Own.alloc ?_ _) | (with_reducible refine Own.drew ?_) | (with_reducible refine Own.drewN ?_ _) | (with_reducible refine Own.keep (w := ?_) ?_ ?_; rotate_left; (with_reducible assumption); (exact (by with_reducible repeat (first | assumption | exact Ext.rfl' _ | exact Ext.new _ _ | refine Ext.alloc' ?_ _ | refine Ext.drew' ?_ | refine Ext.drewN' ?_ _ | (refine Ext.set' ?_ ?_ _; rotate_left; focus (first | omega | (simp; done) | (simp; omega))) | (refine Ext.then (b := ?_) ?_ ?_; rotate_left; rotate_left; assumption))))) | (with_reducible refine Own.keep (w := ?_) ?_ ?_; rotate_left; rotate_left; (with_reducible assumption))))
    have hb : Ext w w3 := (by with_reducible repeat (first | assumption | exact Ext.rfl' _ | exact Ext.new _ _ | refine Ext.alloc' ?_ _ | refine Ext.drew' ?_ | refine Ext.drewN' ?_ _ | (refine Ext.set' ?_ ?_ _; rotate_left; focus (first | omega | (simp; done) | (simp; omega))) | (refine Ext.then (b := ?_) ?_ ?_; rotate_left; rotate_left; assumption)))
    clear hb1 hb2 hb3
    have hs : newS num den = buildS (!(decide (num < 0) == decide (den < 0))) num.natAbs den.natAbs := by rw [newS, if_neg h0]; rfl
    rw [← hs]
    have HS := Lib.hid hs; clear hs
    have hl := ho.lt
    obtain ⟨hoc, hof⟩ := ho.facts
    unfold ratErr
    go_wp2_with fail
    exact bodyPost_ret (v := ratErr (newS num den).1 (newS num den).2) (by simp [ratErr, results, Tryz.results161, go_sem, hoc, hof, hl]) rfl ⟨rfl, (by with_reducible repeat (first | assumption | exact Ext.rfl' _ | exact Ext.new _ _ | refine Ext.alloc' ?_ _ | refine Ext.drew' ?_ | refine Ext.drewN' ?_ _ | (refine Ext.set' ?_ ?_ _; rotate_left; focus (first | omega | (simp; done) | (simp; omega))) | (refine Ext.then (b := ?_) ?_ ?_; rotate_left; rotate_left; assumption)))⟩
end Go.Proofs.YtbpilielamjnoaaGreat
namespace Go.Proofs.YtbpilielamjnoaaGreat
open Go.RowKit
set_option linter.unusedSimpArgs false
set_option linter.unusedVariables false
def RatOk (r : Rat2) : Prop := 1 ≤ r.den ∧ r.den ≤ 1048576 ∧ r.num.natAbs ≤ 1099511627776 ∧ Nat.gcd r.num.natAbs r.den.natAbs = 1
instance (r : Rat2) : Decidable (RatOk r) := by unfold RatOk; infer_instance
theorem newS_ok (r : Rat2) (h : 1 ≤ r.den) : ((newS r.num r.den).2 = 0 ∧ (newS r.num r.den).1 = r) ↔ RatOk r := by
  obtain ⟨num, den⟩ := r
  simp only at h
  have hd : den ≠ 0 := by omega
  have hdn : decide (den < 0) = false := by simp; omega
  have hgp : 0 < Nat.gcd num.natAbs den.natAbs := Nat.gcd_pos_of_pos_right _ (by omega)
  have h1 := Nat.div_mul_cancel (Nat.gcd_dvd_left num.natAbs den.natAbs)
  have h2 := Nat.div_mul_cancel (Nat.gcd_dvd_right num.natAbs den.natAbs)
  simp only [newS, if_neg hd, buildS, hdn, Bool.bne_false, RatOk]
  generalize Nat.gcd num.natAbs den.natAbs = g at *
  generalize hq : num.natAbs / g = q at *
  generalize hm : den.natAbs / g = m at *
  split
  · constructor
    · rintro ⟨h3, _⟩; simp at h3
    · rintro ⟨_, h4, h5, h6⟩
      subst h6
      simp at h1 h2
      omega
  · rename_i hlim
    constructor
    · rintro ⟨_, h3⟩
      have h4 := congrArg Rat2.den h3
      have h5 := congrArg Rat2.num h3
      simp only at h4 h5
      have h6 : m = den.natAbs := by omega
      have h7 : g = 1 := by
        rw [h6] at h2
        have : den.natAbs * g = den.natAbs * 1 := by omega
        exact Nat.eq_of_mul_eq_mul_left (by omega) this
      subst h7
      simp at h1 h2
      exact ⟨h, by omega, by omega, rfl⟩
    · rintro ⟨_, h4, h5, h6⟩
      subst h6
      simp at h1 h2
      refine ⟨rfl, ?_⟩
      by_cases hn : num < 0
      · simp only [hn, decide_true, if_true]; congr 1 <;> omega
      · have : decide (num < 0) = false := by simpa using hn
        rw [this]; simp only [Bool.false_eq_true, if_false]; congr 1 <;> omega
set_option maxHeartbeats 400000 in
theorem ratValid_c (r : Rat2) (w : World) (hn : I64 r.num) (hd : I64 r.den) :
    Calls Tryz.prog 136 #[.agg #[.int .i64 r.num, .int .i64 r.den]] w (RetV w (.int .i64 (ErrIf (RatOk r) 1))) := by
  by_cases hlt : r.den < 1
  · have hs : ¬ RatOk r := by unfold RatOk; omega
    have hs := Lib.hid hs
    go_enter Tryz.func136, Tryz.ntmps136
    go_wp2_with fail
    go_ret
    exact ⟨ret_ek hs.out, (by with_reducible repeat (first | assumption | exact Ext.rfl' _ | exact Ext.new _ _ | refine Ext.alloc' ?_ _ | refine Ext.drew' ?_ | refine Ext.drewN' ?_ _ | (refine Ext.set' ?_ ?_ _; rotate_left; focus (first | omega | (simp; done) | (simp; omega))) | (refine Ext.then (b := ?_) ?_ ?_; rotate_left; rotate_left; assumption)))⟩
  · have hs := Lib.hid (newS_ok r (by omega))
    go_enter Tryz.func136, Tryz.ntmps136
    go_wp2_with fail
    refine (new_c r.num r.den _ hn hd).mono ?_
    rintro e w1 ⟨rfl, hb1⟩
    have ho : Own w1 w.heap.size #[.int .i64 r.num, .int .i64 r.den] 81 := (by repeat (first | (with_reducible assumption) | (with_reducible exact Own.new _ _ _) | (with_reducible refine Own.new' _ _ _ ?_; (focus (simp; done))) | (with_reducible refine Own.alloc ?_ _) | (with_reducible refine Own.drew ?_) | (with_reducible refine Own.drewN ?_ _) | (with_reducible refine Own.keep (w := ?_) ?_ ?_; rotate_left; (with_reducible assumption); (exact (by with_reducible repeat (first | assumption | exact Ext.rfl' _ | exact Ext.new _ _ | refine Ext.alloc' ?_ _ | refine Ext.drew' ?_ | refine Ext.drewN' ?_ _ | (refine Ext.set' ?_ ?_ _; rotate_left; focus (first | omega | (simp; done) | (simp; omega))) | (refine Ext.then (b := ?_) ?_ ?_; rotate_left; rotate_left; assumption))))) | (with_reducible refine Own.keep (w := ?_) ?_ ?_; rotate_left; rotate_left; (with_reducible assumption))))
    replace hb1 : Ext w w1 := (by with_reducible repeat (first | assumption | exact Ext.rfl' _ | exact Ext.new _ _ | refine Ext.alloc' ?_ _ | refine Ext.drew' ?_ | refine Ext.drewN' ?_ _ | (refine Ext.set' ?_ ?_ _; rotate_left; focus (first | omega | (simp; done) | (simp; omega))) | (refine Ext.then (b := ?_) ?_ ?_; rotate_left; rotate_left; assumption)))
    have hl := ho.lt
    obtain ⟨hoc, hof⟩ := ho.facts
    unfold ratErr
    by_cases he : (newS r.num r.den).2 = 0
    · by_cases hr : (newS r.num r.den).1 = r
      · have h1 : (newS r.num r.den).1.num = r.num := by rw [hr]
        have h2 : (newS r.num r.den).1.den = r.den := by rw [hr]
        rw [h1, h2, he]
        have hok := Lib.hid (hs.out.1 ⟨he, hr⟩)
        clear hr h1 h2 he hs
        go_wp2_with fail
        go_ret
        exact ⟨ret_e0 hok.out, (by with_reducible repeat (first | assumption | exact Ext.rfl' _ | exact Ext.new _ _ | refine Ext.alloc' ?_ _ | refine Ext.drew' ?_ | refine Ext.drewN' ?_ _ | (refine Ext.set' ?_ ?_ _; rotate_left; focus (first | omega | (simp; done) | (simp; omega))) | (refine Ext.then (b := ?_) ?_ ?_; rotate_left; rotate_left; assumption)))⟩
      · have hok : Hid (¬ RatOk r) := fun h => hr (hs.out.2 h).2
        have hne : (((newS r.num r.den).1.num == r.num) && ((newS r.num r.den).1.den == r.den)) = false := by
          rw [Bool.eq_false_iff]; intro h
          simp at h
          apply hr
          cases hx : (newS r.num r.den).1; cases r; simp_all
        rw [he]
        clear hr he hs
        generalize (newS r.num r.den).1.num = x at *
        generalize (newS r.num r.den).1.den = y at *
        go_wp2_with fail
        all_goals first | (exfalso; simp_all; done) | (go_ret; exact ⟨ret_ek hok.out, (by with_reducible repeat (first | assumption | exact Ext.rfl' _ | exact Ext.new _ _ | refine Ext.alloc' ?_ _ | refine Ext.drew' ?_ | refine Ext.drewN' ?_ _ | (refine Ext.set' ?_ ?_ _; rotate_left; focus (first | omega | (simp; done) | (simp; omega))) | (refine Ext.then (b := ?_) ?_ ?_; rotate_left; rotate_left; assumption)))⟩)
    · have hok : Hid (¬ RatOk r) := fun h => he (hs.out.2 h).1
      have he' : ((newS r.num r.den).2 == 0) = false := by simpa using he
      clear he hs
      generalize (newS r.num r.den).2 = z at *
      go_wp2_with fail
      all_goals first | (exfalso; simp_all; done) | (go_ret; exact ⟨ret_ek hok.out, (by with_reducible repeat (first | assumption | exact Ext.rfl' _ | exact Ext.new _ _ | refine Ext.alloc' ?_ _ | refine Ext.drew' ?_ | refine Ext.drewN' ?_ _ | (refine Ext.set' ?_ ?_ _; rotate_left; focus (first | omega | (simp; done) | (simp; omega))) | (refine Ext.then (b := ?_) ?_ ?_; rotate_left; rotate_left; assumption)))⟩)
def GoodP (r : Rat2) : Prop := RatOk r ∧ r.den ≤ 65536
instance (r : Rat2) : Decidable (GoodP r) := by unfold GoodP; infer_instance
end Go.Proofs.YtbpilielamjnoaaGreat
namespace Go.Proofs.YtbpilielamjnoaaGreat
set_option linter.unusedVariables false
set_option linter.unusedSimpArgs false
structure Itv where
  lo : Rat2
  hi : Rat2
  loO : Bool
  hiO : Bool
  loI : Bool
  hiI : Bool
  deriving DecidableEq
def smallB (r : Rat2) : Bool := decide (RatOk r) && decide (r.num.natAbs ≤ 1073741824) && decide (r.den ≤ 32768)
theorem smallB_iff {r : Rat2} : smallB r = true ↔ RatOk r ∧ r.num.natAbs ≤ 1073741824 ∧ r.den ≤ 32768 := by
  simp [smallB, and_assoc]
theorem RatOk.ok {r : Rat2} (h : RatOk r) : r.ok := ⟨by have := h.1; omega, h.2.2.2⟩
theorem smallB_ok {r : Rat2} (h : smallB r = true) : r.ok := (smallB_iff.1 h).1.ok
def botE : En := ⟨-1, ⟨0, 0⟩, false⟩
def topE : En := ⟨1, ⟨0, 0⟩, false⟩
def loE (x : Itv) : En := if x.loI then botE else ⟨0, x.lo, x.loO⟩
def hiE (x : Itv) : En := if x.hiI then topE else ⟨0, x.hi, !x.hiO⟩
def limB (r : Rat2) (o inf : Bool) : Bool := if inf then r == ⟨0, 0⟩ && !o else smallB r
def goodB (x : Itv) : Bool := limB x.lo x.loO x.loI && limB x.hi x.hiO x.hiI && lessE (loE x) (hiE x)
/-- an end that is small -/
def En.sm (e : En) : Prop := (e.far = 0 ∧ smallB e.at' = true) ∨ e = botE ∨ e = topE
theorem En.sm.ok {e : En} (h : e.sm) : e.ok := by
  rcases h with ⟨h1, h2⟩ | rfl | rfl
  · exact .inl ⟨h1, smallB_ok h2⟩
  · exact .inr ⟨.inl rfl, rfl, rfl⟩
  · exact .inr ⟨.inr rfl, rfl, rfl⟩
theorem limB_lo {x : Itv} (h : limB x.lo x.loO x.loI = true) : (loE x).sm := by
  unfold loE
  unfold limB at h
  split
  · exact .inr (.inl rfl)
  · rename_i hi
    rw [if_neg hi] at h
    exact .inl ⟨rfl, h⟩
theorem limB_hi {x : Itv} (h : limB x.hi x.hiO x.hiI = true) : (hiE x).sm := by
  unfold hiE
  unfold limB at h
  split
  · exact .inr (.inr rfl)
  · rename_i hi
    rw [if_neg hi] at h
    exact .inl ⟨rfl, h⟩
theorem goodB_iff {x : Itv} : goodB x = true ↔ limB x.lo x.loO x.loI = true ∧ limB x.hi x.hiO x.hiI = true ∧ lessE (loE x) (hiE x) = true := by
  simp [goodB, and_assoc]
theorem goodB.lo {x : Itv} (h : goodB x = true) : (loE x).sm := limB_lo (goodB_iff.1 h).1
theorem goodB.hi {x : Itv} (h : goodB x = true) : (hiE x).sm := limB_hi (goodB_iff.1 h).2.1
theorem goodB.lt {x : Itv} (h : goodB x = true) : lessE (loE x) (hiE x) = true := (goodB_iff.1 h).2.2
/-- what begins at e is in the interval, in the set -/
def insB (x : Itv) (e : En) : Bool := !lessE e (loE x) && lessE e (hiE x)
/-- the error of a set -/
def setF : Option Itv → List Itv → Bool
  | _, [] => true
  | p, x :: r => goodB x && (match p with | none => true | some y => lessE (hiE y) (loE x)) && setF (some x) r
def setE (l : List Itv) : Int := if setF none l = false then 1 else if 32 < l.length then 4 else 0
/-- whether a ratio is a number of an interval -/
def hasB (x : Itv) (r : Rat2) : Bool := insB x ⟨0, r, false⟩
def lessR (a b : Rat2) : Bool := decide (a.num * b.den < b.num * a.den)
/-- what comes back -/
def fewE (l : List Itv) : List Itv × Int := if 32 < l.length then ([], 4) else (l, 0)
end Go.Proofs.YtbpilielamjnoaaGreat
namespace Go.Proofs.YtbpilielamjnoaaGreat
open Go.RowKit
set_option linter.unusedVariables false
theorem sliceArr {α : Type} {E : PH → List Value → α → Prop} {sz : Nat} {w : World} {b n : Nat} {cur : Array Value} {T : TypeId} {xs : List α} (hO : Own w b cur T) (hc : Cells (ph w) E sz cur.toList xs) (hn : n = xs.length) (hm : n ≤ maxLen) :
    SliceRep E sz (ph w) (.slice (some ⟨b, 0, none⟩) n n) xs := by
  subst hn
  refine ⟨_, _, rfl, Nat.le_refl _, hm, .inr ⟨b, 0, rfl, hc.row (fun _ _ h => h) fun j u hu => ?_⟩⟩
  rw [← cell_ph, Nat.zero_add, hO.facts.1]
  simpa using hu
end Go.Proofs.YtbpilielamjnoaaGreat
namespace Go.Proofs.YtbpilielamjnoaaGreat
open Go.RowKit Go.Shelf
set_option linter.unusedSimpArgs false
set_option linter.unusedVariables false
def enA (e : En) : Value := .agg #[.int .i64 e.far, .int .i64 e.at'.num, .int .i64 e.at'.den, .bool e.aft]
def itC (x : Itv) : List Value := [.int .i64 x.lo.num, .int .i64 x.lo.den, .int .i64 x.hi.num, .int .i64 x.hi.den, .bool x.loO, .bool x.hiO, .bool x.loI, .bool x.hiI]
def itA (x : Itv) : Value := .agg #[.int .i64 x.lo.num, .int .i64 x.lo.den, .int .i64 x.hi.num, .int .i64 x.hi.den, .bool x.loO, .bool x.hiO, .bool x.loI, .bool x.hiI]
def raA (r : Rat2) : Value := .agg #[.int .i64 r.num, .int .i64 r.den]
def Rat2.I (r : Rat2) : Prop := I64 r.num ∧ I64 r.den
def Itv.I (x : Itv) : Prop := x.lo.I ∧ x.hi.I
def ItvR (_ : PH) (cs : List Value) (x : Itv) : Prop := cs = itC x ∧ x.I
theorem mono_ItvR : Mono ItvR := fun _ _ _ _ _ h => h
abbrev ItvsR : PH → Value → List Itv → Prop := SliceRep ItvR 8
def En.I (e : En) : Prop := I64 e.far ∧ e.at'.I
/-- numbers of a small end -/
def En.bd (e : En) : Prop := -1 ≤ e.far ∧ e.far ≤ 1 ∧ -1073741824 ≤ e.at'.num ∧ e.at'.num ≤ 1073741824 ∧ 0 ≤ e.at'.den ∧ e.at'.den ≤ 32768
theorem En.sm.bd {e : En} (h : e.sm) : e.bd := by
  unfold En.bd
  rcases h with ⟨h1, h2⟩ | rfl | rfl
  · obtain ⟨⟨h3, -⟩, h4, h5⟩ := smallB_iff.1 h2
    omega
  · simp [botE]
  · simp [topE]
theorem mul_bd {x y : Int} (h1 : -1073741824 ≤ x) (h2 : x ≤ 1073741824) (h3 : 0 ≤ y) (h4 : y ≤ 32768) : -35184372088832 ≤ x * y ∧ x * y ≤ 35184372088832 := by
  have e1 : x * y ≤ 1073741824 * 32768 := Int.le_trans (Int.mul_le_mul_of_nonneg_right h2 h3) (Int.mul_le_mul_of_nonneg_left h4 (by omega))
  have e2 : -1073741824 * 32768 ≤ x * y := by
    have : -1073741824 * y ≤ x * y := Int.mul_le_mul_of_nonneg_right h1 h3
    omega
  omega
theorem wrap_id {x : Int} (h1 : -9223372036854775808 ≤ x) (h2 : x ≤ 9223372036854775807) : IntKind.i64.wrap x = x := by rw [IntKind.wrap_i64]; omega
theorem wrap64_id {x : Int} (h1 : -9223372036854775808 ≤ x) (h2 : x ≤ 9223372036854775807) : wrap64 x = x := by rw [← IntWalk.i64_left]; exact wrap_id h1 h2
set_option maxRecDepth 100000 in
set_option maxHeartbeats 1000000 in
theorem less_c (a b : En) (w : World) (ha : a.bd) (hb : b.bd) : Calls Tryz.prog 128 #[enA a, enA b] w (RetV w (.bool (lessE a b))) := by
  obtain ⟨f, ⟨n, d⟩, t⟩ := a
  obtain ⟨f', ⟨n', d'⟩, t'⟩ := b
  obtain ⟨-, -, a1, a2, a3, a4⟩ := ha
  obtain ⟨-, -, b1, b2, b3, b4⟩ := hb
  dsimp only at a1 a2 a3 a4 b1 b2 b3 b4
  have m1 := mul_bd a1 a2 b3 b4
  have m2 := mul_bd b1 b2 a3 a4
  have w1 : IntKind.i64.wrap (n * d') = n * d' := wrap_id (by omega) (by omega)
  have w2 : IntKind.i64.wrap (n' * d) = n' * d := wrap_id (by omega) (by omega)
  clear a1 a2 a3 a4 b1 b2 b3 b4
  unfold enA
  dsimp only
  have hx : Ext w ((w.alloc (.cells #[.int .i64 f, .int .i64 n, .int .i64 d, .bool t] 139)).alloc (.cells #[.int .i64 f', .int .i64 n', .int .i64 d', .bool t'] 139)) := (by with_reducible repeat (first | assumption | exact Ext.rfl' _ | exact Ext.new _ _ | refine Ext.alloc' ?_ _ | refine Ext.drew' ?_ | refine Ext.drewN' ?_ _ | (refine Ext.set' ?_ ?_ _; rotate_left; focus (first | omega | (simp; done) | (simp; omega))) | (refine Ext.then (b := ?_) ?_ ?_; rotate_left; rotate_left; assumption)))
  by_cases hf : f = f'
  · subst hf
    by_cases h0 : f = 0
    · subst h0
      have hs : Hid (lessE ⟨0, ⟨n, d⟩, t⟩ ⟨0, ⟨n', d'⟩, t'⟩ = if n * d' ≠ n' * d then decide (n * d' < n' * d) else (!t && t')) := by
        show _ = _
        unfold lessE
        rw [if_neg (by simp), if_neg (by simp)]
      have w3 : wrap64 (n * d') = n * d' := wrap64_id (by omega) (by omega)
      have w4 : wrap64 (n' * d) = n' * d := wrap64_id (by omega) (by omega)
      generalize lessE _ _ = q at hs ⊢
      by_cases hxy : n * d' = n' * d
      · rw [if_neg (by simpa using hxy)] at hs
        replace hxy := Lib.hid hxy
        go_enter Tryz.func128, Tryz.ntmps128
        go_wp2_with fail
        go_quiet (fail)
        rw [hxy.out]
        generalize n' * d = y at *
        cases t <;> (go_wp2_with fail; go_ret; exact ⟨ret_bool (by rw [hs.out]; first | rfl | simp), (by with_reducible repeat (first | assumption | exact Ext.rfl' _ | exact Ext.new _ _ | refine Ext.alloc' ?_ _ | refine Ext.drew' ?_ | refine Ext.drewN' ?_ _ | (refine Ext.set' ?_ ?_ _; rotate_left; focus (first | omega | (simp; done) | (simp; omega))) | (refine Ext.then (b := ?_) ?_ ?_; rotate_left; rotate_left; assumption)))⟩)
      · rw [if_pos hxy] at hs
        go_enter Tryz.func128, Tryz.ntmps128
        go_wp2_with fail
        go_quiet (fail)
        have hb : (n * d' != n' * d) = true := by simpa using hxy
        generalize n * d' = x at *
        generalize n' * d = y at *
        clear w1 w2 w3 w4
        go_wp2_with fail
        go_ret
        exact ⟨ret_bool hs.out.symm, (by with_reducible repeat (first | assumption | exact Ext.rfl' _ | exact Ext.new _ _ | refine Ext.alloc' ?_ _ | refine Ext.drew' ?_ | refine Ext.drewN' ?_ _ | (refine Ext.set' ?_ ?_ _; rotate_left; focus (first | omega | (simp; done) | (simp; omega))) | (refine Ext.then (b := ?_) ?_ ?_; rotate_left; rotate_left; assumption)))⟩
    · have hs : Hid (lessE ⟨f, ⟨n, d⟩, t⟩ ⟨f, ⟨n', d'⟩, t'⟩ = false) := by
        show _ = _
        unfold lessE
        rw [if_neg (by simp), if_pos h0]
      generalize lessE _ _ = q at hs ⊢
      have hb : (f != 0) = true := by simpa using h0
      go_enter Tryz.func128, Tryz.ntmps128
      go_wp2_with fail
      go_ret
      exact ⟨ret_bool hs.out.symm, (by with_reducible repeat (first | assumption | exact Ext.rfl' _ | exact Ext.new _ _ | refine Ext.alloc' ?_ _ | refine Ext.drew' ?_ | refine Ext.drewN' ?_ _ | (refine Ext.set' ?_ ?_ _; rotate_left; focus (first | omega | (simp; done) | (simp; omega))) | (refine Ext.then (b := ?_) ?_ ?_; rotate_left; rotate_left; assumption)))⟩
  · have hs : Hid (lessE ⟨f, ⟨n, d⟩, t⟩ ⟨f', ⟨n', d'⟩, t'⟩ = decide (f < f')) := by
      show _ = _
      unfold lessE
      rw [if_pos hf]
    generalize lessE _ _ = q at hs ⊢
    have hb : (f != f') = true := by simpa using hf
    go_enter Tryz.func128, Tryz.ntmps128
    go_wp2_with fail
    go_ret
    exact ⟨ret_bool hs.out.symm, (by with_reducible repeat (first | assumption | exact Ext.rfl' _ | exact Ext.new _ _ | refine Ext.alloc' ?_ _ | refine Ext.drew' ?_ | refine Ext.drewN' ?_ _ | (refine Ext.set' ?_ ?_ _; rotate_left; focus (first | omega | (simp; done) | (simp; omega))) | (refine Ext.then (b := ?_) ?_ ?_; rotate_left; rotate_left; assumption)))⟩
end Go.Proofs.YtbpilielamjnoaaGreat
namespace Go.Proofs.YtbpilielamjnoaaGreat
open Go.RowKit Go.Shelf
set_option linter.unusedSimpArgs false
set_option linter.unusedVariables false
/-- a box of its own, made since -/
def endsV (x : Itv) : Value := .tuple #[enA (loE x), enA (hiE x)]
set_option maxRecDepth 100000 in
set_option maxHeartbeats 2000000 in
theorem ends_c (x : Itv) (w : World) : Calls Tryz.prog 127 #[itA x] w (RetV w (endsV x)) := by
  obtain ⟨⟨a, b⟩, ⟨c, d⟩, lO, hO, lI, hI⟩ := x
  unfold itA
  dsimp only
  go_enter Tryz.func127, Tryz.ntmps127
  go_upto_region 1 with (fail)
  have hX : Ext w (((w.alloc (.cells #[.int .i64 a, .int .i64 b, .int .i64 c, .int .i64 d, .bool lO, .bool hO, .bool lI, .bool hI] 96)).alloc (.cells #[.int .i64 0, .int .i64 0, .int .i64 0, .bool false] 139)).alloc (.cells #[.int .i64 0, .int .i64 0, .int .i64 0, .bool false] 139)) := (by with_reducible repeat (first | assumption | exact Ext.rfl' _ | exact Ext.new _ _ | refine Ext.alloc' ?_ _ | refine Ext.drew' ?_ | refine Ext.drewN' ?_ _ | (refine Ext.set' ?_ ?_ _; rotate_left; focus (first | omega | (simp; done) | (simp; omega))) | (refine Ext.then (b := ?_) ?_ ?_; rotate_left; rotate_left; assumption)))
  have hO1 := ((Own.new w #[.int .i64 a, .int .i64 b, .int .i64 c, .int .i64 d, .bool lO, .bool hO, .bool lI, .bool hI] 96).alloc (.cells #[.int .i64 0, .int .i64 0, .int .i64 0, .bool false] 139)).alloc (.cells #[.int .i64 0, .int .i64 0, .int .i64 0, .bool false] 139)
  obtain ⟨of, og⟩ := hO1.facts
  have o0 : _ = some (Value.int .i64 a) := of 0
  have o1 : _ = some (Value.int .i64 b) := of 1
  have o2 : _ = some (Value.int .i64 c) := of 2
  have o3 : _ = some (Value.int .i64 d) := of 3
  have o4 : _ = some (Value.bool lO) := of 4
  have o5 : _ = some (Value.bool hO) := of 5
  have o6 : _ = some (Value.bool lI) := of 6
  have o7 : _ = some (Value.bool hI) := of 7
  have hsz := hO1.lt
  clear of og hO1
  have hsz2 : w.heap.size + 1 + 1 < (((w.alloc (.cells #[.int .i64 a, .int .i64 b, .int .i64 c, .int .i64 d, .bool lO, .bool hO, .bool lI, .bool hI] 96)).alloc (.cells #[.int .i64 0, .int .i64 0, .int .i64 0, .bool false] 139)).alloc (.cells #[.int .i64 0, .int .i64 0, .int .i64 0, .bool false] 139)).heap.size := by simp
  have p2 := (Own.new' (w.alloc (.cells #[.int .i64 a, .int .i64 b, .int .i64 c, .int .i64 d, .bool lO, .bool hO, .bool lI, .bool hI] 96)) #[.int .i64 0, .int .i64 0, .int .i64 0, .bool false] 139 (n := w.heap.size + 1) (by simp)).alloc (.cells #[.int .i64 0, .int .i64 0, .int .i64 0, .bool false] 139)
  have p3 := Own.new' ((w.alloc (.cells #[.int .i64 a, .int .i64 b, .int .i64 c, .int .i64 d, .bool lO, .bool hO, .bool lI, .bool hI] 96)).alloc (.cells #[.int .i64 0, .int .i64 0, .int .i64 0, .bool false] 139)) #[.int .i64 0, .int .i64 0, .int .i64 0, .bool false] 139 (n := w.heap.size + 1 + 1) (by simp)
  generalize ((w.alloc _).alloc _).alloc _ = W at *
  replace p2 := Lib.hid p2
  replace p3 := Lib.hid p3
  go_cut [4, 5] (fun v4 v5 wx => ∃ g4 g5, v4 = .pointer (some ⟨g4, 0, none⟩) ∧ v5 = .pointer (some ⟨g5, 0, none⟩) ∧ g4 ≠ g5 ∧ W.heap.size ≤ g4 ∧ W.heap.size ≤ g5 ∧ Own wx g4 #[.int .i64 0, .int .i64 a, .int .i64 b, .bool lO] 139 ∧ Own wx g5 #[.int .i64 0, .int .i64 c, .int .i64 d, .bool !hO] 139 ∧ Ext W wx)
  case first =>
    go_region
    · go_wp2_with fail
      go_meet
      case rel => exact ⟨_, _, rfl, rfl, by omega, by omega, by omega, (Own.new W _ _).alloc _, Own.new' _ _ _ (by simp), (by with_reducible repeat (first | assumption | exact Ext.rfl' _ | exact Ext.new _ _ | refine Ext.alloc' ?_ _ | refine Ext.drew' ?_ | refine Ext.drewN' ?_ _ | (refine Ext.set' ?_ ?_ _; rotate_left; focus (first | omega | (simp; done) | (simp; omega))) | (refine Ext.then (b := ?_) ?_ ?_; rotate_left; rotate_left; assumption)))⟩
    · go_wp2_with fail
      go_meet
      case rel => exact ⟨_, _, rfl, rfl, by omega, by omega, by omega, Own.new' _ _ _ (by simp), (Own.new W _ _).alloc _, (by with_reducible repeat (first | assumption | exact Ext.rfl' _ | exact Ext.new _ _ | refine Ext.alloc' ?_ _ | refine Ext.drew' ?_ | refine Ext.drewN' ?_ _ | (refine Ext.set' ?_ ?_ _; rotate_left; focus (first | omega | (simp; done) | (simp; omega))) | (refine Ext.then (b := ?_) ?_ ?_; rotate_left; rotate_left; assumption)))⟩
  case rest =>
    obtain ⟨g4, g5, rfl, rfl, hne, l4, l5, q4, q5, hx⟩ := hcut
    replace o6 := hx.cell1 o6
    replace o7 := hx.cell1 o7
    replace p2 := p2.out.keep hx
    replace p3 := p3.out.keep hx
    replace hX := hX.then hx
    have hsz3 := hx.size
    clear o0 o1 o2 o3 o4 o5
    have n5 : g4 ≠ w.heap.size := by omega
    have n6 : g5 ≠ w.heap.size := by omega
    have hv : Hid (endsV ⟨⟨a, b⟩, ⟨c, d⟩, lO, hO, lI, hI⟩ = .tuple #[enA (if lI then botE else ⟨0, ⟨a, b⟩, lO⟩), enA (if hI then topE else ⟨0, ⟨c, d⟩, !hO⟩)]) := rfl
    have z4 := q4.lt
    have z5 := q5.lt
    generalize hL : (if lI then botE else ⟨0, ⟨a, b⟩, lO⟩ : En) = L at hv
    generalize hR : (if hI then topE else ⟨0, ⟨c, d⟩, !hO⟩ : En) = R at hv
    replace hL := Lib.hid hL
    replace hR := Lib.hid hR
    go_upto_if 18 with (fail)
    go_cut [] (fun wx => Own wx g4 #[.int .i64 L.far, .int .i64 L.at'.num, .int .i64 L.at'.den, .bool L.aft] 139 ∧ Own wx g5 #[.int .i64 0, .int .i64 c, .int .i64 d, .bool !hO] 139 ∧ Own wx (w.heap.size + 1) #[.int .i64 0, .int .i64 0, .int .i64 0, .bool false] 139 ∧ Own wx (w.heap.size + 1 + 1) #[.int .i64 0, .int .i64 0, .int .i64 0, .bool false] 139 ∧ wx.cell? ⟨w.heap.size, 7, none⟩ = some (.bool hI) ∧ Ext w wx)
    case first =>
      obtain ⟨c4, f4⟩ := q4.facts
      cases lI with
      | true =>
        have hL' : L = botE := by rw [← hL.out]; rfl
        go_wp2_with fail
        go_meet
        case rel =>
          subst hL'
          have k1 := ((((q4.set 0 (.int .i64 (-1))).set 1 (.int .i64 0)).set 2 (.int .i64 0)).set 3 (.bool false))
          exact ⟨k1, (((q5.setOther (p := ⟨g4, 0, none⟩) hne.symm _).setOther (p := ⟨g4, 1, none⟩) hne.symm _).setOther (p := ⟨g4, 2, none⟩) hne.symm _).setOther (p := ⟨g4, 3, none⟩) hne.symm _,
            (((p2.setOther (p := ⟨g4, 0, none⟩) (by simp; omega) _).setOther (p := ⟨g4, 1, none⟩) (by simp; omega) _).setOther (p := ⟨g4, 2, none⟩) (by simp; omega) _).setOther (p := ⟨g4, 3, none⟩) (by simp; omega) _,
            (((p3.setOther (p := ⟨g4, 0, none⟩) (by simp; omega) _).setOther (p := ⟨g4, 1, none⟩) (by simp; omega) _).setOther (p := ⟨g4, 2, none⟩) (by simp; omega) _).setOther (p := ⟨g4, 3, none⟩) (by simp; omega) _,
            by simp [go_sem, n5, Ne.symm n5, o7], (by with_reducible repeat (first | assumption | exact Ext.rfl' _ | exact Ext.new _ _ | refine Ext.alloc' ?_ _ | refine Ext.drew' ?_ | refine Ext.drewN' ?_ _ | (refine Ext.set' ?_ ?_ _; rotate_left; focus (first | omega | (simp; done) | (simp; omega))) | (refine Ext.then (b := ?_) ?_ ?_; rotate_left; rotate_left; assumption)))⟩
      | false =>
        have hL' : L = ⟨0, ⟨a, b⟩, lO⟩ := by rw [← hL.out]; rfl
        go_wp2_with fail
        go_meet
        case rel => subst hL'; exact ⟨q4, q5, p2, p3, o7, hX⟩
    case rest =>
      clear q4 q5 p2 p3 o7 o6 hX z4 z5
      obtain ⟨q4, q5, p2, p3, o7, hX⟩ := hcut
      have z4 := q4.lt
      have z5 := q5.lt
      go_upto_if 21 with (fail)
      go_cut [] (fun wx => Own wx g4 #[.int .i64 L.far, .int .i64 L.at'.num, .int .i64 L.at'.den, .bool L.aft] 139 ∧ Own wx g5 #[.int .i64 R.far, .int .i64 R.at'.num, .int .i64 R.at'.den, .bool R.aft] 139 ∧ Own wx (w.heap.size + 1) #[.int .i64 0, .int .i64 0, .int .i64 0, .bool false] 139 ∧ Own wx (w.heap.size + 1 + 1) #[.int .i64 0, .int .i64 0, .int .i64 0, .bool false] 139 ∧ Ext w wx)
      case first =>
        obtain ⟨c5, f5⟩ := q5.facts
        cases hI with
        | true =>
          have hR' : R = topE := by rw [← hR.out]; rfl
          go_wp2_with fail
          go_meet
          case rel =>
            subst hR'
            exact ⟨(((q4.setOther (p := ⟨g5, 0, none⟩) hne _).setOther (p := ⟨g5, 1, none⟩) hne _).setOther (p := ⟨g5, 2, none⟩) hne _).setOther (p := ⟨g5, 3, none⟩) hne _,
              ((((q5.set 0 (.int .i64 1)).set 1 (.int .i64 0)).set 2 (.int .i64 0)).set 3 (.bool false)),
              (((p2.setOther (p := ⟨g5, 0, none⟩) (by simp; omega) _).setOther (p := ⟨g5, 1, none⟩) (by simp; omega) _).setOther (p := ⟨g5, 2, none⟩) (by simp; omega) _).setOther (p := ⟨g5, 3, none⟩) (by simp; omega) _,
              (((p3.setOther (p := ⟨g5, 0, none⟩) (by simp; omega) _).setOther (p := ⟨g5, 1, none⟩) (by simp; omega) _).setOther (p := ⟨g5, 2, none⟩) (by simp; omega) _).setOther (p := ⟨g5, 3, none⟩) (by simp; omega) _,
              (by with_reducible repeat (first | assumption | exact Ext.rfl' _ | exact Ext.new _ _ | refine Ext.alloc' ?_ _ | refine Ext.drew' ?_ | refine Ext.drewN' ?_ _ | (refine Ext.set' ?_ ?_ _; rotate_left; focus (first | omega | (simp; done) | (simp; omega))) | (refine Ext.then (b := ?_) ?_ ?_; rotate_left; rotate_left; assumption)))⟩
        | false =>
          have hR' : R = ⟨0, ⟨c, d⟩, !hO⟩ := by rw [← hR.out]; rfl
          go_wp2_with fail
          go_meet
          case rel => subst hR'; exact ⟨q4, q5, p2, p3, hX⟩
      case rest =>
        clear q4 q5 p2 p3 o7 hX z4 z5
        obtain ⟨q4, q5, p2, p3, hX⟩ := hcut
        obtain ⟨c2, f2⟩ := p2.facts
        obtain ⟨c3, f3⟩ := p3.facts
        obtain ⟨c4, f4⟩ := q4.facts
        obtain ⟨c5, f5⟩ := q5.facts
        have z2 := p2.lt
        have z3 := p3.lt
        have z4 := q4.lt
        have z5 := q5.lt
        have n1 : g4 ≠ w.heap.size + 1 := by omega
        have n2 : g4 ≠ w.heap.size + 1 + 1 := by omega
        have n3 : g5 ≠ w.heap.size + 1 := by omega
        have n4 : g5 ≠ w.heap.size + 1 + 1 := by omega
        clear q4 q5 p2 p3 hL hR
        obtain ⟨Lf, ⟨Ln, Ld⟩, Lt⟩ := L
        obtain ⟨Rf, ⟨Rn, Rd⟩, Rt⟩ := R
        go_wp2_with fail
        go_region
        go_wp2_with fail
        exact bodyPost_ret (v := .tuple #[enA ⟨Lf, ⟨Ln, Ld⟩, Lt⟩, enA ⟨Rf, ⟨Rn, Rd⟩, Rt⟩]) (by simp [enA, results, Tryz.results127, go_sem, c2, c3, f2, f3, z2, z3]) rfl ⟨by rw [hv.out], (by with_reducible repeat (first | assumption | exact Ext.rfl' _ | exact Ext.new _ _ | refine Ext.alloc' ?_ _ | refine Ext.drew' ?_ | refine Ext.drewN' ?_ _ | (refine Ext.set' ?_ ?_ _; rotate_left; focus (first | omega | (simp; done) | (simp; omega))) | (refine Ext.then (b := ?_) ?_ ?_; rotate_left; rotate_left; assumption)))⟩
end Go.Proofs.YtbpilielamjnoaaGreat
namespace Go.Proofs.YtbpilielamjnoaaGreat
open Go.RowKit Go.Shelf
set_option linter.unusedSimpArgs false
set_option linter.unusedVariables false
theorem errIf_beq {p : Prop} [Decidable p] {k : Int} (hk : k ≠ 0) : ((ErrIf p k) == 0) = decide p := by
  by_cases h : p
  · rw [ErrIf_t h]; simp [h]
  · rw [ErrIf_f h]; simp [h, hk]
set_option maxRecDepth 100000 in
set_option maxHeartbeats 1000000 in
theorem small_c (r : Rat2) (w : World) (hr : r.I) : Calls Tryz.prog 159 #[raA r] w (RetV w (.bool (smallB r))) := by
  have hs : Hid (smallB r = (decide (RatOk r) && decide (-1073741824 ≤ r.num) && decide (r.num ≤ 1073741824) && decide (r.den ≤ 32768))) := by
    show _ = _
    rw [Bool.eq_iff_iff, smallB_iff]
    simp only [Bool.and_eq_true, decide_eq_true_eq]
    constructor
    · rintro ⟨h, h1, h2⟩; exact ⟨⟨⟨h, by omega⟩, by omega⟩, h2⟩
    · rintro ⟨⟨⟨h, h1⟩, h2⟩, h3⟩; exact ⟨h, by omega, h3⟩
  have hv := fun w => ratValid_c r w hr.1 hr.2
  have he := errIf_beq (p := RatOk r) (k := 1) (by decide)
  generalize ErrIf (RatOk r) 1 = z at hv he
  generalize decide (RatOk r) = ok at *
  generalize smallB r = q at *
  obtain ⟨n, d⟩ := r
  unfold raA
  dsimp only at *
  have hw := Ext.new w (.cells #[.int .i64 n, .int .i64 d] 81)
  go_enter Tryz.func159, Tryz.ntmps159
  go_wp2_with fail
  refine RetV_at (hv _) ?_
  intro w1 hx1
  obtain ⟨c1, f1, s1⟩ := hx1.cells
  simp at s1
  cases ok with
  | false =>
    go_wp2_with fail
    go_ret
    exact ⟨ret_bool (by rw [hs.out]; simp), (by with_reducible repeat (first | assumption | exact Ext.rfl' _ | exact Ext.new _ _ | refine Ext.alloc' ?_ _ | refine Ext.drew' ?_ | refine Ext.drewN' ?_ _ | (refine Ext.set' ?_ ?_ _; rotate_left; focus (first | omega | (simp; done) | (simp; omega))) | (refine Ext.then (b := ?_) ?_ ?_; rotate_left; rotate_left; assumption)))⟩
  | true =>
    by_cases h1 : -1073741824 ≤ n
    · by_cases h2 : n ≤ 1073741824
      · go_wp2_with fail
        go_ret
        exact ⟨ret_bool (by rw [hs.out]; simp [h1, h2]), (by with_reducible repeat (first | assumption | exact Ext.rfl' _ | exact Ext.new _ _ | refine Ext.alloc' ?_ _ | refine Ext.drew' ?_ | refine Ext.drewN' ?_ _ | (refine Ext.set' ?_ ?_ _; rotate_left; focus (first | omega | (simp; done) | (simp; omega))) | (refine Ext.then (b := ?_) ?_ ?_; rotate_left; rotate_left; assumption)))⟩
      · go_wp2_with fail
        go_ret
        exact ⟨ret_bool (by rw [hs.out]; simp; intros; omega), (by with_reducible repeat (first | assumption | exact Ext.rfl' _ | exact Ext.new _ _ | refine Ext.alloc' ?_ _ | refine Ext.drew' ?_ | refine Ext.drewN' ?_ _ | (refine Ext.set' ?_ ?_ _; rotate_left; focus (first | omega | (simp; done) | (simp; omega))) | (refine Ext.then (b := ?_) ?_ ?_; rotate_left; rotate_left; assumption)))⟩
    · go_wp2_with fail
      go_ret
      exact ⟨ret_bool (by rw [hs.out]; simp; intros; omega), (by with_reducible repeat (first | assumption | exact Ext.rfl' _ | exact Ext.new _ _ | refine Ext.alloc' ?_ _ | refine Ext.drew' ?_ | refine Ext.drewN' ?_ _ | (refine Ext.set' ?_ ?_ _; rotate_left; focus (first | omega | (simp; done) | (simp; omega))) | (refine Ext.then (b := ?_) ?_ ?_; rotate_left; rotate_left; assumption)))⟩
set_option maxRecDepth 100000 in
set_option maxHeartbeats 1000000 in
theorem limit_c (r : Rat2) (o inf : Bool) (w : World) (hr : r.I) : Calls Tryz.prog 158 #[raA r, .bool o, .bool inf] w (RetV w (.bool (limB r o inf))) := by
  have hsm := fun w => small_c r w hr
  obtain ⟨n, d⟩ := r
  unfold raA at *
  dsimp only at *
  have hw := Ext.new w (.cells #[.int .i64 n, .int .i64 d] 81)
  cases inf with
  | true =>
    have hs : Hid (limB ⟨n, d⟩ o true = ((n == 0 && d == 0) && !o)) := by
      show _ = _
      unfold limB
      rw [if_pos rfl]
      congr 1
      rw [Bool.eq_iff_iff]; simp
    generalize limB _ _ _ = q at hs ⊢
    clear hsm
    go_enter Tryz.func158, Tryz.ntmps158
    go_wp2_with fail
    all_goals (go_ret; exact ⟨ret_bool (by rw [hs.out]; simp [*]), (by with_reducible repeat (first | assumption | exact Ext.rfl' _ | exact Ext.new _ _ | refine Ext.alloc' ?_ _ | refine Ext.drew' ?_ | refine Ext.drewN' ?_ _ | (refine Ext.set' ?_ ?_ _; rotate_left; focus (first | omega | (simp; done) | (simp; omega))) | (refine Ext.then (b := ?_) ?_ ?_; rotate_left; rotate_left; assumption)))⟩)
  | false =>
    have hs : Hid (limB ⟨n, d⟩ o false = smallB ⟨n, d⟩) := rfl
    generalize limB _ _ _ = q at hs ⊢
    go_enter Tryz.func158, Tryz.ntmps158
    go_wp2_with fail
    refine RetV_at (hsm _) ?_
    intro w1 hx1
    go_wp2_with fail
    go_ret
    exact ⟨ret_bool hs.out.symm, (by with_reducible repeat (first | assumption | exact Ext.rfl' _ | exact Ext.new _ _ | refine Ext.alloc' ?_ _ | refine Ext.drew' ?_ | refine Ext.drewN' ?_ _ | (refine Ext.set' ?_ ?_ _; rotate_left; focus (first | omega | (simp; done) | (simp; omega))) | (refine Ext.then (b := ?_) ?_ ?_; rotate_left; rotate_left; assumption)))⟩
set_option maxRecDepth 100000 in
set_option maxHeartbeats 2000000 in
theorem good_c (x : Itv) (w : World) (hx : x.I) : Calls Tryz.prog 126 #[itA x] w (RetV w (.bool (goodB x))) := by
  have h1 := fun w => limit_c x.lo x.loO x.loI w hx.1
  have h2 := fun w => limit_c x.hi x.hiO x.hiI w hx.2
  have h3 := fun w => ends_c x w
  have hs : Hid (goodB x = (limB x.lo x.loO x.loI && limB x.hi x.hiO x.hiI && lessE (loE x) (hiE x))) := rfl
  have h4 := fun (w : World) (k1 : limB x.lo x.loO x.loI = true) (k2 : limB x.hi x.hiO x.hiI = true) => less_c (loE x) (hiE x) w (limB_lo k1).bd (limB_hi k2).bd
  obtain ⟨⟨a, b⟩, ⟨c, d⟩, lO, hO, lI, hI⟩ := x
  unfold itA raA endsV at *
  dsimp only at *
  generalize limB _ lO _ = p at *
  generalize limB _ hO _ = p' at *
  generalize lessE _ _ = p2 at *
  generalize goodB _ = q at *
  generalize enA _ = L at *
  generalize enA _ = R at *
  have hw := Ext.new w (.cells #[.int .i64 a, .int .i64 b, .int .i64 c, .int .i64 d, .bool lO, .bool hO, .bool lI, .bool hI] 96)
  have eg : ∀ args w, (callFunc 158 args).run Tryz.prog w = .ok (.enter 158 args) w := enters_of Tryz.func158 (by kernel_rfl) rfl
  replace h1 := Lib.hid h1
  replace h2 := Lib.hid h2
  replace h3 := Lib.hid h3
  replace h4 := Lib.hid h4
  have hO := Proofs.YtbpilielamjnoaaGreat.Own.new w #[.int .i64 a, .int .i64 b, .int .i64 c, .int .i64 d, .bool lO, .bool hO, .bool lI, .bool hI] 96
  go_enter Tryz.func126, Tryz.ntmps126
  go_upto_region 1 with (fail)
  generalize w.alloc _ = W at *
  obtain ⟨c0, f0⟩ := hO.facts
  have z0 := hO.lt
  go_wp2_with fail
  refine RetV_at (h1.out _) ?_
  intro w1 hx1
  replace hO := hO.keep hx1
  replace hw := hw.then hx1
  clear c0 f0 z0 hx1
  obtain ⟨c1, f1⟩ := hO.facts
  have z1 := hO.lt
  cases p with
  | false =>
    go_wp2_with fail
    go_ret
    exact ⟨ret_bool (by rw [hs.out]; simp), (by with_reducible repeat (first | assumption | exact Ext.rfl' _ | exact Ext.new _ _ | refine Ext.alloc' ?_ _ | refine Ext.drew' ?_ | refine Ext.drewN' ?_ _ | (refine Ext.set' ?_ ?_ _; rotate_left; focus (first | omega | (simp; done) | (simp; omega))) | (refine Ext.then (b := ?_) ?_ ?_; rotate_left; rotate_left; assumption)))⟩
  | true =>
    go_wp2_with fail
    refine RetV_at (h2.out _) ?_
    intro w2 hx2
    replace hO := hO.keep hx2
    replace hw := hw.then hx2
    clear c1 f1 z1 hx2
    obtain ⟨c2, f2⟩ := hO.facts
    have z2 := hO.lt
    cases p' with
    | false =>
      go_wp2_with fail
      go_ret
      exact ⟨ret_bool (by rw [hs.out]; simp), (by with_reducible repeat (first | assumption | exact Ext.rfl' _ | exact Ext.new _ _ | refine Ext.alloc' ?_ _ | refine Ext.drew' ?_ | refine Ext.drewN' ?_ _ | (refine Ext.set' ?_ ?_ _; rotate_left; focus (first | omega | (simp; done) | (simp; omega))) | (refine Ext.then (b := ?_) ?_ ?_; rotate_left; rotate_left; assumption)))⟩
    | true =>
      go_wp2_with fail
      refine RetV_at (h3.out _) ?_
      intro w3 hx3
      go_wp2_with fail
      refine RetV_at (h4.out _ (by first | trivial | rfl) (by first | trivial | rfl)) ?_
      intro w4 hx4
      go_wp2_with fail
      go_ret
      exact ⟨ret_bool (by rw [hs.out]; simp), (by with_reducible repeat (first | assumption | exact Ext.rfl' _ | exact Ext.new _ _ | refine Ext.alloc' ?_ _ | refine Ext.drew' ?_ | refine Ext.drewN' ?_ _ | (refine Ext.set' ?_ ?_ _; rotate_left; focus (first | omega | (simp; done) | (simp; omega))) | (refine Ext.then (b := ?_) ?_ ?_; rotate_left; rotate_left; assumption)))⟩
end Go.Proofs.YtbpilielamjnoaaGreat
