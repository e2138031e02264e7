/- Lemmas for FY, part 3: rows of several cells: read out of the middle of a block, written whole, cleared, and more. -/
import Derived.Laws.Rows
import Derived.Laws.CopyRow
import Derived.Lib.SliceRun
import Derived.Test.YtnpnjcaomakehaaGreatFY00
import Derived.Test.YtnpnjcaomakehaaGreatFY01
set_option linter.unusedSimpArgs false
set_option linter.unusedVariables false
namespace Go.Proofs.YtnpnjcaomakehaaGreat
open Go.RowKit Go.Shelf
theorem wpList_load_mid {P : Program} {ops : Array Oper} {rest : List Oper} {o : Oper} {a : Act} {w : World} {Q : Exit → Act → World → Prop} (hgd : o.guard = none) (ty : TypeId) (x : Operand) (ho : o.op = .load ty x)
    (b m : Nat) (hx : a.eval x = .pointer (some ⟨b, m, none⟩)) (cs : List Value) (d : TypeDesc) (hc : ∀ j u, cs[j]? = some u → w.cell? ⟨b, m + j, none⟩ = some u)
    (hu : P.underlying ty = some d) (hd : (match d with | .struct _ | .array _ _ => true | _ => false) = true) (hi : (P.info? ty).map (·.size) = some cs.length)
    (h : wpList P ops Q rest (a.put o.dst (.agg cs.toArray)) w) : wpList P ops Q (o :: rest) a w := by
  refine wpList_plain hgd fun _ hK => ?_
  have hl : (loadCells ⟨b, m, none⟩ cs.length).run P w = .ok cs.toArray w :=
    run_loadCells_list (P := P) w ⟨b, m, none⟩ cs (fun j v hv => by rw [addo]; exact hc j v hv)
  have hv : (loadVar ty ⟨b, m, none⟩).run P w = .ok (.agg cs.toArray) w := by
    cases hq : P.info? ty with
    | none => simp [hq] at hi
    | some i =>
      have hs : i.size = cs.length := by simpa [hq] using hi
      have hagg : (isAgg ty).run P w = .ok true w := by
        unfold isAgg
        rw [Sem.run_bind, run_underlying hu w]
        cases d <;> simp_all
      simp [loadVar, Sem.run_bind, hagg, sizeOf, typeInfo, hq, hs, hl]
  unfold Oper.wp execOp
  simp only [ho, hx, Instr.loadAt, Instr.sureAddr, Sem.run_bind, Sem.run_pure, Result.andThen_ok, hv]
  exact hK _ _ h
theorem oper_load_mid {P : Program} {o : Oper} {a : Act} {w : World} {K : Act → World → Prop} {Q : Exit → Act → World → Prop} (ty : TypeId) (x : Operand) (ho : o.op = .load ty x)
    (b m : Nat) (hx : a.eval x = .pointer (some ⟨b, m, none⟩)) (cs : List Value) (d : TypeDesc) (hc : ∀ j u, cs[j]? = some u → w.cell? ⟨b, m + j, none⟩ = some u)
    (hu : P.underlying ty = some d) (hd : (match d with | .struct _ | .array _ _ => true | _ => false) = true) (hi : (P.info? ty).map (·.size) = some cs.length)
    (h : K (a.put o.dst (.agg cs.toArray)) w) : o.wp P a w K Q := by
  have hl : (loadCells ⟨b, m, none⟩ cs.length).run P w = .ok cs.toArray w :=
    run_loadCells_list (P := P) w ⟨b, m, none⟩ cs (fun j v hv => by rw [addo]; exact hc j v hv)
  have hv : (loadVar ty ⟨b, m, none⟩).run P w = .ok (.agg cs.toArray) w := by
    cases hq : P.info? ty with
    | none => simp [hq] at hi
    | some i =>
      have hs : i.size = cs.length := by simpa [hq] using hi
      have hagg : (isAgg ty).run P w = .ok true w := by
        unfold isAgg
        rw [Sem.run_bind, run_underlying hu w]
        cases d <;> simp_all
      simp [loadVar, Sem.run_bind, hagg, sizeOf, typeInfo, hq, hs, hl]
  unfold Oper.wp execOp
  simp only [ho, hx, Instr.loadAt, Instr.sureAddr, Sem.run_bind, Sem.run_pure, Result.andThen_ok, hv]
  exact h
theorem Src.free {α : Type} {E : PH → List Value → α → Prop} {sz : Nat} {H H' : PH} {w : World} {v : Value} {xs : List α} (h : Src w H E sz v xs) (hE : ∀ cs x, E H cs x → E H' cs x) : Src w H' E sz v xs := by
  obtain ⟨a, cap, h1, h2, h3⟩ := h
  refine ⟨a, cap, h1, h2, ?_⟩
  rcases h3 with h3 | ⟨ad, c, h3, h4, h5⟩
  · exact .inl h3
  · exact .inr ⟨ad, c, h3, h4.mono hE, h5⟩
section
variable {α : Type} {E : PH → List Value → α → Prop} {hm : Mono E} {sz : Nat} {T : TypeId} {w0 w : World} {H0 H : PH} {L : List Chunk} {xs : List α}
theorem Cells.take {c : List Value} (h : Cells H E sz c xs) (k : Nat) : Cells H E sz (c.take (k * sz)) (xs.take k) := by
  induction xs generalizing c k with
  | nil =>
    have : c = [] := h
    subst this; simp; exact rfl
  | cons x xs ih =>
    obtain ⟨cs, rest, rfl, h1, h2, h3⟩ := h
    cases k with
    | zero => simp; exact rfl
    | succ k =>
      refine ⟨cs, rest.take (k * sz), ?_, h1, h2, ih h3 k⟩
      rw [show (k + 1) * sz = cs.length + k * sz by rw [h1, Nat.add_mul]; omega, List.take_length_add_append]
theorem Cells.putRow {x : α} {cs : List Value} (hx : E H cs x) (hs : cs.length = sz) : ∀ {xs : List α} {c : List Value} (k : Nat), k < xs.length → Cells H E sz c xs → Cells H E sz (c.take (k * sz) ++ cs ++ c.drop (k * sz + sz)) (xs.set k x)
  | [], _, k, hk, _ => by simp at hk
  | y :: ys, c, 0, _, hc => by
    obtain ⟨ds, rest, rfl, h1, h2, h3⟩ := hc
    refine ⟨cs, rest, ?_, hs, hx, h3⟩
    rw [Nat.zero_mul, Nat.zero_add, List.take_zero, List.nil_append, List.drop_left' h1]
  | y :: ys, c, k + 1, hk, hc => by
    obtain ⟨ds, rest, rfl, h1, h2, h3⟩ := hc
    refine ⟨ds, rest.take (k * sz) ++ cs ++ rest.drop (k * sz + sz), ?_, h1, h2, Cells.putRow hx hs k (by simpa using hk) h3⟩
    rw [show (k + 1) * sz = ds.length + k * sz by rw [h1, Nat.add_mul]; omega, List.take_length_add_append, show ds.length + k * sz + sz = ds.length + (k * sz + sz) by omega, List.drop_length_add_append]
    simp
theorem setRow_block (w : World) (g k : Nat) (c : Array Value) (h : k ≠ g) : (w.setRow g c).heap[k]? = w.heap[k]? := setRow_other w g k c (fun e => h e)
theorem Mem.putRow {g cap n : Nat} {cur : Array Value} {x : α} {cs : List Value} (h : Mem w0 H0 L H w) (i : Nat) (hi : L[i]? = some (own hm sz T (.slice (some ⟨g, 0, none⟩) n cap) xs)) (hn : n = xs.length) (k : Nat) (hk : k < xs.length) (hx : E H cs x) (hs : cs.length = sz)
    (hg : w.heap[g]? = some (.cells cur T (0, 0))) : Mem w0 H0 (L.set i (own hm sz T (.slice (some ⟨g, 0, none⟩) n cap) (xs.set k x))) H (w.setRow g (cur.toList.take (k * sz) ++ cs ++ cur.toList.drop (k * sz + sz)).toArray) := by
  subst hn
  have h4 : OwnC H w E sz T (.slice (some ⟨g, 0, none⟩) xs.length cap) xs := h.ok i _ hi
  rcases h4 with ⟨h4, -⟩ | ⟨g', cap', cur', e, k1, k2, k3, k4, k5⟩
  · cases h4
  · cases e
    rw [hg] at k1
    cases k1
    have hkn : k * sz + sz ≤ xs.length * sz := by
      have := Nat.mul_le_mul_right sz (show k + 1 ≤ xs.length from hk); rw [Nat.add_mul] at this; omega
    have hnc : xs.length * sz ≤ cap * sz := Nat.mul_le_mul_right _ k2
    have hcl : cur.toList.length = cap * sz := by simpa using k4
    refine h.put i hi (c' := own hm sz T _ (xs.set k x)) (.inr ⟨g, cap, (cur.toList.take (k * sz) ++ cs ++ cur.toList.drop (k * sz + sz)).toArray, by simp, setRow_heap w g cur _ T _ hg, by simpa using k2, k3, ?_, ?_⟩) (fun k hk => .inl hk) ?_ fun j hj hne => setRow_block _ _ _ _ (fun e => hne (by rw [e]; rfl))
    · simp only [List.size_toArray, List.length_append, List.length_take, List.length_drop, hcl, hs]; omega
    · have := Cells.putRow (H := H) hx hs k hk k5
      rw [List.length_set]
      have e1 : (cur.toList.take (k * sz) ++ cs ++ cur.toList.drop (k * sz + sz)).toArray.toList.take (xs.length * sz) = (cur.toList.take (xs.length * sz)).take (k * sz) ++ cs ++ (cur.toList.take (xs.length * sz)).drop (k * sz + sz) := by
        simp only []
        rw [List.take_take, Nat.min_eq_left (by omega), List.drop_take]
        have hl : (cur.toList.take (k * sz) ++ cs).length = k * sz + sz := by rw [List.length_append, List.length_take, hs]; omega
        rw [List.take_append, hl, List.take_of_length_le (by omega)]
      rw [e1]; exact this
    · have hbase := (h.fr i _ hi g rfl).1
      exact h.ex.trans ⟨rfl, rfl, rfl, by simp [World.setRow], fun j hj => setRow_block _ _ _ _ (by omega)⟩
theorem Mem.cut {g cap n : Nat} {cur cur' : Array Value} (h : Mem w0 H0 L H w) (i : Nat) (hi : L[i]? = some (own hm sz T (.slice (some ⟨g, 0, none⟩) n cap) xs)) (hn : n = xs.length) (k : Nat) (hk : k ≤ xs.length)
    (hg : w.heap[g]? = some (.cells cur T (0, 0))) (hs : cur'.size = cur.size) (ht : cur'.toList.take (k * sz) = cur.toList.take (k * sz)) : Mem w0 H0 (L.set i (own hm sz T (.slice (some ⟨g, 0, none⟩) k cap) (xs.take k))) H (w.setRow g cur') := by
  subst hn
  have h4 : OwnC H w E sz T (.slice (some ⟨g, 0, none⟩) xs.length cap) xs := h.ok i _ hi
  rcases h4 with ⟨h4, -⟩ | ⟨g', cap', cur1, e, k1, k2, k3, k4, k5⟩
  · cases h4
  · cases e
    rw [hg] at k1
    cases k1
    have hkl : (xs.take k).length = k := by rw [List.length_take]; omega
    have hkn : k * sz ≤ xs.length * sz := Nat.mul_le_mul_right sz hk
    refine h.put i hi (c' := own hm sz T _ (xs.take k)) (.inr ⟨g, cap, cur', by rw [hkl], setRow_heap w g cur _ T _ hg, by omega, k3, by rw [hs]; exact k4, ?_⟩) (fun k hk => .inl hk) (h.ex.trans ⟨rfl, rfl, rfl, by simp [World.setRow], fun j hj => setRow_block _ _ _ _ (by have := (h.fr i _ hi g rfl).1; omega)⟩) fun j hj hne => setRow_block _ _ _ _ (fun e => hne (by rw [e]; rfl))
    have := Cells.take k5 k
    rw [List.take_take, Nat.min_eq_left hkn] at this
    rw [hkl, ht]; exact this
end
section
variable {P : Program} {α : Type} {E : PH → List Value → α → Prop} {hm : Mono E} {sz : Nat} {T : TypeId} {w0 w : World} {H0 H : PH} {L : List Chunk} {xs : List α}
theorem Mem.cur {g n cap : Nat} (h : Mem w0 H0 L H w) (i : Nat) (hi : L[i]? = some (own hm sz T (.slice (some ⟨g, 0, none⟩) n cap) xs)) : ∃ cur, w.heap[g]? = some (.cells cur T (0, 0)) ∧ cur.size = cap * sz ∧ xs.length ≤ cap ∧ n = xs.length := by
  have h4 : OwnC H w E sz T (.slice (some ⟨g, 0, none⟩) n cap) xs := h.ok i _ hi
  rcases h4 with ⟨h4, -⟩ | ⟨g', cap', cur1, e, k1, k2, k3, k4, k5⟩
  · cases h4
  · cases e; exact ⟨cur1, k1, k4, k2, rfl⟩
theorem wpList_store_M {ops : Array Oper} {rest : List Oper} {o : Oper} {a : Act} {Q : Exit → Act → World → Prop} (hgd : o.guard = none) (ty : TypeId) (x y : Operand) (ho : o.op = .store ty x y)
    {g n cap : Nat} (k : Nat) (hx : a.eval x = .pointer (some ⟨g, k * sz, none⟩)) {cs : List Value} (hy : a.eval y = .agg cs.toArray) {x' : α} (h : Mem w0 H0 L H w) (i : Nat) (hi : L[i]? = some (own hm sz T (.slice (some ⟨g, 0, none⟩) n cap) xs)) (hk : k < xs.length)
    (hE : E H cs x') (hcs : cs.length = sz) (hone : ∀ u ∈ cs, u.oneCell' = true) (hinfo : (P.info? ty).map (·.size) = some sz)
    (hn : ∀ w', Mem w0 H0 (L.set i (own hm sz T (.slice (some ⟨g, 0, none⟩) n cap) (xs.set k x'))) H w' → wpList P ops Q rest (a.put o.dst undef) w') : wpList P ops Q (o :: rest) a w := by
  obtain ⟨cur, hg, hc1, hc2, rfl⟩ := h.cur i hi
  have hkn : k * sz + sz ≤ cap * sz := by
    have := Nat.mul_le_mul_right sz (show k + 1 ≤ cap by omega); rw [Nat.add_mul] at this; omega
  have hst := run_storeCells_at (P := P) g (k * sz) T cs 0 cur w hg (by omega) hone
  simp only [Nat.add_zero] at hst
  rw [hcs] at hst
  refine wpList_plain hgd fun _ hK => ?_
  have hv : (storeVar ty ⟨g, k * sz, none⟩ (.agg cs.toArray)).run P w = .ok () (w.setRow g (cur.toList.take (k * sz) ++ cs ++ cur.toList.drop (k * sz + sz)).toArray) := by
    cases hq : P.info? ty with
    | none => simp [hq] at hinfo
    | some j =>
      have hs : cs.length = j.size := by simp [hq] at hinfo; omega
      simp [storeVar, sizeOf, typeInfo, hq, Value.cells, hs, hst]
  unfold Oper.wp execOp
  simp only [ho, hx, hy, Instr.storeAt, Instr.sureAddr, Sem.run_bind, Sem.run_pure, Result.andThen_ok, hv]
  exact hK _ _ (hn _ (h.putRow i hi rfl k hk hE hcs hg))
theorem zeroCells_one {z : Array Value} (hz : z.all (·.oneCell') = true) (n : Nat) : ∀ v ∈ (Builtin.zeroCells z n).toList, v.oneCell' = true := by
  intro v hv
  simp [Builtin.zeroCells] at hv
  obtain ⟨j, hj, rfl⟩ := hv
  have hpos : 0 < z.size := Nat.pos_of_ne_zero fun e => by rw [e] at hj; simp at hj
  have hlt : j % z.size < z.size := Nat.mod_lt _ hpos
  have := (Array.all_eq_true.1 hz) (j % z.size) hlt
  simpa [hlt] using this
theorem wpList_clear_M {ops : Array Oper} {rest : List Oper} {o : Oper} {a : Act} {Q : Exit → Act → World → Prop} (hgd : o.guard = none) (s : Operand) (t : TypeId) (ho : o.op = .call { callee := .builtin .clear, args := #[s], argTypes := #[t] })
    {g n cap c : Nat} (k : Nat) (hs : a.eval s = .slice (some ⟨g, k * sz, none⟩) (n - k) c) {z : Value} (ht : P.underlying t = some (.slice T)) (hz : ∀ w, (zeroValue T).run P w = .ok z w) (hzs : z.cells.size = sz) (hz1 : z.cells.all (·.oneCell') = true)
    (h : Mem w0 H0 L H w) (i : Nat) (hi : L[i]? = some (own hm sz T (.slice (some ⟨g, 0, none⟩) n cap) xs)) (hk : k ≤ xs.length)
    (hn : ∀ w', Mem w0 H0 (L.set i (own hm sz T (.slice (some ⟨g, 0, none⟩) k cap) (xs.take k))) H w' → wpList P ops Q rest (a.put o.dst (.tuple #[])) w') : wpList P ops Q (o :: rest) a w := by
  obtain ⟨cur, hg, hc1, hc2, rfl⟩ := h.cur i hi
  have hzl : (Builtin.zeroCells z.cells (xs.length - k)).toList.length = (xs.length - k) * sz := by rw [Array.length_toList, size_zeroCells, hzs]
  have hle : k * sz + (xs.length - k) * sz ≤ cap * sz := by
    rw [← Nat.add_mul]; exact Nat.mul_le_mul_right _ (by omega)
  have hst := run_storeCells_at (P := P) g (k * sz) T (Builtin.zeroCells z.cells (xs.length - k)).toList 0 cur w hg (by omega) (zeroCells_one hz1 _)
  simp only [Nat.add_zero] at hst
  have hM := h.cut i hi rfl k hk hg (cur' := (cur.toList.take (k * sz) ++ (Builtin.zeroCells z.cells (xs.length - k)).toList ++ cur.toList.drop (k * sz + (Builtin.zeroCells z.cells (xs.length - k)).toList.length)).toArray)
    (by simp only [List.size_toArray, List.length_append, List.length_take, List.length_drop, hzl, Array.length_toList]; omega)
    (by simp only []; rw [List.append_assoc, List.take_append_of_le_length (by rw [List.length_take, Array.length_toList]; omega), List.take_take, Nat.min_self])
  refine wpList_plain hgd fun _ hK => ?_
  have hr : (Builtin.clear_ #[t] o.type #[.slice (some ⟨g, k * sz, none⟩) (xs.length - k) c]).run P w = .ok (.tuple #[]) (w.setRow g (cur.toList.take (k * sz) ++ (Builtin.zeroCells z.cells (xs.length - k)).toList ++ cur.toList.drop (k * sz + (Builtin.zeroCells z.cells (xs.length - k)).toList.length)).toArray) := by
    cases hq : xs.length - k with
    | zero =>
      have hz0 : Builtin.zeroCells z.cells 0 = #[] := by simp [Builtin.zeroCells]
      rw [hz0]
      have e1 : (cur.toList.take (k * sz) ++ (#[] : Array Value).toList ++ cur.toList.drop (k * sz + (#[] : Array Value).toList.length)).toArray = cur := by simp
      rw [e1, setRow_self w g cur T (0, 0) hg]
      simp [Builtin.clear_, run_underlying ht]
    | succ m =>
      rw [hq] at hst
      simp [Builtin.clear_, run_underlying ht, hz, hst]
  unfold Oper.wp execOp
  simp only [ho, resolve, invoke, builtin, Sem.run_bind, Sem.run_pure, Result.andThen_ok, List.map_toArray, List.map_cons, List.map_nil, hs, hr]
  exact hK _ _ (hn _ hM)
end
end Go.Proofs.YtnpnjcaomakehaaGreat
namespace Go.Proofs.YtnpnjcaomakehaaGreat
open Go.RowKit
theorem sliceArr {α : Type} {E : PH → List Value → α → Prop} {sz : Nat} {w : World} {b n : Nat} {cur : Array Value} {T : TypeId} {xs : List α} (hO : Own w b cur T) (hc : Cells (ph w) E sz cur.toList xs) (hn : n = xs.length) (hm : n ≤ maxLen) :
    SliceRep E sz (ph w) (.slice (some ⟨b, 0, none⟩) n n) xs := by
  subst hn
  refine ⟨_, _, rfl, Nat.le_refl _, hm, .inr ⟨b, 0, rfl, hc.row (fun _ _ h => h) fun j u hu => ?_⟩⟩
  rw [← cell_ph, Nat.zero_add, hO.facts.1]
  simpa using hu
end Go.Proofs.YtnpnjcaomakehaaGreat
namespace Go.Proofs.YtnpnjcaomakehaaGreat
open Go.RowKit Go.Shelf
def enA (e : En) : Value := .agg #[.int .i64 e.far, .int .i64 e.at'.num, .int .i64 e.at'.den, .bool e.aft]
def itC (x : Itv) : List Value := [.int .i64 x.lo.num, .int .i64 x.lo.den, .int .i64 x.hi.num, .int .i64 x.hi.den, .bool x.loO, .bool x.hiO, .bool x.loI, .bool x.hiI]
def itA (x : Itv) : Value := .agg #[.int .i64 x.lo.num, .int .i64 x.lo.den, .int .i64 x.hi.num, .int .i64 x.hi.den, .bool x.loO, .bool x.hiO, .bool x.loI, .bool x.hiI]
def raA (r : Rat2) : Value := .agg #[.int .i64 r.num, .int .i64 r.den]
def Rat2.I (r : Rat2) : Prop := I64 r.num ∧ I64 r.den
def Itv.I (x : Itv) : Prop := x.lo.I ∧ x.hi.I
def ItvR (_ : PH) (cs : List Value) (x : Itv) : Prop := cs = itC x ∧ x.I
theorem mono_ItvR : Mono ItvR := fun _ _ _ _ _ h => h
abbrev ItvsR : PH → Value → List Itv → Prop := SliceRep ItvR 8
def En.bd (e : En) : Prop := -1 ≤ e.far ∧ e.far ≤ 1 ∧ -1073741824 ≤ e.at'.num ∧ e.at'.num ≤ 1073741824 ∧ 0 ≤ e.at'.den ∧ e.at'.den ≤ 32768
theorem En.sm.bd {e : En} (h : e.sm) : e.bd := by
  unfold En.bd
  rcases h with ⟨h1, h2⟩ | rfl | rfl
  · obtain ⟨⟨h3, -⟩, h4, h5⟩ := smallB_iff.1 h2
    omega
  · simp [botE]
  · simp [topE]
theorem mul_bd {x y : Int} (h1 : -1073741824 ≤ x) (h2 : x ≤ 1073741824) (h3 : 0 ≤ y) (h4 : y ≤ 32768) : -35184372088832 ≤ x * y ∧ x * y ≤ 35184372088832 := by
  have e1 : x * y ≤ 1073741824 * 32768 := Int.le_trans (Int.mul_le_mul_of_nonneg_right h2 h3) (Int.mul_le_mul_of_nonneg_left h4 (by omega))
  have e2 : -1073741824 * 32768 ≤ x * y := by
    have : -1073741824 * y ≤ x * y := Int.mul_le_mul_of_nonneg_right h1 h3
    omega
  omega
theorem wrap_id {x : Int} (h1 : -9223372036854775808 ≤ x) (h2 : x ≤ 9223372036854775807) : IntKind.i64.wrap x = x := by rw [IntKind.wrap_i64]; omega
theorem wrap64_id {x : Int} (h1 : -9223372036854775808 ≤ x) (h2 : x ≤ 9223372036854775807) : wrap64 x = x := by rw [← IntWalk.i64_left]; exact wrap_id h1 h2
set_option maxRecDepth 100000 in
set_option maxHeartbeats 1000000 in
theorem less_c (a b : En) (w : World) (ha : a.bd) (hb : b.bd) : Calls Tryz.prog 118 #[enA a, enA b] w (RetV w (.bool (lessE a b))) := by
  obtain ⟨f, ⟨n, d⟩, t⟩ := a
  obtain ⟨f', ⟨n', d'⟩, t'⟩ := b
  obtain ⟨-, -, a1, a2, a3, a4⟩ := ha
  obtain ⟨-, -, b1, b2, b3, b4⟩ := hb
  dsimp only at a1 a2 a3 a4 b1 b2 b3 b4
  have m1 := mul_bd a1 a2 b3 b4
  have m2 := mul_bd b1 b2 a3 a4
  have w1 : IntKind.i64.wrap (n * d') = n * d' := wrap_id (by omega) (by omega)
  have w2 : IntKind.i64.wrap (n' * d) = n' * d := wrap_id (by omega) (by omega)
  clear a1 a2 a3 a4 b1 b2 b3 b4
  unfold enA
  dsimp only
  have hx : Ext w ((w.alloc (.cells #[.int .i64 f, .int .i64 n, .int .i64 d, .bool t] 153)).alloc (.cells #[.int .i64 f', .int .i64 n', .int .i64 d', .bool t'] 153)) := xE
  by_cases hf : f = f'
  · subst hf
    by_cases h0 : f = 0
    · subst h0
      have hs : Hid (lessE ⟨0, ⟨n, d⟩, t⟩ ⟨0, ⟨n', d'⟩, t'⟩ = if n * d' ≠ n' * d then decide (n * d' < n' * d) else (!t && t')) := by
        show _ = _
        unfold lessE
        rw [if_neg (by simp), if_neg (by simp)]
      have w3 : wrap64 (n * d') = n * d' := wrap64_id (by omega) (by omega)
      have w4 : wrap64 (n' * d) = n' * d := wrap64_id (by omega) (by omega)
      generalize lessE _ _ = q at hs ⊢
      by_cases hxy : n * d' = n' * d
      · rw [if_neg (by simpa using hxy)] at hs
        replace hxy := Lib.hid hxy
        go_enter Tryz.func118, Tryz.ntmps118
        go_wp2_with fail
        go_quiet (fail)
        rw [hxy.out]
        generalize n' * d = y at *
        cases t <;> (go_wp2_with fail; go_ret; exact ⟨ret_bool (by rw [hs.out]; first | rfl | simp), xE⟩)
      · rw [if_pos hxy] at hs
        go_enter Tryz.func118, Tryz.ntmps118
        go_wp2_with fail
        go_quiet (fail)
        have hb : (n * d' != n' * d) = true := by simpa using hxy
        generalize n * d' = x at *
        generalize n' * d = y at *
        clear w1 w2 w3 w4
        go_wp2_with fail
        go_ret
        exact ⟨ret_bool hs.out.symm, xE⟩
    · have hs : Hid (lessE ⟨f, ⟨n, d⟩, t⟩ ⟨f, ⟨n', d'⟩, t'⟩ = false) := by
        show _ = _
        unfold lessE
        rw [if_neg (by simp), if_pos h0]
      generalize lessE _ _ = q at hs ⊢
      have hb : (f != 0) = true := by simpa using h0
      go_enter Tryz.func118, Tryz.ntmps118
      go_wp2_with fail
      go_ret
      exact ⟨ret_bool hs.out.symm, xE⟩
  · have hs : Hid (lessE ⟨f, ⟨n, d⟩, t⟩ ⟨f', ⟨n', d'⟩, t'⟩ = decide (f < f')) := by
      show _ = _
      unfold lessE
      rw [if_pos hf]
    generalize lessE _ _ = q at hs ⊢
    have hb : (f != f') = true := by simpa using hf
    go_enter Tryz.func118, Tryz.ntmps118
    go_wp2_with fail
    go_ret
    exact ⟨ret_bool hs.out.symm, xE⟩
def endsV (x : Itv) : Value := .tuple #[enA (loE x), enA (hiE x)]
set_option maxRecDepth 100000 in
set_option maxHeartbeats 2000000 in
theorem ends_c (x : Itv) (w : World) : Calls Tryz.prog 117 #[itA x] w (RetV w (endsV x)) := by
  obtain ⟨⟨a, b⟩, ⟨c, d⟩, lO, hO, lI, hI⟩ := x
  unfold itA
  dsimp only
  go_enter Tryz.func117, Tryz.ntmps117
  go_upto_region 1 with (fail)
  have hX : Ext w (((w.alloc (.cells #[.int .i64 a, .int .i64 b, .int .i64 c, .int .i64 d, .bool lO, .bool hO, .bool lI, .bool hI] 92)).alloc (.cells #[.int .i64 0, .int .i64 0, .int .i64 0, .bool false] 153)).alloc (.cells #[.int .i64 0, .int .i64 0, .int .i64 0, .bool false] 153)) := xE
  have hO1 := ((Own.new w #[.int .i64 a, .int .i64 b, .int .i64 c, .int .i64 d, .bool lO, .bool hO, .bool lI, .bool hI] 92).alloc (.cells #[.int .i64 0, .int .i64 0, .int .i64 0, .bool false] 153)).alloc (.cells #[.int .i64 0, .int .i64 0, .int .i64 0, .bool false] 153)
  obtain ⟨of, og⟩ := hO1.facts
  have o0 : _ = some (Value.int .i64 a) := of 0
  have o1 : _ = some (Value.int .i64 b) := of 1
  have o2 : _ = some (Value.int .i64 c) := of 2
  have o3 : _ = some (Value.int .i64 d) := of 3
  have o4 : _ = some (Value.bool lO) := of 4
  have o5 : _ = some (Value.bool hO) := of 5
  have o6 : _ = some (Value.bool lI) := of 6
  have o7 : _ = some (Value.bool hI) := of 7
  have hsz := hO1.lt
  clear of og hO1
  have hsz2 : w.heap.size + 1 + 1 < (((w.alloc (.cells #[.int .i64 a, .int .i64 b, .int .i64 c, .int .i64 d, .bool lO, .bool hO, .bool lI, .bool hI] 92)).alloc (.cells #[.int .i64 0, .int .i64 0, .int .i64 0, .bool false] 153)).alloc (.cells #[.int .i64 0, .int .i64 0, .int .i64 0, .bool false] 153)).heap.size := by simp
  have p2 := (Own.new' (w.alloc (.cells #[.int .i64 a, .int .i64 b, .int .i64 c, .int .i64 d, .bool lO, .bool hO, .bool lI, .bool hI] 92)) #[.int .i64 0, .int .i64 0, .int .i64 0, .bool false] 153 (n := w.heap.size + 1) (by simp)).alloc (.cells #[.int .i64 0, .int .i64 0, .int .i64 0, .bool false] 153)
  have p3 := Own.new' ((w.alloc (.cells #[.int .i64 a, .int .i64 b, .int .i64 c, .int .i64 d, .bool lO, .bool hO, .bool lI, .bool hI] 92)).alloc (.cells #[.int .i64 0, .int .i64 0, .int .i64 0, .bool false] 153)) #[.int .i64 0, .int .i64 0, .int .i64 0, .bool false] 153 (n := w.heap.size + 1 + 1) (by simp)
  generalize ((w.alloc _).alloc _).alloc _ = W at *
  replace p2 := Lib.hid p2
  replace p3 := Lib.hid p3
  go_cut [4, 5] (fun v4 v5 wx => ∃ g4 g5, v4 = .pointer (some ⟨g4, 0, none⟩) ∧ v5 = .pointer (some ⟨g5, 0, none⟩) ∧ g4 ≠ g5 ∧ W.heap.size ≤ g4 ∧ W.heap.size ≤ g5 ∧ Own wx g4 #[.int .i64 0, .int .i64 a, .int .i64 b, .bool lO] 153 ∧ Own wx g5 #[.int .i64 0, .int .i64 c, .int .i64 d, .bool !hO] 153 ∧ Ext W wx)
  case first =>
    go_region
    · go_wp2_with fail
      go_meet
      case rel => exact ⟨_, _, rfl, rfl, by omega, by omega, by omega, (Own.new W _ _).alloc _, Own.new' _ _ _ (by simp), xE⟩
    · go_wp2_with fail
      go_meet
      case rel => exact ⟨_, _, rfl, rfl, by omega, by omega, by omega, Own.new' _ _ _ (by simp), (Own.new W _ _).alloc _, xE⟩
  case rest =>
    obtain ⟨g4, g5, rfl, rfl, hne, l4, l5, q4, q5, hx⟩ := hcut
    replace o6 := hx.cell1 o6
    replace o7 := hx.cell1 o7
    replace p2 := p2.out.keep hx
    replace p3 := p3.out.keep hx
    replace hX := hX.then hx
    have hsz3 := hx.size
    clear o0 o1 o2 o3 o4 o5
    have n5 : g4 ≠ w.heap.size := by omega
    have n6 : g5 ≠ w.heap.size := by omega
    have hv : Hid (endsV ⟨⟨a, b⟩, ⟨c, d⟩, lO, hO, lI, hI⟩ = .tuple #[enA (if lI then botE else ⟨0, ⟨a, b⟩, lO⟩), enA (if hI then topE else ⟨0, ⟨c, d⟩, !hO⟩)]) := rfl
    have z4 := q4.lt
    have z5 := q5.lt
    generalize hL : (if lI then botE else ⟨0, ⟨a, b⟩, lO⟩ : En) = L at hv
    generalize hR : (if hI then topE else ⟨0, ⟨c, d⟩, !hO⟩ : En) = R at hv
    replace hL := Lib.hid hL
    replace hR := Lib.hid hR
    go_upto_if 18 with (fail)
    go_cut [] (fun wx => Own wx g4 #[.int .i64 L.far, .int .i64 L.at'.num, .int .i64 L.at'.den, .bool L.aft] 153 ∧ Own wx g5 #[.int .i64 0, .int .i64 c, .int .i64 d, .bool !hO] 153 ∧ Own wx (w.heap.size + 1) #[.int .i64 0, .int .i64 0, .int .i64 0, .bool false] 153 ∧ Own wx (w.heap.size + 1 + 1) #[.int .i64 0, .int .i64 0, .int .i64 0, .bool false] 153 ∧ wx.cell? ⟨w.heap.size, 7, none⟩ = some (.bool hI) ∧ Ext w wx)
    case first =>
      obtain ⟨c4, f4⟩ := q4.facts
      cases lI with
      | true =>
        have hL' : L = botE := by rw [← hL.out]; rfl
        go_wp2_with fail
        go_meet
        case rel =>
          subst hL'
          have k1 := ((((q4.set 0 (.int .i64 (-1))).set 1 (.int .i64 0)).set 2 (.int .i64 0)).set 3 (.bool false))
          exact ⟨k1, (((q5.setOther (p := ⟨g4, 0, none⟩) hne.symm _).setOther (p := ⟨g4, 1, none⟩) hne.symm _).setOther (p := ⟨g4, 2, none⟩) hne.symm _).setOther (p := ⟨g4, 3, none⟩) hne.symm _,
            (((p2.setOther (p := ⟨g4, 0, none⟩) (by simp; omega) _).setOther (p := ⟨g4, 1, none⟩) (by simp; omega) _).setOther (p := ⟨g4, 2, none⟩) (by simp; omega) _).setOther (p := ⟨g4, 3, none⟩) (by simp; omega) _,
            (((p3.setOther (p := ⟨g4, 0, none⟩) (by simp; omega) _).setOther (p := ⟨g4, 1, none⟩) (by simp; omega) _).setOther (p := ⟨g4, 2, none⟩) (by simp; omega) _).setOther (p := ⟨g4, 3, none⟩) (by simp; omega) _,
            by simp [go_sem, n5, Ne.symm n5, o7], xE⟩
      | false =>
        have hL' : L = ⟨0, ⟨a, b⟩, lO⟩ := by rw [← hL.out]; rfl
        go_wp2_with fail
        go_meet
        case rel => subst hL'; exact ⟨q4, q5, p2, p3, o7, hX⟩
    case rest =>
      clear q4 q5 p2 p3 o7 o6 hX z4 z5
      obtain ⟨q4, q5, p2, p3, o7, hX⟩ := hcut
      have z4 := q4.lt
      have z5 := q5.lt
      go_upto_if 21 with (fail)
      go_cut [] (fun wx => Own wx g4 #[.int .i64 L.far, .int .i64 L.at'.num, .int .i64 L.at'.den, .bool L.aft] 153 ∧ Own wx g5 #[.int .i64 R.far, .int .i64 R.at'.num, .int .i64 R.at'.den, .bool R.aft] 153 ∧ Own wx (w.heap.size + 1) #[.int .i64 0, .int .i64 0, .int .i64 0, .bool false] 153 ∧ Own wx (w.heap.size + 1 + 1) #[.int .i64 0, .int .i64 0, .int .i64 0, .bool false] 153 ∧ Ext w wx)
      case first =>
        obtain ⟨c5, f5⟩ := q5.facts
        cases hI with
        | true =>
          have hR' : R = topE := by rw [← hR.out]; rfl
          go_wp2_with fail
          go_meet
          case rel =>
            subst hR'
            exact ⟨(((q4.setOther (p := ⟨g5, 0, none⟩) hne _).setOther (p := ⟨g5, 1, none⟩) hne _).setOther (p := ⟨g5, 2, none⟩) hne _).setOther (p := ⟨g5, 3, none⟩) hne _,
              ((((q5.set 0 (.int .i64 1)).set 1 (.int .i64 0)).set 2 (.int .i64 0)).set 3 (.bool false)),
              (((p2.setOther (p := ⟨g5, 0, none⟩) (by simp; omega) _).setOther (p := ⟨g5, 1, none⟩) (by simp; omega) _).setOther (p := ⟨g5, 2, none⟩) (by simp; omega) _).setOther (p := ⟨g5, 3, none⟩) (by simp; omega) _,
              (((p3.setOther (p := ⟨g5, 0, none⟩) (by simp; omega) _).setOther (p := ⟨g5, 1, none⟩) (by simp; omega) _).setOther (p := ⟨g5, 2, none⟩) (by simp; omega) _).setOther (p := ⟨g5, 3, none⟩) (by simp; omega) _,
              xE⟩
        | false =>
          have hR' : R = ⟨0, ⟨c, d⟩, !hO⟩ := by rw [← hR.out]; rfl
          go_wp2_with fail
          go_meet
          case rel => subst hR'; exact ⟨q4, q5, p2, p3, hX⟩
      case rest =>
        clear q4 q5 p2 p3 o7 hX z4 z5
        obtain ⟨q4, q5, p2, p3, hX⟩ := hcut
        obtain ⟨c2, f2⟩ := p2.facts
        obtain ⟨c3, f3⟩ := p3.facts
        obtain ⟨c4, f4⟩ := q4.facts
        obtain ⟨c5, f5⟩ := q5.facts
        have z2 := p2.lt
        have z3 := p3.lt
        have z4 := q4.lt
        have z5 := q5.lt
        have n1 : g4 ≠ w.heap.size + 1 := by omega
        have n2 : g4 ≠ w.heap.size + 1 + 1 := by omega
        have n3 : g5 ≠ w.heap.size + 1 := by omega
        have n4 : g5 ≠ w.heap.size + 1 + 1 := by omega
        clear q4 q5 p2 p3 hL hR
        obtain ⟨Lf, ⟨Ln, Ld⟩, Lt⟩ := L
        obtain ⟨Rf, ⟨Rn, Rd⟩, Rt⟩ := R
        go_wp2_with fail
        go_region
        go_wp2_with fail
        exact bodyPost_ret (v := .tuple #[enA ⟨Lf, ⟨Ln, Ld⟩, Lt⟩, enA ⟨Rf, ⟨Rn, Rd⟩, Rt⟩]) (by simp [enA, results, Tryz.results117, go_sem, c2, c3, f2, f3, z2, z3]) rfl ⟨by rw [hv.out], xE⟩
theorem errIf_beq {p : Prop} [Decidable p] {k : Int} (hk : k ≠ 0) : ((ErrIf p k) == 0) = decide p := by
  by_cases h : p
  · rw [ErrIf_t h]; simp [h]
  · rw [ErrIf_f h]; simp [h, hk]
set_option maxRecDepth 100000 in
set_option maxHeartbeats 1000000 in
theorem small_c (r : Rat2) (w : World) (hr : r.I) : Calls Tryz.prog 146 #[raA r] w (RetV w (.bool (smallB r))) := by
  have hs : Hid (smallB r = (decide (RatOk r) && decide (-1073741824 ≤ r.num) && decide (r.num ≤ 1073741824) && decide (r.den ≤ 32768))) := by
    show _ = _
    rw [Bool.eq_iff_iff, smallB_iff]
    simp only [Bool.and_eq_true, decide_eq_true_eq]
    constructor
    · rintro ⟨h, h1, h2⟩; exact ⟨⟨⟨h, by omega⟩, by omega⟩, h2⟩
    · rintro ⟨⟨⟨h, h1⟩, h2⟩, h3⟩; exact ⟨h, by omega, h3⟩
  have hv := fun w => ratValid_c r w hr.1 hr.2
  have he := errIf_beq (p := RatOk r) (k := 1) (by decide)
  generalize ErrIf (RatOk r) 1 = z at hv he
  generalize decide (RatOk r) = ok at *
  generalize smallB r = q at *
  obtain ⟨n, d⟩ := r
  unfold raA
  dsimp only at *
  have hw := Ext.new w (.cells #[.int .i64 n, .int .i64 d] 90)
  go_enter Tryz.func146, Tryz.ntmps146
  go_wp2_with fail
  refine RetV_at (hv _) ?_
  intro w1 hx1
  obtain ⟨c1, f1, s1⟩ := hx1.cells
  simp at s1
  cases ok with
  | false =>
    go_wp2_with fail
    go_ret
    exact ⟨ret_bool (by rw [hs.out]; simp), xE⟩
  | true =>
    by_cases h1 : -1073741824 ≤ n
    · by_cases h2 : n ≤ 1073741824
      · go_wp2_with fail
        go_ret
        exact ⟨ret_bool (by rw [hs.out]; simp [h1, h2]), xE⟩
      · go_wp2_with fail
        go_ret
        exact ⟨ret_bool (by rw [hs.out]; simp; intros; omega), xE⟩
    · go_wp2_with fail
      go_ret
      exact ⟨ret_bool (by rw [hs.out]; simp; intros; omega), xE⟩
set_option maxRecDepth 100000 in
set_option maxHeartbeats 1000000 in
theorem limit_c (r : Rat2) (o inf : Bool) (w : World) (hr : r.I) : Calls Tryz.prog 145 #[raA r, .bool o, .bool inf] w (RetV w (.bool (limB r o inf))) := by
  have hsm := fun w => small_c r w hr
  obtain ⟨n, d⟩ := r
  unfold raA at *
  dsimp only at *
  have hw := Ext.new w (.cells #[.int .i64 n, .int .i64 d] 90)
  cases inf with
  | true =>
    have hs : Hid (limB ⟨n, d⟩ o true = ((n == 0 && d == 0) && !o)) := by
      show _ = _
      unfold limB
      rw [if_pos rfl]
      congr 1
      rw [Bool.eq_iff_iff]; simp
    generalize limB _ _ _ = q at hs ⊢
    clear hsm
    go_enter Tryz.func145, Tryz.ntmps145
    go_wp2_with fail
    all_goals (go_ret; exact ⟨ret_bool (by rw [hs.out]; simp [*]), xE⟩)
  | false =>
    have hs : Hid (limB ⟨n, d⟩ o false = smallB ⟨n, d⟩) := rfl
    generalize limB _ _ _ = q at hs ⊢
    go_enter Tryz.func145, Tryz.ntmps145
    go_wp2_with fail
    refine RetV_at (hsm _) ?_
    intro w1 hx1
    go_wp2_with fail
    go_ret
    exact ⟨ret_bool hs.out.symm, xE⟩
set_option maxRecDepth 100000 in
set_option maxHeartbeats 2000000 in
theorem good_c (x : Itv) (w : World) (hx : x.I) : Calls Tryz.prog 116 #[itA x] w (RetV w (.bool (goodB x))) := by
  have h1 := fun w => limit_c x.lo x.loO x.loI w hx.1
  have h2 := fun w => limit_c x.hi x.hiO x.hiI w hx.2
  have h3 := fun w => ends_c x w
  have hs : Hid (goodB x = (limB x.lo x.loO x.loI && limB x.hi x.hiO x.hiI && lessE (loE x) (hiE x))) := rfl
  have h4 := fun (w : World) (k1 : limB x.lo x.loO x.loI = true) (k2 : limB x.hi x.hiO x.hiI = true) => less_c (loE x) (hiE x) w (limB_lo k1).bd (limB_hi k2).bd
  obtain ⟨⟨a, b⟩, ⟨c, d⟩, lO, hO, lI, hI⟩ := x
  unfold itA raA endsV at *
  dsimp only at *
  generalize limB _ lO _ = p at *
  generalize limB _ hO _ = p' at *
  generalize lessE _ _ = p2 at *
  generalize goodB _ = q at *
  generalize enA _ = L at *
  generalize enA _ = R at *
  have hw := Ext.new w (.cells #[.int .i64 a, .int .i64 b, .int .i64 c, .int .i64 d, .bool lO, .bool hO, .bool lI, .bool hI] 92)
  have eg : ∀ args w, (callFunc 145 args).run Tryz.prog w = .ok (.enter 145 args) w := enters_of Tryz.func145 (by kernel_rfl) rfl
  replace h1 := Lib.hid h1
  replace h2 := Lib.hid h2
  replace h3 := Lib.hid h3
  replace h4 := Lib.hid h4
  have hO := Proofs.YtnpnjcaomakehaaGreat.Own.new w #[.int .i64 a, .int .i64 b, .int .i64 c, .int .i64 d, .bool lO, .bool hO, .bool lI, .bool hI] 92
  go_enter Tryz.func116, Tryz.ntmps116
  go_upto_region 1 with (fail)
  generalize w.alloc _ = W at *
  obtain ⟨c0, f0⟩ := hO.facts
  have z0 := hO.lt
  go_wp2_with fail
  refine RetV_at (h1.out _) ?_
  intro w1 hx1
  replace hO := hO.keep hx1
  replace hw := hw.then hx1
  clear c0 f0 z0 hx1
  obtain ⟨c1, f1⟩ := hO.facts
  have z1 := hO.lt
  cases p with
  | false =>
    go_wp2_with fail
    go_ret
    exact ⟨ret_bool (by rw [hs.out]; simp), xE⟩
  | true =>
    go_wp2_with fail
    refine RetV_at (h2.out _) ?_
    intro w2 hx2
    replace hO := hO.keep hx2
    replace hw := hw.then hx2
    clear c1 f1 z1 hx2
    obtain ⟨c2, f2⟩ := hO.facts
    have z2 := hO.lt
    cases p' with
    | false =>
      go_wp2_with fail
      go_ret
      exact ⟨ret_bool (by rw [hs.out]; simp), xE⟩
    | true =>
      go_wp2_with fail
      refine RetV_at (h3.out _) ?_
      intro w3 hx3
      go_wp2_with fail
      refine RetV_at (h4.out _ (by first | trivial | rfl) (by first | trivial | rfl)) ?_
      intro w4 hx4
      go_wp2_with fail
      go_ret
      exact ⟨ret_bool (by rw [hs.out]; simp), xE⟩
theorem infoItv : (Tryz.prog.info? 92).map (fun i => (i.zero, i.size, i.bytes)) = some (some (.agg #[.int .i64 0, .int .i64 0, .int .i64 0, .int .i64 0, .bool false, .bool false, .bool false, .bool false]), 8, 40) := by kernel_rfl
theorem one_ItvR {h : PH} : ∀ cs x, ItvR h cs x → ∀ u ∈ cs, u.oneCell' = true := by
  rintro cs x ⟨rfl, -⟩ u hu
  simp only [itC, List.mem_cons, List.not_mem_nil, or_false] at hu
  rcases hu with rfl | rfl | rfl | rfl | rfl | rfl | rfl | rfl <;> rfl
theorem ItvsR.at {w : World} {a : Option Addr} {n cap : Nat} {xs : List Itv} (hr : ItvsR (ph w) (.slice a n cap) xs) (k : Nat) (hk : k < xs.length) :
    ∃ b o, a = some ⟨b, o, none⟩ ∧ w.cell? ⟨b, o + k * 8, none⟩ = some (.int .i64 xs[k].lo.num) ∧ w.cell? ⟨b, o + k * 8 + 1, none⟩ = some (.int .i64 xs[k].lo.den) ∧ w.cell? ⟨b, o + k * 8 + 2, none⟩ = some (.int .i64 xs[k].hi.num) ∧ w.cell? ⟨b, o + k * 8 + 3, none⟩ = some (.int .i64 xs[k].hi.den) ∧ w.cell? ⟨b, o + k * 8 + 4, none⟩ = some (.bool xs[k].loO) ∧ w.cell? ⟨b, o + k * 8 + 5, none⟩ = some (.bool xs[k].hiO) ∧ w.cell? ⟨b, o + k * 8 + 6, none⟩ = some (.bool xs[k].loI) ∧ w.cell? ⟨b, o + k * 8 + 7, none⟩ = some (.bool xs[k].hiI) ∧ b < w.heap.size ∧ xs[k].I := by
  obtain ⟨b, o, cs, h1, h2, h3, rfl, h5⟩ := hr.get k hk
  have h : ∀ j, j < 8 → w.cell? ⟨b, o + k * 8 + j, none⟩ = some ((itC xs[k]).getD j undef) := fun j hj => by rw [cell_ph]; exact h3 j hj
  exact ⟨b, o, h1, h 0 (by omega), h 1 (by omega), h 2 (by omega), h 3 (by omega), h 4 (by omega), h 5 (by omega), h 6 (by omega), h 7 (by omega), cell_lt (h 0 (by omega)), h5⟩
set_option maxHeartbeats 400000 in
theorem indexFunc_itv (p : Itv → Bool) (fid : Nat) (cap : Array Value) (vs : Value) (xs : List Itv) (w : World) (hr : ItvsR (ph w) vs xs)
    (hfn : ∀ args w, (callFunc fid args).run Tryz.prog w = .ok (.enter fid args) w)
    (hf : ∀ w', Ext w w' → ∀ x ∈ xs, ∀ cs, ItvR (ph w') cs x → Calls Tryz.prog fid (#[.agg cs.toArray] ++ cap) w' (RetV w' (.bool (p x)))) :
    Calls Tryz.prog 169 #[vs, .func (.func fid) #[] cap] w (RetV w (.int .i64 (idxOf p xs))) := by
  obtain ⟨a, c, rfl, hlen, hr⟩ := hr.form
  have HF := Lib.hid hf; clear hf
  go_enter Tryz.func169, Tryz.ntmps169
  go_wp2
  go_loopw [8] (fun i wr => ∃ k : Nat, k ≤ xs.length ∧ i = .int .i64 k ∧ Hid (∀ x ∈ xs.take k, p x = false) ∧ Ext w wr) (fun i _ => xs.length - (intOf i).toNat)
  case atStart => exact ⟨0, Nat.zero_le _, rfl, Lib.hid (by simp), xE⟩
  case round =>
    obtain ⟨k, hk, rfl, HNO, hb⟩ := hrel
    by_cases hlt : k < xs.length
    · have hp' := hr.mono mono_ItvR hb.ple
      obtain ⟨b, o, rfl, h0, h1, h2, h3, h4, h5, h6, h7, hbl, hI⟩ := ItvsR.at hp' k hlt; have hE : ItvR (ph wr) (itC xs[k]) xs[k] := ⟨rfl, hI⟩; unfold itC at hE
      clear hp'
      go_wp2_with fail
      refine (HF.out _ xE _ (List.getElem_mem hlt) _ hE).mono ?_
      rintro e w1 ⟨rfl, hb1⟩
      cases hpk : p xs[k] with
      | true =>
        go_wp2_with fail
        go_ret
        exact ⟨ret_int (idxOf_found p xs k hlt hpk HNO.out).symm, xE⟩
      | false =>
        go_wp2_with fail
        go_roundw
        case rel => exact ⟨k + 1, by omega, by go_num, take_all hlt hpk HNO.out, xE⟩
        case measure => simp [intOf]; omega
    · clear hr HF
      go_wp2_with fail
      go_ret
      exact ⟨ret_int (idxOf_none p xs (take_done (by omega) HNO.out)).symm, xE⟩
theorem containsFunc_itv (p : Itv → Bool) (fid : Nat) (cap : Array Value) (vs : Value) (xs : List Itv) (w : World) (hr : ItvsR (ph w) vs xs)
    (hfn : ∀ args w, (callFunc fid args).run Tryz.prog w = .ok (.enter fid args) w)
    (hf : ∀ w', Ext w w' → ∀ x ∈ xs, ∀ cs, ItvR (ph w') cs x → Calls Tryz.prog fid (#[.agg cs.toArray] ++ cap) w' (RetV w' (.bool (p x)))) :
    Calls Tryz.prog 156 #[vs, .func (.func fid) #[] cap] w (RetV w (.bool (xs.any p))) := by
  have HF := Lib.hid hf; clear hf
  have HFN := Lib.hid hfn; clear hfn
  go_enter Tryz.func156, Tryz.ntmps156
  go_wp2_with fail
  refine (indexFunc_itv p fid cap vs xs _ hr HFN.out HF.out).mono ?_
  rintro e w1 ⟨rfl, hb1⟩
  have hx := Lib.hid (idxOf_ge p xs)
  generalize idxOf p xs = i at *
  go_wp2_with fail
  go_ret
  exact ⟨ret_bool hx.out, xE⟩
theorem few_c (v : Value) (l : List Itv) (w : World) (hr : ItvsR (ph w) v l) : Calls Tryz.prog 119 #[v] w (RetV w (.int .i64 (fewE l).2)) := by
  obtain ⟨a, c, rfl, hlen, hr⟩ := hr.form
  by_cases h : 32 < l.length
  · have hs : Hid ((fewE l).2 = 4) := by show _ = _; unfold fewE; rw [if_pos h]
    go_enter Tryz.func119, Tryz.ntmps119
    go_wp2
    go_ret
    exact ⟨ret_int hs.out.symm, xE⟩
  · have hs : Hid ((fewE l).2 = 0) := by show _ = _; unfold fewE; rw [if_neg h]
    go_enter Tryz.func119, Tryz.ntmps119
    go_wp2
    go_ret
    exact ⟨ret_int hs.out.symm, xE⟩
def prv (l : List Itv) : Nat → Option Itv
  | 0 => none
  | k + 1 => l[k]?
theorem setF_cons (p : Option Itv) (x : Itv) (r : List Itv) : setF p (x :: r) = (goodB x && (match p with | none => true | some y => lessE (hiE y) (loE x)) && setF (some x) r) := by cases p <;> rfl
theorem setF_drop {l : List Itv} {k : Nat} (h : k < l.length) (h0 : 0 < k) : setF (prv l k) (l.drop k) = (goodB l[k] && lessE (hiE (l[k - 1]'(by omega))) (loE l[k]) && setF (prv l (k + 1)) (l.drop (k + 1))) := by
  obtain ⟨j, rfl⟩ : ∃ j, k = j + 1 := ⟨k - 1, by omega⟩
  rw [List.drop_eq_getElem_cons h, setF_cons]
  simp only [prv, List.getElem?_eq_getElem h, List.getElem?_eq_getElem (show j < l.length by omega), Nat.add_sub_cancel]
theorem setF_zero {l : List Itv} (h : 0 < l.length) : setF (prv l 0) (l.drop 0) = (goodB l[0] && setF (prv l 1) (l.drop 1)) := by
  rw [List.drop_eq_getElem_cons h, setF_cons]
  simp only [prv, List.getElem?_eq_getElem h, Bool.and_true, Nat.zero_add]
theorem setF_good {l : List Itv} {k : Nat} (h : k < l.length) (hg : goodB l[k] = false) : setF (prv l k) (l.drop k) = false := by
  rw [List.drop_eq_getElem_cons h, setF_cons, hg]; rfl
set_option maxRecDepth 100000 in
set_option maxHeartbeats 4000000 in
theorem valid_c (v : Value) (l : List Itv) (w : World) (hr : ItvsR (ph w) v l) : Calls Tryz.prog 92 #[v] w (RetV w (.int .i64 (setE l))) := by
  have hfew := fun w hr => few_c v l w hr
  obtain ⟨a, c, rfl, hlen, hr⟩ := hr.form
  have hE : Hid (setE l = if setF none l = false then 1 else (fewE l).2) := by
    show _ = _
    unfold setE fewE
    split
    · rfl
    · split <;> rfl
  replace hfew := Lib.hid hfew
  go_enter Tryz.func92, Tryz.ntmps92
  go_wp2_with fail
  go_loopw [11] (fun i wr => ∃ k : Nat, k ≤ l.length ∧ i = .int .i64 k ∧ Hid (setF none l = setF (prv l k) (l.drop k) ∧ ∀ x ∈ l.take k, goodB x = true) ∧ Ext w wr) (fun i _ => l.length - (intOf i).toNat)
  case atStart => exact ⟨0, Nat.zero_le _, rfl, Lib.hid ⟨rfl, by simp⟩, Ext.rfl' _⟩
  case round =>
    obtain ⟨k, hk, rfl, ho, hx⟩ := hrel
    by_cases hlt : k < l.length
    · obtain ⟨b, o, rfl, h0, h1, h2, h3, h4, h5, h6, h7, hbl, hI⟩ := ItvsR.at (hr.mono mono_ItvR hx.ple) k hlt
      have hja : decide (k < l.length) = true := decide_eq_true hlt
      have hgood := fun w => good_c l[k] w hI
      have hends := fun w => ends_c l[k] w
      have hg0 := fun (hg : goodB l[k] = false) => setF_good hlt hg
      have hg1 := fun (hg : goodB l[k] = true) => take_all hlt hg ho.out.2
      have hk0 := fun (h : k = 0) (hg : goodB l[k] = true) => show setF (prv l k) (l.drop k) = setF (prv l (k + 1)) (l.drop (k + 1)) by
        subst h; rw [setF_zero hlt, hg, Bool.true_and]
      have hk1 := fun (h : 0 < k) => setF_drop hlt h
      have hless := fun (h : 0 < k) (hg : goodB l[k] = true) w => less_c (hiE (l[k - 1]'(by omega))) (loE l[k]) w (goodB.hi (ho.out.2 _ (by rw [List.mem_take_iff_getElem]; exact ⟨k - 1, by omega, rfl⟩))).bd (goodB.lo hg).bd
      obtain ⟨y, hy⟩ : ∃ y, ∀ h : 0 < k, y = l[k - 1]'(by omega) := by
        by_cases h : 0 < k
        · exact ⟨l[k - 1]'(by omega), fun _ => rfl⟩
        · exact ⟨l[k], fun h' => absurd h' h⟩
      have hrow := fun (h : 0 < k) => ItvsR.at (hr.mono mono_ItvR hx.ple) (k - 1) (by omega)
      have hst : ∀ h : 0 < k, lessE (hiE y) (loE l[k]) = lessE (hiE (l[k - 1]'(by omega))) (loE l[k]) := fun h => by rw [hy h]
      have hendy := fun w => ends_c y w
      unfold endsV at hends hendy
      have hless' : ∀ (h : 0 < k) (hg : goodB l[k] = true) w, Calls Tryz.prog 118 #[enA (hiE y), enA (loE l[k])] w (RetV w (.bool (lessE (hiE y) (loE l[k])))) := fun h hg w => by
        rw [hy h]; exact hless h hg w
      have hk1' : ∀ h : 0 < k, setF (prv l k) (l.drop k) = (goodB l[k] && lessE (hiE y) (loE l[k]) && setF (prv l (k + 1)) (l.drop (k + 1))) := fun h => by
        rw [hst h]; exact hk1 h
      have hrow' : ∀ h : 0 < k, wr.cell? ⟨b, o + (k - 1) * 8, none⟩ = some (.int .i64 y.lo.num) ∧ wr.cell? ⟨b, o + (k - 1) * 8 + 1, none⟩ = some (.int .i64 y.lo.den) ∧ wr.cell? ⟨b, o + (k - 1) * 8 + 2, none⟩ = some (.int .i64 y.hi.num) ∧ wr.cell? ⟨b, o + (k - 1) * 8 + 3, none⟩ = some (.int .i64 y.hi.den) ∧ wr.cell? ⟨b, o + (k - 1) * 8 + 4, none⟩ = some (.bool y.loO) ∧ wr.cell? ⟨b, o + (k - 1) * 8 + 5, none⟩ = some (.bool y.hiO) ∧ wr.cell? ⟨b, o + (k - 1) * 8 + 6, none⟩ = some (.bool y.loI) ∧ wr.cell? ⟨b, o + (k - 1) * 8 + 7, none⟩ = some (.bool y.hiI) := fun h => by
        obtain ⟨b', o', e, q0, q1, q2, q3, q4, q5, q6, q7, -⟩ := hrow h
        cases e
        rw [hy h]
        exact ⟨q0, q1, q2, q3, q4, q5, q6, q7⟩
      clear hless hk1 hst hrow hy
      generalize lessE (hiE y) (loE l[k]) = lt at *
      generalize hiE y = hy at *
      generalize loE y = ly at *
      generalize loE l[k] = lx at *
      generalize hiE l[k] = ux at *
      unfold itA at hgood hends hendy
      generalize goodB l[k] = gd at *
      generalize l[k] = x at *
      clear hI
      obtain ⟨⟨p, q⟩, ⟨r, s⟩, lO, rO, lI, rI⟩ := x
      obtain ⟨⟨p', q'⟩, ⟨r', s'⟩, lO', hO', lI', hI'⟩ := y
      obtain ⟨f1, ⟨n1, d1⟩, t1⟩ := lx
      obtain ⟨f2, ⟨n2, d2⟩, t2⟩ := ux
      obtain ⟨f3, ⟨n3, d3⟩, t3⟩ := ly
      obtain ⟨f4, ⟨n4, d4⟩, t4⟩ := hy
      unfold enA at *
      dsimp only at *
      replace hgood := Lib.hid hgood
      replace hends := Lib.hid hends
      replace hendy := Lib.hid hendy
      replace hless' := Lib.hid hless'
      replace hk0 := Lib.hid hk0
      replace hk1' := Lib.hid hk1'
      replace hg0 := Lib.hid hg0
      replace hg1 := Lib.hid hg1
      replace hrow' := Lib.hid hrow'
      go_upto_region 4 with (fail)
      have hO := Proofs.YtnpnjcaomakehaaGreat.Own.new wr #[.int .i64 p, .int .i64 q, .int .i64 r, .int .i64 s, .bool lO, .bool rO, .bool lI, .bool rI] 92
      have hx1 := Ext.new wr (.cells #[.int .i64 p, .int .i64 q, .int .i64 r, .int .i64 s, .bool lO, .bool rO, .bool lI, .bool rI] 92)
      generalize wr.heap.size = b4 at *
      generalize wr.alloc _ = W at *
      have hE1 : Hid (setF none l = false → setE l = 1) := Lib.hid fun h => by rw [hE.out, if_pos h]
      replace hx := hx.then hx1
      obtain ⟨c0, f0⟩ := hO.facts
      have z0 := hO.lt
      go_wp2_with fail
      refine RetV_at (hgood.out _) ?_
      intro w2 hx2
      replace hO := hO.keep hx2
      replace hx := hx.then hx2
      have hx12 := hx1.then hx2
      clear c0 f0 z0 hx1 hx2 h0 h1 h2 h3 h4 h5 h6 h7
      obtain ⟨c0, f0⟩ := hO.facts
      have z0 := hO.lt
      cases gd with
      | false =>
        have h9 : Hid (setE l = 1) := Lib.hid (hE1.out (by rw [ho.out.1]; exact hg0.out rfl))
        go_wp2_with fail
        go_ret
        exact ⟨ret_int h9.out.symm, xE⟩
      | true =>
        by_cases hk00 : k = 0
        · have h8 : Hid (setF none l = setF (prv l (k + 1)) (l.drop (k + 1)) ∧ ∀ x ∈ l.take (k + 1), goodB x = true) := Lib.hid ⟨by rw [ho.out.1]; exact hk0.out hk00 rfl, hg1.out rfl⟩
          have hkb : decide (0 < k) = false := by simpa using hk00
          clear hk0 hk1' hrow' hless'
          go_wp2_with fail
          go_roundw
          case rel => exact ⟨k + 1, by omega, by go_num, h8.out, hx⟩
          case measure => simp [intOf]; omega
        · have hkb : decide (0 < k) = true := by simp; omega
          have hkp : 0 < k := by omega
          have hkm : IntKind.i64.wrap ((k : Int) - 1) = ((k - 1 : Nat) : Int) := by rw [IntKind.wrap_i64]; omega
          obtain ⟨q0, q1, q2, q3, q4, q5, q6, q7⟩ := hrow'.out hkp
          replace q0 := hx12.cell1 q0
          replace q1 := hx12.cell1 q1
          replace q2 := hx12.cell1 q2
          replace q3 := hx12.cell1 q3
          replace q4 := hx12.cell1 q4
          replace q5 := hx12.cell1 q5
          replace q6 := hx12.cell1 q6
          replace q7 := hx12.cell1 q7
          clear hrow' hk0
          go_wp2_with fail
          refine RetV_at (hends.out _) ?_
          intro w3 hx3
          replace hx := hx.then hx3
          replace q0 := hx3.cell1 q0
          replace q1 := hx3.cell1 q1
          replace q2 := hx3.cell1 q2
          replace q3 := hx3.cell1 q3
          replace q4 := hx3.cell1 q4
          replace q5 := hx3.cell1 q5
          replace q6 := hx3.cell1 q6
          replace q7 := hx3.cell1 q7
          have z9 := cell_lt q0
          clear c0 f0 z0 hO hx3 hx12
          go_upto_region 8 with (fail)
          have k1 := (Proofs.YtnpnjcaomakehaaGreat.Own.new w3 #[.int .i64 f1, .int .i64 n1, .int .i64 d1, .bool t1] 153).alloc (.cells #[.int .i64 f2, .int .i64 n2, .int .i64 d2, .bool t2] 153)
          have hy3 := (Ext.new w3 (.cells #[.int .i64 f1, .int .i64 n1, .int .i64 d1, .bool t1] 153)).alloc' (.cells #[.int .i64 f2, .int .i64 n2, .int .i64 d2, .bool t2] 153)
          have z1 := k1.lt
          generalize hb5 : w3.heap.size = b5 at *
          generalize (w3.alloc _).alloc _ = W3 at *
          replace hx := hx.then hy3
          replace q0 := hy3.cell1 q0
          replace q1 := hy3.cell1 q1
          replace q2 := hy3.cell1 q2
          replace q3 := hy3.cell1 q3
          replace q4 := hy3.cell1 q4
          replace q5 := hy3.cell1 q5
          replace q6 := hy3.cell1 q6
          replace q7 := hy3.cell1 q7
          have z9' := cell_lt q0
          have hk1m : k - 1 < l.length := by omega
          clear z9 hy3 hb5
          go_wp2_with fail
          refine RetV_at (hendy.out _) ?_
          intro w4 hx4
          replace hx := hx.then hx4
          replace k1 := k1.keep hx4
          clear q0 q1 q2 q3 q4 q5 q6 q7 z9' z1 hx4
          go_upto_region 9 with (fail)
          have k2 := Proofs.YtnpnjcaomakehaaGreat.Own.new' (w4.alloc (.cells #[.int .i64 f3, .int .i64 n3, .int .i64 d3, .bool t3] 153)) #[.int .i64 f4, .int .i64 n4, .int .i64 d4, .bool t4] 153 (n := w4.heap.size + 1) (by simp)
          have k3 := (k1.alloc (.cells #[.int .i64 f3, .int .i64 n3, .int .i64 d3, .bool t3] 153)).alloc (.cells #[.int .i64 f4, .int .i64 n4, .int .i64 d4, .bool t4] 153)
          have hy4 := (Ext.new w4 (.cells #[.int .i64 f3, .int .i64 n3, .int .i64 d3, .bool t3] 153)).alloc' (.cells #[.int .i64 f4, .int .i64 n4, .int .i64 d4, .bool t4] 153)
          replace hx := hx.then hy4
          generalize w4.heap.size = b8 at *
          generalize (w4.alloc _).alloc _ = W4 at *
          obtain ⟨c2, f2'⟩ := k2.facts
          obtain ⟨c3, f3'⟩ := k3.facts
          have z2 := k2.lt
          have z3 := k3.lt
          clear hy4 k1 k2 k3
          go_wp2_with fail
          refine RetV_at (hless'.out hkp (by first | trivial | rfl) _) ?_
          intro w5 hx5
          have hs := hk1'.out hkp
          replace hx := hx.then hx5
          clear c2 f2' c3 f3' z2 z3 hx5
          cases lt with
          | false =>
            have h9 : Hid (setE l = 1) := Lib.hid (hE1.out (by rw [ho.out.1, hs]; rfl))
            clear hs
            go_wp2_with fail
            go_ret
            exact ⟨ret_int h9.out.symm, xE⟩
          | true =>
            have h8 : Hid (setF none l = setF (prv l (k + 1)) (l.drop (k + 1)) ∧ ∀ x ∈ l.take (k + 1), goodB x = true) := Lib.hid ⟨by rw [ho.out.1, hs]; simp, hg1.out (by first | trivial | rfl)⟩
            clear hs
            go_wp2_with fail
            go_roundw
            case rel => exact ⟨k + 1, by omega, by go_num, h8.out, hx⟩
            case measure => simp [intOf]; omega
    · have hja : decide (k < l.length) = false := by simpa using hlt
      have hk2 : k = l.length := by omega
      have h9 : Hid (setE l = (fewE l).2) := Lib.hid (by
        have h1 := ho.out.1
        rw [hk2, List.drop_length] at h1
        rw [hE.out, if_neg (by rw [h1]; simp [setF])])
      go_wp2_with fail
      refine RetV_at (hfew.out _ (hr.mono mono_ItvR hx.ple)) ?_
      intro w2 hx2
      go_wp2_with fail
      go_ret
      exact ⟨ret_int h9.out.symm, xE⟩
def B62 (n : Int) : Prop := -4611686018427387904 ≤ n ∧ n ≤ 4611686018427387904
set_option maxRecDepth 100000 in
set_option maxHeartbeats 1000000 in
theorem common_c (a b : Int) (w : World) (ha : B62 a) (hb : B62 b) : Calls Tryz.prog 206 #[.int .i64 a, .int .i64 b] w (RetV w (.int .i64 (Int.gcd a b))) := by
  go_enter Tryz.func206, Tryz.ntmps206
  go_wp2
  go_loopw [0, 1] (fun u v wr => ∃ x y : Int, B62 x ∧ B62 y ∧ u = .int .i64 x ∧ v = .int .i64 y ∧ Hid (Int.gcd x y = Int.gcd a b) ∧ Ext w wr) (fun _ v _ => (intOf v).natAbs)
  case atStart => exact ⟨a, b, ha, hb, rfl, rfl, Lib.hid rfl, xE⟩
  case round =>
    obtain ⟨x, y, hx, hy, rfl, rfl, hg, he⟩ := hrel
    by_cases h0 : y = 0
    · subst h0
      have h9 : Hid ((Int.gcd a b : Int) = x.natAbs) := Lib.hid (by rw [← hg.out, Int.gcd_zero_right])
      unfold B62 at hx
      by_cases hn : x < 0
      · go_wp2_with fail
        go_ret
        exact ⟨ret_int (by rw [h9.out]; omega), xE⟩
      · go_wp2_with fail
        go_ret
        exact ⟨ret_int (by rw [h9.out]; omega), xE⟩
    · have hb0 : (y != 0) = true := by simpa using h0
      have e1 : (x.tmod y).natAbs = x.natAbs % y.natAbs := Int.natAbs_tmod x y
      have e2 : x.natAbs % y.natAbs < y.natAbs := Nat.mod_lt _ (by omega)
      have hg2 : Hid (Int.gcd y (x.tmod y) = Int.gcd a b) := Lib.hid (by rw [← hg.out]; unfold Int.gcd; rw [e1, Nat.gcd_comm x.natAbs, Nat.gcd_rec y.natAbs x.natAbs, Nat.gcd_comm])
      have h7 : B62 (x.tmod y) := by unfold B62 at *; omega
      generalize hq : x.tmod y = q at *
      replace hq := Lib.hid hq
      go_wp2_with fail
      go_quiet (fail)
      rw [hq.out]
      go_wp2_with fail
      refine ⟨⟨y, q, hy, h7, rfl, rfl, hg2, xE⟩, ?_⟩
      simp only [intOf]; omega
theorem ratOk_iff {r : Rat2} : RatOk r ↔ 1 ≤ r.den ∧ r.den ≤ 1048576 ∧ -1099511627776 ≤ r.num ∧ r.num ≤ 1099511627776 ∧ Int.gcd r.num r.den = 1 := by
  unfold RatOk Int.gcd
  omega
set_option maxRecDepth 100000 in
set_option maxHeartbeats 1000000 in
theorem rvalid_c (r : Rat2) (w : World) : Calls Tryz.prog 199 #[raA r] w (RetV w (.int .i64 (ErrIf (RatOk r) 1))) := by
  obtain ⟨n, d⟩ := r
  have hO := Proofs.YtnpnjcaomakehaaGreat.Own.new w #[.int .i64 n, .int .i64 d] 90
  unfold raA
  dsimp only
  by_cases hbad : d < 1 ∨ 1048576 < d ∨ n < -1099511627776 ∨ 1099511627776 < n
  · have hs : Hid (¬ RatOk ⟨n, d⟩) := by show ¬ _; rw [ratOk_iff]; dsimp only; omega
    clear hO
    by_cases h1 : d < 1
    · go_enter Tryz.func199, Tryz.ntmps199
      go_wp2_with fail
      go_ret
      exact ⟨ret_ek hs.out, xE⟩
    · by_cases h2 : 1048576 < d
      · go_enter Tryz.func199, Tryz.ntmps199
        go_wp2_with fail
        go_ret
        exact ⟨ret_ek hs.out, xE⟩
      · by_cases h3 : 1099511627776 < n
        · go_enter Tryz.func199, Tryz.ntmps199
          go_wp2_with fail
          go_ret
          exact ⟨ret_ek hs.out, xE⟩
        · have h4 : n < -1099511627776 := by omega
          go_enter Tryz.func199, Tryz.ntmps199
          go_wp2_with fail
          go_ret
          exact ⟨ret_ek hs.out, xE⟩
  · have h1 : ¬ d < 1 := by omega
    have h2 : ¬ 1048576 < d := by omega
    have h3 : ¬ 1099511627776 < n := by omega
    have h4 : ¬ n < -1099511627776 := by omega
    have hc := fun w => common_c n d w (by unfold B62; omega) (by unfold B62; omega)
    have hs : Hid ((((Int.gcd n d : Nat) : Int) = 1) ↔ RatOk ⟨n, d⟩) := by
      show _ ↔ _
      rw [ratOk_iff]; dsimp only; omega
    generalize (Int.gcd n d : Int) = g at *
    replace hc := Lib.hid hc
    clear hbad
    have hx := Ext.new w (.cells #[.int .i64 n, .int .i64 d] 90)
    clear hO
    go_enter Tryz.func199, Tryz.ntmps199
    go_wp2_with fail
    refine RetV_at (hc.out _) ?_
    intro w1 hx1
    by_cases hg : g = 1
    · have h9 := Lib.hid (hs.out.1 hg)
      have hgb : (g != 1) = false := by simpa using hg
      clear hs
      go_wp2_with fail
      go_ret
      exact ⟨ret_e0 h9.out, xE⟩
    · have h9 := Lib.hid (fun h => hg (hs.out.2 h))
      have hgb : (g != 1) = true := by simpa using hg
      clear hs
      go_wp2_with fail
      go_ret
      exact ⟨ret_ek h9.out, xE⟩
def Rat2.bd (r : Rat2) : Prop := -1099511627776 ≤ r.num ∧ r.num ≤ 1099511627776 ∧ 0 ≤ r.den ∧ r.den ≤ 1048576
theorem RatOk.bd {r : Rat2} (h : RatOk r) : r.bd := by have := ratOk_iff.1 h; unfold Rat2.bd; omega
theorem RatOk.I {r : Rat2} (h : RatOk r) : r.I := by have := ratOk_iff.1 h; unfold Rat2.I I64; omega
theorem mul_bd2 {x y : Int} (h1 : -1099511627776 ≤ x) (h2 : x ≤ 1099511627776) (h3 : 0 ≤ y) (h4 : y ≤ 1048576) : -1152921504606846976 ≤ x * y ∧ x * y ≤ 1152921504606846976 := by
  have e1 : x * y ≤ 1099511627776 * 1048576 := Int.le_trans (Int.mul_le_mul_of_nonneg_right h2 h3) (Int.mul_le_mul_of_nonneg_left h4 (by omega))
  have e2 : -1099511627776 * 1048576 ≤ x * y := by
    have : -1099511627776 * y ≤ x * y := Int.mul_le_mul_of_nonneg_right h1 h3
    omega
  omega
set_option maxRecDepth 100000 in
set_option maxHeartbeats 1000000 in
theorem rless_c (a b : Rat2) (w : World) (ha : a.bd) (hb : b.bd) : Calls Tryz.prog 180 #[raA a, raA b] w (RetV w (.bool (lessR a b))) := by
  have hs : Hid (lessR a b = decide (a.num * b.den < b.num * a.den)) := rfl
  generalize lessR a b = q at hs ⊢
  obtain ⟨n, d⟩ := a
  obtain ⟨n', d'⟩ := b
  obtain ⟨a1, a2, a3, a4⟩ := ha
  obtain ⟨b1, b2, b3, b4⟩ := hb
  dsimp only at *
  have m1 := mul_bd2 a1 a2 b3 b4
  have m2 := mul_bd2 b1 b2 a3 a4
  clear a1 a2 a3 a4 b1 b2 b3 b4
  unfold raA
  dsimp only
  have hx := (Ext.new w (.cells #[.int .i64 n, .int .i64 d] 90)).alloc' (.cells #[.int .i64 n', .int .i64 d'] 90)
  have w1 : IntKind.i64.wrap (n * d') = n * d' := wrap_id (by omega) (by omega)
  have w2 : IntKind.i64.wrap (n' * d) = n' * d := wrap_id (by omega) (by omega)
  have w3 : wrap64 (n * d') = n * d' := wrap64_id (by omega) (by omega)
  have w4 : wrap64 (n' * d) = n' * d := wrap64_id (by omega) (by omega)
  go_enter Tryz.func180, Tryz.ntmps180
  go_wp2_with fail
  go_ret
  exact ⟨ret_bool hs.out.symm, hx⟩
def aroundV (n m : Int) : Int := if n < 0 then (-(n + 1)).tmod m else n.tmod m
theorem aroundV_range {n m : Int} (hn : I64 n) (hm : 0 < m) : 0 ≤ aroundV n m ∧ aroundV n m < m := by
  unfold I64 at hn
  unfold aroundV
  split
  · exact ⟨Int.tmod_nonneg _ (by omega), Int.tmod_lt_of_pos _ hm⟩
  · exact ⟨Int.tmod_nonneg _ (by omega), Int.tmod_lt_of_pos _ hm⟩
theorem around_c (n m : Int) (w : World) (hn : I64 n) (hm : 0 < m) (hm' : m ≤ 9223372036854775807) :
    Calls Tryz.prog 16 #[.int .i64 n, .int .i64 m] w (RetV w (.int .i64 (aroundV n m))) := by
  have hr := aroundV_range hn hm
  have hn' := hn
  unfold I64 at hn'
  have hm0 : (m == 0) = false := by simp; omega
  by_cases h : n < 0
  · have hv : Hid (aroundV n m = (-(n + 1)).tmod m) := by show _ = _; unfold aroundV; rw [if_pos h]
    rw [hv.out] at hr ⊢
    have hq : IntKind.i64.wrap ((-(n + 1)).tmod m) = (-(n + 1)).tmod m := by rw [IntKind.wrap_i64]; omega
    go_enter Tryz.func16, Tryz.ntmps16
    go_wp2_with fail
    go_ret
    exact ⟨ret_int (Int.neg_tmod ..).symm, xE⟩
  · have hv : Hid (aroundV n m = n.tmod m) := by show _ = _; unfold aroundV; rw [if_neg h]
    rw [hv.out] at hr ⊢
    have hq : IntKind.i64.wrap (n.tmod m) = n.tmod m := by rw [IntKind.wrap_i64]; omega
    go_enter Tryz.func16, Tryz.ntmps16
    go_wp2_with fail
    go_ret
    exact ⟨ret_int (Int.tmod_eq_emod_of_nonneg (by omega)).symm, xE⟩
end Go.Proofs.YtnpnjcaomakehaaGreat
namespace Go.Proofs.YtnpnjcaomakehaaGreat
def sumN {α : Type} (f : α → Nat) : List α → Nat
  | [] => 0
  | x :: xs => f x + sumN f xs
theorem sumN_take {α : Type} (f : α → Nat) (l : List α) (k : Nat) (h : k < l.length) : sumN f (l.take (k+1)) = sumN f (l.take k) + f l[k] := by
  induction l generalizing k with
  | nil => simp at h
  | cons x xs ih =>
    cases k with
    | zero => simp [sumN]
    | succ k => simp [sumN, ih k (by simpa using h)]; omega
theorem sumN_take_le {α : Type} (f : α → Nat) (l : List α) (k : Nat) : sumN f (l.take k) ≤ sumN f l := by
  induction l generalizing k with
  | nil => simp
  | cons x xs ih => cases k with
    | zero => simp [sumN]
    | succ k => simp [sumN]; exact ih k
theorem sumN_mem {α : Type} (f : α → Nat) {l : List α} {x : α} (h : x ∈ l) : f x ≤ sumN f l := by
  induction l with
  | nil => cases h
  | cons y ys ih =>
    rcases List.mem_cons.1 h with rfl | h
    · simp [sumN]
    · have := ih h; simp only [sumN]; omega
def maxN {α : Type} (f : α → Nat) : List α → Nat
  | [] => 0
  | x :: xs => max (f x) (maxN f xs)
theorem maxN_take {α : Type} (f : α → Nat) (l : List α) (k : Nat) (h : k < l.length) : maxN f (l.take (k+1)) = max (maxN f (l.take k)) (f l[k]) := by
  induction l generalizing k with
  | nil => simp at h
  | cons x xs ih =>
    cases k with
    | zero => simp [maxN]
    | succ k => have := ih k (by simpa using h); simp only [List.take_succ_cons, maxN, List.getElem_cons_succ, this]; omega
theorem maxN_take_le {α : Type} (f : α → Nat) (l : List α) (k : Nat) : maxN f (l.take k) ≤ maxN f l := by
  induction l generalizing k with
  | nil => simp
  | cons x xs ih => cases k with
    | zero => simp [maxN]
    | succ k => have := ih k; simp [maxN]; omega
theorem maxN_mem {α : Type} (f : α → Nat) {l : List α} {x : α} (h : x ∈ l) : f x ≤ maxN f l := by
  induction l with
  | nil => cases h
  | cons y ys ih =>
    rcases List.mem_cons.1 h with rfl | h
    · simp only [maxN]; omega
    · have := ih h; simp only [maxN]; omega
theorem maxN_le {α : Type} {f : α → Nat} {l : List α} {n : Nat} (h : ∀ x ∈ l, f x ≤ n) : maxN f l ≤ n := by
  induction l with
  | nil => simp [maxN]
  | cons x xs ih =>
    have := ih fun y hy => h y (by simp [hy])
    have := h x (by simp)
    simp only [maxN]; omega
theorem maxN_le_sumN {α : Type} (f g : α → Nat) (l : List α) (h : ∀ x ∈ l, f x ≤ g x) : maxN f l ≤ sumN g l := by
  induction l with
  | nil => simp [maxN]
  | cons x xs ih =>
    have := ih fun y hy => h y (by simp [hy])
    have := h x (by simp)
    simp only [maxN, sumN]; omega
theorem sumN_le {α : Type} (f g : α → Nat) (l : List α) (h : ∀ x ∈ l, f x ≤ g x) : sumN f l ≤ sumN g l := by
  induction l with
  | nil => simp [sumN]
  | cons x xs ih =>
    have := ih fun y hy => h y (by simp [hy])
    have := h x (by simp)
    simp only [sumN]; omega
theorem length_le_sumN {α : Type} (f : α → Nat) (l : List α) (h : ∀ x ∈ l, 1 ≤ f x) : l.length ≤ sumN f l := by
  induction l with
  | nil => simp
  | cons x xs ih =>
    have := ih fun y hy => h y (by simp [hy])
    have := h x (by simp)
    simp only [sumN, List.length_cons]; omega
end Go.Proofs.YtnpnjcaomakehaaGreat
namespace Go.Proofs.YtnpnjcaomakehaaGreat
open Go.RowKit
inductive Fm where
  | mk (op n : Int) (inn : List Itv) (kids : List Fm)
def Fm.op : Fm → Int | .mk o _ _ _ => o
def Fm.n : Fm → Int | .mk _ n _ _ => n
def Fm.inn : Fm → List Itv | .mk _ _ i _ => i
def Fm.kids : Fm → List Fm | .mk _ _ _ k => k
theorem Fm.eta (f : Fm) : f = .mk f.op f.n f.inn f.kids := by cases f; rfl
theorem Fm.ind {P : Fm → Prop} (h : ∀ f, (∀ g ∈ f.kids, P g) → P f) (f : Fm) : P f := by
  induction f using Fm.rec (motive_2 := fun xs => ∀ x ∈ xs, P x) with
  | mk o n i kids ih => exact h _ ih
  | nil => intros; contradiction
  | cons x xs h1 h2 =>
    rename_i y hy
    rcases List.mem_cons.1 hy with rfl | hy
    · exact h1
    · exact h2 y hy
mutual
def FmR (h : PH) : List Value → Fm → Prop
  | cs, .mk op n inn kids => ∃ v3 a4 c4, cs = [.int .i64 op, .int .i64 n, v3, .slice a4 kids.length c4] ∧ I64 op ∧ I64 n ∧ ItvsR h v3 inn ∧
      kids.length ≤ c4 ∧ c4 ≤ maxLen ∧ (kids = [] ∨ ∃ b o, a4 = some ⟨b, o, none⟩ ∧ FmsAt h b o kids)
def FmsAt (h : PH) (b : Nat) : Nat → List Fm → Prop
  | _, [] => True
  | o, x :: xs => (∃ cs, cs.length = 4 ∧ (∀ j, j < 4 → cellAt h b (o + j) = some (cs.getD j undef)) ∧ FmR h cs x) ∧ FmsAt h b (o + 4) xs
end
abbrev FmsR : PH → Value → List Fm → Prop := SliceRep FmR 4
theorem fmsAt_eq {h : PH} {b : Nat} : ∀ {xs : List Fm} {o : Nat}, FmsAt h b o xs ↔ RowRep h FmR 4 b o xs
  | [], o => by simp [FmsAt, RowRep]
  | x :: xs, o => by simp [FmsAt, RowRep, fmsAt_eq]
theorem fmR_iff {h : PH} {cs : List Value} {f : Fm} : FmR h cs f ↔ ∃ v3 v4, cs = [.int .i64 f.op, .int .i64 f.n, v3, v4] ∧ I64 f.op ∧ I64 f.n ∧ ItvsR h v3 f.inn ∧ FmsR h v4 f.kids := by
  cases f with
  | mk op n inn kids =>
    simp only [FmR, fmsAt_eq, Fm.op, Fm.n, Fm.inn, Fm.kids]
    constructor
    · rintro ⟨v3, a4, c4, rfl, h1, h2, h3, h4, h5, h6⟩
      exact ⟨v3, _, rfl, h1, h2, h3, a4, c4, rfl, h4, h5, h6⟩
    · rintro ⟨v3, v4, rfl, h1, h2, h3, a4, c4, rfl, h4, h5, h6⟩
      exact ⟨v3, a4, c4, rfl, h1, h2, h3, h4, h5, h6⟩
theorem mono_FmR : Mono FmR := by
  intro h h' cs x hl
  induction x using Fm.ind generalizing cs with
  | h f ih =>
    rw [fmR_iff, fmR_iff]
    rintro ⟨v3, v4, h1, h2, h3, h4, h5⟩
    exact ⟨v3, v4, h1, h2, h3, h4.mono mono_ItvR hl, h5.mono' hl fun cs x hx => ih x hx cs⟩
def fmC (f : Fm) (a3 : Option Addr) (c3 : Nat) (a4 : Option Addr) (c4 : Nat) : List Value := [.int .i64 f.op, .int .i64 f.n, .slice a3 f.inn.length c3, .slice a4 f.kids.length c4]
theorem FmR.form {h : PH} {cs : List Value} {f : Fm} (hr : FmR h cs f) : ∃ a3 c3 a4 c4, cs = fmC f a3 c3 a4 c4 ∧ I64 f.op ∧ I64 f.n ∧
    f.inn.length ≤ 9223372036854775807 ∧ f.kids.length ≤ 9223372036854775807 ∧
    ItvsR h (.slice a3 f.inn.length c3) f.inn ∧ FmsR h (.slice a4 f.kids.length c4) f.kids := by
  rw [fmR_iff] at hr
  obtain ⟨v3, v4, rfl, h1, h2, h3, h4⟩ := hr
  obtain ⟨a3, c3, rfl, b3, h3⟩ := h3.form
  obtain ⟨a4, c4, rfl, b4, h4⟩ := h4.form
  exact ⟨a3, c3, a4, c4, rfl, h1, h2, b3, b4, h3, h4⟩
theorem FmR.of {h : PH} {f : Fm} {a3 : Option Addr} {c3 : Nat} {a4 : Option Addr} {c4 : Nat} (h1 : I64 f.op) (h2 : I64 f.n) (h3 : ItvsR h (.slice a3 f.inn.length c3) f.inn) (h4 : FmsR h (.slice a4 f.kids.length c4) f.kids) : FmR h (fmC f a3 c3 a4 c4) f :=
  fmR_iff.2 ⟨_, _, rfl, h1, h2, h3, h4⟩
theorem FmsR.at {w : World} {a : Option Addr} {n cap : Nat} {xs : List Fm} (hr : FmsR (ph w) (.slice a n cap) xs) (k : Nat) (hk : k < xs.length) :
    ∃ b o a3 c3 a4 c4, a = some ⟨b, o, none⟩ ∧ w.cell? ⟨b, o + k * 4, none⟩ = some (.int .i64 xs[k].op) ∧ w.cell? ⟨b, o + k * 4 + 1, none⟩ = some (.int .i64 xs[k].n) ∧
      w.cell? ⟨b, o + k * 4 + 2, none⟩ = some (.slice a3 xs[k].inn.length c3) ∧ w.cell? ⟨b, o + k * 4 + 3, none⟩ = some (.slice a4 xs[k].kids.length c4) ∧
      FmR (ph w) (fmC xs[k] a3 c3 a4 c4) xs[k] ∧ b < w.heap.size := by
  obtain ⟨b, o, cs, h1, h2, h3, h4⟩ := hr.get k hk
  obtain ⟨a3, c3, a4, c4, rfl, -⟩ := h4.form
  have h : ∀ j, j < 4 → w.cell? ⟨b, o + k * 4 + j, none⟩ = some ((fmC xs[k] a3 c3 a4 c4).getD j undef) := fun j hj => by rw [cell_ph]; exact h3 j hj
  exact ⟨b, o, a3, c3, a4, c4, h1, h 0 (by omega), h 1 (by omega), h 2 (by omega), h 3 (by omega), h4, cell_lt (h 0 (by omega))⟩
mutual
def Fm.size : Fm → Nat
  | .mk _ _ _ kids => 1 + fsizes kids
def fsizes : List Fm → Nat
  | [] => 0
  | x :: xs => x.size + fsizes xs
end
theorem fsizes_eq : ∀ l : List Fm, fsizes l = sumN Fm.size l
  | [] => rfl
  | x :: xs => by simp [fsizes, sumN, fsizes_eq xs]
theorem Fm.size_eq (f : Fm) : f.size = 1 + sumN Fm.size f.kids := by
  cases f; simp [Fm.size, Fm.kids, fsizes_eq]
mutual
def Fm.deep : Fm → Nat
  | .mk _ _ _ kids => 1 + fdeeps kids
def fdeeps : List Fm → Nat
  | [] => 0
  | x :: xs => max x.deep (fdeeps xs)
end
theorem fdeeps_eq : ∀ l : List Fm, fdeeps l = maxN Fm.deep l
  | [] => rfl
  | x :: xs => by simp [fdeeps, maxN, fdeeps_eq xs]
theorem Fm.deep_eq (f : Fm) : f.deep = 1 + maxN Fm.deep f.kids := by
  cases f; simp [Fm.deep, Fm.kids, fdeeps_eq]
theorem Fm.deep_le_size (f : Fm) : f.deep ≤ f.size := by
  induction f using Fm.ind with
  | h f ih => rw [Fm.deep_eq, Fm.size_eq]; have := maxN_le_sumN Fm.deep Fm.size f.kids ih; omega
mutual
def Fm.bulk : Fm → Nat
  | .mk _ _ inn kids => 1 + inn.length + fbulks kids
def fbulks : List Fm → Nat
  | [] => 0
  | x :: xs => x.bulk + fbulks xs
end
theorem fbulks_eq : ∀ l : List Fm, fbulks l = sumN Fm.bulk l
  | [] => rfl
  | x :: xs => by simp [fbulks, sumN, fbulks_eq xs]
theorem Fm.bulk_eq (f : Fm) : f.bulk = 1 + f.inn.length + sumN Fm.bulk f.kids := by
  cases f; simp [Fm.bulk, Fm.kids, Fm.inn, fbulks_eq]
theorem Fm.bulk_pos (f : Fm) : 1 ≤ f.bulk := by rw [Fm.bulk_eq]; omega
theorem Fm.size_pos (f : Fm) : 1 ≤ f.size := by rw [Fm.size_eq]; omega
theorem Fm.size_le_bulk (f : Fm) : f.size ≤ f.bulk := by
  induction f using Fm.ind with
  | h f ih => rw [Fm.bulk_eq, Fm.size_eq]; have := sumN_le Fm.size Fm.bulk f.kids ih; omega
theorem Fm.kids_le (f : Fm) : f.kids.length ≤ f.bulk := by
  have := length_le_sumN Fm.bulk f.kids fun x _ => x.bulk_pos
  rw [Fm.bulk_eq]; omega
theorem Fm.kid_le {f g : Fm} (h : g ∈ f.kids) : g.bulk ≤ f.bulk := by
  have := sumN_mem Fm.bulk h
  rw [Fm.bulk_eq f]; omega
-- the nodes, each before its kids
mutual
def Fm.pre : Fm → List Fm
  | .mk o n i kids => .mk o n i kids :: fpres kids
def fpres : List Fm → List Fm
  | [] => []
  | x :: xs => x.pre ++ fpres xs
end
theorem fpres_eq : ∀ l : List Fm, fpres l = l.flatMap Fm.pre
  | [] => rfl
  | x :: xs => by simp [fpres, fpres_eq xs]
theorem Fm.pre_eq (f : Fm) : f.pre = f :: f.kids.flatMap Fm.pre := by
  cases f; simp [Fm.pre, Fm.kids, fpres_eq]
theorem flat_len : ∀ l : List Fm, (∀ x ∈ l, x.pre.length = x.size) → (l.flatMap Fm.pre).length = sumN Fm.size l
  | [], _ => rfl
  | x :: xs, h => by rw [List.flatMap_cons, List.length_append, h x (by simp), flat_len xs (fun y hy => h y (by simp [hy])), sumN]
theorem Fm.pre_len (f : Fm) : f.pre.length = f.size := by
  induction f using Fm.ind with
  | h f ih => rw [Fm.pre_eq, Fm.size_eq, List.length_cons, flat_len _ ih]; omega
end Go.Proofs.YtnpnjcaomakehaaGreat
namespace Go.Proofs.YtnpnjcaomakehaaGreat
open Go.RowKit Go.Shelf
def rngF (k : Int) : List Itv :=
  if (k % 16 == 3) = true then [⟨⟨2 * (k / 8 % 4) - 1, 2⟩, ⟨2 * (k / 8 % 4) - 1 + 2 * (1 + k / 40 % 3), 2⟩, (k / 64 % 2 == 0), (k / 128 % 2 == 0), false, false⟩]
  else if (k % 8 == 0) = true then [⟨⟨0, 0⟩, ⟨k / 8 % 5 + (1 + k / 40 % 3), 1⟩, false, (k / 64 % 2 == 0), true, false⟩]
  else if (k % 8 == 1) = true then [⟨⟨k / 8 % 5, 1⟩, ⟨0, 0⟩, (k / 64 % 2 == 0), false, false, true⟩]
  else if (k % 8 == 2) = true then [⟨⟨k / 8 % 5, 1⟩, ⟨k / 8 % 5, 1⟩, false, false, false, false⟩]
  else if (k % 8 == 3) = true ∨ (k % 8 == 4) = true then [⟨⟨k / 8 % 5, 1⟩, ⟨k / 8 % 5 + (1 + k / 40 % 3), 1⟩, (k / 64 % 2 == 0), (k / 128 % 2 == 0), false, false⟩]
  else if (k % 8 == 5) = true then [⟨⟨0, 0⟩, ⟨0, 0⟩, false, false, true, true⟩]
  else if (k % 8 == 6) = true then [⟨⟨0, 0⟩, ⟨k / 8 % 5, 1⟩, false, true, true, false⟩, ⟨⟨k / 8 % 5 + (1 + k / 40 % 3), 1⟩, ⟨0, 0⟩, (k / 64 % 2 == 0), false, false, true⟩]
  else if (k / 64 % 4 == 0) = true then []
  else [⟨⟨k / 8 % 5, 1⟩, ⟨k / 8 % 5, 1⟩, false, false, false, false⟩, ⟨⟨k / 8 % 5 + (1 + k / 40 % 3), 1⟩, ⟨k / 8 % 5 + (1 + k / 40 % 3), 1⟩, false, false, false, false⟩]
def RngV (w : World) (k : Int) (e : Ending) (w' : World) : Prop := ∃ v l, e = .returned v ∧ Ext w w' ∧ ItvsR (up noH w w') v l ∧ setE l = 0 ∧ l.length ≤ 2 ∧ l = rngF k
def loOk (p q : Int) : Prop := (q = 1 ∧ 0 ≤ p ∧ p ≤ 4) ∨ (q = 2 ∧ (p = -1 ∨ p = 1 ∨ p = 3 ∨ p = 5))
def hiR (p q d : Int) : Rat2 := ⟨p + q * d, q⟩
theorem loOk_cases {p q : Int} (h : loOk p q) : (p, q) ∈ [((0 : Int), (1 : Int)), (1, 1), (2, 1), (3, 1), (4, 1), (-1, 2), (1, 2), (3, 2), (5, 2)] := by
  rcases h with ⟨rfl, h1, h2⟩ | ⟨rfl, rfl | rfl | rfl | rfl⟩
  · have : p = 0 ∨ p = 1 ∨ p = 2 ∨ p = 3 ∨ p = 4 := by omega
    rcases this with rfl | rfl | rfl | rfl | rfl <;> simp
  · simp
  · simp
  · simp
  · simp
theorem rng_all : ∀ x ∈ [((0 : Int), (1 : Int)), (1, 1), (2, 1), (3, 1), (4, 1), (-1, 2), (1, 2), (3, 2), (5, 2)], ∀ d ∈ [(1 : Int), 2, 3], ∀ a ∈ [true, false], ∀ b ∈ [true, false],
    setE [⟨⟨0, 0⟩, hiR x.1 x.2 d, false, a, true, false⟩] = 0 ∧ setE [⟨⟨x.1, x.2⟩, ⟨0, 0⟩, a, false, false, true⟩] = 0 ∧ setE [⟨⟨x.1, x.2⟩, ⟨x.1, x.2⟩, false, false, false, false⟩] = 0 ∧
    setE [⟨⟨x.1, x.2⟩, hiR x.1 x.2 d, a, b, false, false⟩] = 0 ∧ setE [⟨⟨0, 0⟩, ⟨x.1, x.2⟩, false, true, true, false⟩, ⟨hiR x.1 x.2 d, ⟨0, 0⟩, a, false, false, true⟩] = 0 ∧
    setE [⟨⟨x.1, x.2⟩, ⟨x.1, x.2⟩, false, false, false, false⟩, ⟨hiR x.1 x.2 d, hiR x.1 x.2 d, false, false, false, false⟩] = 0 := by
  decide +kernel
theorem bmem (b : Bool) : b ∈ [true, false] := by cases b <;> simp
set_option maxRecDepth 100000 in
set_option maxHeartbeats 8000000 in
theorem rangeF_c (n : Int) (w : World) (hn : I64 n) : Calls Tryz.prog 139 #[.int .i64 n] w (RngV w (aroundV n 1048576)) := by
  obtain ⟨k0, k1⟩ := aroundV_range (n := n) (m := 1048576) hn (by omega)
  go_enter Tryz.func139, Tryz.ntmps139
  go_wp2_with fail
  refine RetV_at (around_c n 1048576 _ hn (by omega) (by omega)) ?_
  intro w1 hx1
  generalize aroundV n 1048576 = k at *
  have hdm : 1 + k / 40 % 3 ∈ [(1 : Int), 2, 3] := by
    have : k / 40 % 3 = 0 ∨ k / 40 % 3 = 1 ∨ k / 40 % 3 = 2 := by omega
    rcases this with h | h | h <;> rw [h] <;> simp
  have hkd : 0 ≤ k / 40 % 3 ∧ k / 40 % 3 ≤ 2 := by omega
  by_cases h16 : k % 16 = 3
  · have b0 : (k % 16 == 3) = true := by simpa using h16
    have hlm := loOk_cases (p := 2 * (k / 8 % 4) - 1) (q := 2) (by unfold loOk; omega)
    have hall := rng_all _ hlm _ hdm
    have hpb : -1 ≤ 2 * (k / 8 % 4) - 1 ∧ 2 * (k / 8 % 4) - 1 ≤ 5 := by omega
    have h8 : k % 8 = 0 ∨ k % 8 = 1 ∨ k % 8 = 2 ∨ k % 8 = 3 ∨ k % 8 = 4 ∨ k % 8 = 5 ∨ k % 8 = 6 ∨ k % 8 = 7 := by omega
    have h83 : k % 8 = 3 := by omega
    rcases h8 with h8 | h8 | h8 | h8 | h8 | h8 | h8 | h8
    · omega
    · omega
    · omega
    · have e0 : (k % 8 == 0) = false := by rw [h8]; rfl
      have e1 : (k % 8 == 1) = false := by rw [h8]; rfl
      have e2 : (k % 8 == 2) = false := by rw [h8]; rfl
      have e3 : (k % 8 == 3) = true := by rw [h8]; rfl
      have e4 : (k % 8 == 4) = false := by rw [h8]; rfl
      have e5 : (k % 8 == 5) = false := by rw [h8]; rfl
      have e6 : (k % 8 == 6) = false := by rw [h8]; rfl
      go_wp2_with fail
      have hI1 : Itv.I ⟨⟨2 * (k / 8 % 4) - 1, 2⟩, ⟨2 * (k / 8 % 4) - 1 + 2 * (1 + k / 40 % 3), 2⟩, (k / 64 % 2 == 0), (k / 128 % 2 == 0), false, false⟩ := by unfold Itv.I Rat2.I I64; dsimp only; omega
      have hM := (((Mem.start w noH (noH_le _)).ext (w' := (w1.alloc (.cells #[.int .i64 (2 * (k / 8 % 4) - 1), .int .i64 2] 90)).alloc (.cells #[.int .i64 (2 * (k / 8 % 4) - 1 + 2 * (1 + k / 40 % 3)), .int .i64 2] 90)) xE).new' #[.int .i64 (2 * (k / 8 % 4) - 1), .int .i64 (2), .int .i64 (2 * (k / 8 % 4) - 1 + 2 * (1 + k / 40 % 3)), .int .i64 (2), .bool (k / 64 % 2 == 0), .bool (k / 128 % 2 == 0), .bool false, .bool false] 92 (n := w1.heap.size + 1 + 1) (by simp)).asOwn 0 rfl mono_ItvR (sz := 8) (xs := [⟨⟨2 * (k / 8 % 4) - 1, 2⟩, ⟨2 * (k / 8 % 4) - 1 + 2 * (1 + k / 40 % 3), 2⟩, (k / 64 % 2 == 0), (k / 128 % 2 == 0), false, false⟩]) (n := 1) (by simp) (by simp [maxLen]) rfl ⟨_, [], rfl, rfl, ⟨rfl, hI1⟩, rfl⟩
      go_ret
      exact ⟨_, _, rfl, xE, hM.repUp 0 rfl, (hall _ (bmem (k / 64 % 2 == 0)) _ (bmem (k / 128 % 2 == 0))).2.2.2.1, by simp, by unfold rngF; rw [if_pos b0]⟩
    · omega
    · omega
    · omega
    · omega
  · have b0 : (k % 16 == 3) = false := by simpa using h16
    have hlm := loOk_cases (p := k / 8 % 5) (q := 1) (by unfold loOk; omega)
    have hall := rng_all _ hlm _ hdm
    have hpb : -1 ≤ k / 8 % 5 ∧ k / 8 % 5 ≤ 5 := by omega
    have h8 : k % 8 = 0 ∨ k % 8 = 1 ∨ k % 8 = 2 ∨ k % 8 = 3 ∨ k % 8 = 4 ∨ k % 8 = 5 ∨ k % 8 = 6 ∨ k % 8 = 7 := by omega
    rcases h8 with h8 | h8 | h8 | h8 | h8 | h8 | h8 | h8
    · have e0 : (k % 8 == 0) = true := by rw [h8]; rfl
      have e1 : (k % 8 == 1) = false := by rw [h8]; rfl
      have e2 : (k % 8 == 2) = false := by rw [h8]; rfl
      have e3 : (k % 8 == 3) = false := by rw [h8]; rfl
      have e4 : (k % 8 == 4) = false := by rw [h8]; rfl
      have e5 : (k % 8 == 5) = false := by rw [h8]; rfl
      have e6 : (k % 8 == 6) = false := by rw [h8]; rfl
      go_wp2_with fail
      have hI1 : Itv.I ⟨⟨0, 0⟩, ⟨k / 8 % 5 + (1 + k / 40 % 3), 1⟩, false, (k / 64 % 2 == 0), true, false⟩ := by unfold Itv.I Rat2.I I64; dsimp only; omega
      have hM := (((Mem.start w noH (noH_le _)).ext (w' := (w1.alloc (.cells #[.int .i64 (k / 8 % 5), .int .i64 1] 90)).alloc (.cells #[.int .i64 (k / 8 % 5 + (1 + k / 40 % 3)), .int .i64 1] 90)) xE).new' #[.int .i64 (0), .int .i64 (0), .int .i64 (k / 8 % 5 + (1 + k / 40 % 3)), .int .i64 (1), .bool false, .bool (k / 64 % 2 == 0), .bool true, .bool false] 92 (n := w1.heap.size + 1 + 1) (by simp)).asOwn 0 rfl mono_ItvR (sz := 8) (xs := [⟨⟨0, 0⟩, ⟨k / 8 % 5 + (1 + k / 40 % 3), 1⟩, false, (k / 64 % 2 == 0), true, false⟩]) (n := 1) (by simp) (by simp [maxLen]) rfl ⟨_, [], rfl, rfl, ⟨rfl, hI1⟩, rfl⟩
      go_ret
      exact ⟨_, _, rfl, xE, hM.repUp 0 rfl, (by have h := (hall _ (bmem (k / 64 % 2 == 0)) _ (bmem true)).1; simpa [hiR] using h), by simp, by unfold rngF; rw [if_neg (by rw [b0]; decide), if_pos e0]⟩
    · have e0 : (k % 8 == 0) = false := by rw [h8]; rfl
      have e1 : (k % 8 == 1) = true := by rw [h8]; rfl
      have e2 : (k % 8 == 2) = false := by rw [h8]; rfl
      have e3 : (k % 8 == 3) = false := by rw [h8]; rfl
      have e4 : (k % 8 == 4) = false := by rw [h8]; rfl
      have e5 : (k % 8 == 5) = false := by rw [h8]; rfl
      have e6 : (k % 8 == 6) = false := by rw [h8]; rfl
      go_wp2_with fail
      have hI1 : Itv.I ⟨⟨k / 8 % 5, 1⟩, ⟨0, 0⟩, (k / 64 % 2 == 0), false, false, true⟩ := by unfold Itv.I Rat2.I I64; dsimp only; omega
      have hM := (((Mem.start w noH (noH_le _)).ext (w' := (w1.alloc (.cells #[.int .i64 (k / 8 % 5), .int .i64 1] 90)).alloc (.cells #[.int .i64 (k / 8 % 5 + (1 + k / 40 % 3)), .int .i64 1] 90)) xE).new' #[.int .i64 (k / 8 % 5), .int .i64 (1), .int .i64 (0), .int .i64 (0), .bool (k / 64 % 2 == 0), .bool false, .bool false, .bool true] 92 (n := w1.heap.size + 1 + 1) (by simp)).asOwn 0 rfl mono_ItvR (sz := 8) (xs := [⟨⟨k / 8 % 5, 1⟩, ⟨0, 0⟩, (k / 64 % 2 == 0), false, false, true⟩]) (n := 1) (by simp) (by simp [maxLen]) rfl ⟨_, [], rfl, rfl, ⟨rfl, hI1⟩, rfl⟩
      go_ret
      exact ⟨_, _, rfl, xE, hM.repUp 0 rfl, (by have h := (hall _ (bmem (k / 64 % 2 == 0)) _ (bmem true)).2.1; simpa [hiR] using h), by simp, by unfold rngF; rw [if_neg (by rw [b0]; decide), if_neg (by rw [e0]; decide), if_pos e1]⟩
    · have e0 : (k % 8 == 0) = false := by rw [h8]; rfl
      have e1 : (k % 8 == 1) = false := by rw [h8]; rfl
      have e2 : (k % 8 == 2) = true := by rw [h8]; rfl
      have e3 : (k % 8 == 3) = false := by rw [h8]; rfl
      have e4 : (k % 8 == 4) = false := by rw [h8]; rfl
      have e5 : (k % 8 == 5) = false := by rw [h8]; rfl
      have e6 : (k % 8 == 6) = false := by rw [h8]; rfl
      go_wp2_with fail
      have hI1 : Itv.I ⟨⟨k / 8 % 5, 1⟩, ⟨k / 8 % 5, 1⟩, false, false, false, false⟩ := by unfold Itv.I Rat2.I I64; dsimp only; omega
      have hM := (((Mem.start w noH (noH_le _)).ext (w' := (w1.alloc (.cells #[.int .i64 (k / 8 % 5), .int .i64 1] 90)).alloc (.cells #[.int .i64 (k / 8 % 5 + (1 + k / 40 % 3)), .int .i64 1] 90)) xE).new' #[.int .i64 (k / 8 % 5), .int .i64 (1), .int .i64 (k / 8 % 5), .int .i64 (1), .bool false, .bool false, .bool false, .bool false] 92 (n := w1.heap.size + 1 + 1) (by simp)).asOwn 0 rfl mono_ItvR (sz := 8) (xs := [⟨⟨k / 8 % 5, 1⟩, ⟨k / 8 % 5, 1⟩, false, false, false, false⟩]) (n := 1) (by simp) (by simp [maxLen]) rfl ⟨_, [], rfl, rfl, ⟨rfl, hI1⟩, rfl⟩
      go_ret
      exact ⟨_, _, rfl, xE, hM.repUp 0 rfl, (by have h := (hall _ (bmem true) _ (bmem true)).2.2.1; simpa [hiR] using h), by simp, by unfold rngF; rw [if_neg (by rw [b0]; decide), if_neg (by rw [e0]; decide), if_neg (by rw [e1]; decide), if_pos e2]⟩
    · have e0 : (k % 8 == 0) = false := by rw [h8]; rfl
      have e1 : (k % 8 == 1) = false := by rw [h8]; rfl
      have e2 : (k % 8 == 2) = false := by rw [h8]; rfl
      have e3 : (k % 8 == 3) = true := by rw [h8]; rfl
      have e4 : (k % 8 == 4) = false := by rw [h8]; rfl
      have e5 : (k % 8 == 5) = false := by rw [h8]; rfl
      have e6 : (k % 8 == 6) = false := by rw [h8]; rfl
      go_wp2_with fail
      have hI1 : Itv.I ⟨⟨k / 8 % 5, 1⟩, ⟨k / 8 % 5 + (1 + k / 40 % 3), 1⟩, (k / 64 % 2 == 0), (k / 128 % 2 == 0), false, false⟩ := by unfold Itv.I Rat2.I I64; dsimp only; omega
      have hM := (((Mem.start w noH (noH_le _)).ext (w' := (w1.alloc (.cells #[.int .i64 (k / 8 % 5), .int .i64 1] 90)).alloc (.cells #[.int .i64 (k / 8 % 5 + (1 + k / 40 % 3)), .int .i64 1] 90)) xE).new' #[.int .i64 (k / 8 % 5), .int .i64 (1), .int .i64 (k / 8 % 5 + (1 + k / 40 % 3)), .int .i64 (1), .bool (k / 64 % 2 == 0), .bool (k / 128 % 2 == 0), .bool false, .bool false] 92 (n := w1.heap.size + 1 + 1) (by simp)).asOwn 0 rfl mono_ItvR (sz := 8) (xs := [⟨⟨k / 8 % 5, 1⟩, ⟨k / 8 % 5 + (1 + k / 40 % 3), 1⟩, (k / 64 % 2 == 0), (k / 128 % 2 == 0), false, false⟩]) (n := 1) (by simp) (by simp [maxLen]) rfl ⟨_, [], rfl, rfl, ⟨rfl, hI1⟩, rfl⟩
      go_ret
      exact ⟨_, _, rfl, xE, hM.repUp 0 rfl, (by have h := (hall _ (bmem (k / 64 % 2 == 0)) _ (bmem (k / 128 % 2 == 0))).2.2.2.1; simpa [hiR] using h), by simp, by unfold rngF; rw [if_neg (by rw [b0]; decide), if_neg (by rw [e0]; decide), if_neg (by rw [e1]; decide), if_neg (by rw [e2]; decide), if_pos (Or.inl e3)]⟩
    · have e0 : (k % 8 == 0) = false := by rw [h8]; rfl
      have e1 : (k % 8 == 1) = false := by rw [h8]; rfl
      have e2 : (k % 8 == 2) = false := by rw [h8]; rfl
      have e3 : (k % 8 == 3) = false := by rw [h8]; rfl
      have e4 : (k % 8 == 4) = true := by rw [h8]; rfl
      have e5 : (k % 8 == 5) = false := by rw [h8]; rfl
      have e6 : (k % 8 == 6) = false := by rw [h8]; rfl
      go_wp2_with fail
      have hI1 : Itv.I ⟨⟨k / 8 % 5, 1⟩, ⟨k / 8 % 5 + (1 + k / 40 % 3), 1⟩, (k / 64 % 2 == 0), (k / 128 % 2 == 0), false, false⟩ := by unfold Itv.I Rat2.I I64; dsimp only; omega
      have hM := (((Mem.start w noH (noH_le _)).ext (w' := (w1.alloc (.cells #[.int .i64 (k / 8 % 5), .int .i64 1] 90)).alloc (.cells #[.int .i64 (k / 8 % 5 + (1 + k / 40 % 3)), .int .i64 1] 90)) xE).new' #[.int .i64 (k / 8 % 5), .int .i64 (1), .int .i64 (k / 8 % 5 + (1 + k / 40 % 3)), .int .i64 (1), .bool (k / 64 % 2 == 0), .bool (k / 128 % 2 == 0), .bool false, .bool false] 92 (n := w1.heap.size + 1 + 1) (by simp)).asOwn 0 rfl mono_ItvR (sz := 8) (xs := [⟨⟨k / 8 % 5, 1⟩, ⟨k / 8 % 5 + (1 + k / 40 % 3), 1⟩, (k / 64 % 2 == 0), (k / 128 % 2 == 0), false, false⟩]) (n := 1) (by simp) (by simp [maxLen]) rfl ⟨_, [], rfl, rfl, ⟨rfl, hI1⟩, rfl⟩
      go_ret
      exact ⟨_, _, rfl, xE, hM.repUp 0 rfl, (by have h := (hall _ (bmem (k / 64 % 2 == 0)) _ (bmem (k / 128 % 2 == 0))).2.2.2.1; simpa [hiR] using h), by simp, by unfold rngF; rw [if_neg (by rw [b0]; decide), if_neg (by rw [e0]; decide), if_neg (by rw [e1]; decide), if_neg (by rw [e2]; decide), if_pos (Or.inr e4)]⟩
    · have e0 : (k % 8 == 0) = false := by rw [h8]; rfl
      have e1 : (k % 8 == 1) = false := by rw [h8]; rfl
      have e2 : (k % 8 == 2) = false := by rw [h8]; rfl
      have e3 : (k % 8 == 3) = false := by rw [h8]; rfl
      have e4 : (k % 8 == 4) = false := by rw [h8]; rfl
      have e5 : (k % 8 == 5) = true := by rw [h8]; rfl
      have e6 : (k % 8 == 6) = false := by rw [h8]; rfl
      go_wp2_with fail
      have hI1 : Itv.I ⟨⟨0, 0⟩, ⟨0, 0⟩, false, false, true, true⟩ := by unfold Itv.I Rat2.I I64; dsimp only; omega
      have hM := (((Mem.start w noH (noH_le _)).ext (w' := (w1.alloc (.cells #[.int .i64 (k / 8 % 5), .int .i64 1] 90)).alloc (.cells #[.int .i64 (k / 8 % 5 + (1 + k / 40 % 3)), .int .i64 1] 90)) xE).new' #[.int .i64 (0), .int .i64 (0), .int .i64 (0), .int .i64 (0), .bool false, .bool false, .bool true, .bool true] 92 (n := w1.heap.size + 1 + 1) (by simp)).asOwn 0 rfl mono_ItvR (sz := 8) (xs := [⟨⟨0, 0⟩, ⟨0, 0⟩, false, false, true, true⟩]) (n := 1) (by simp) (by simp [maxLen]) rfl ⟨_, [], rfl, rfl, ⟨rfl, hI1⟩, rfl⟩
      go_ret
      exact ⟨_, _, rfl, xE, hM.repUp 0 rfl, (by decide +kernel), by simp, by unfold rngF; rw [if_neg (by rw [b0]; decide), if_neg (by rw [e0]; decide), if_neg (by rw [e1]; decide), if_neg (by rw [e2]; decide), if_neg (by rw [e3, e4]; decide), if_pos e5]⟩
    · have e0 : (k % 8 == 0) = false := by rw [h8]; rfl
      have e1 : (k % 8 == 1) = false := by rw [h8]; rfl
      have e2 : (k % 8 == 2) = false := by rw [h8]; rfl
      have e3 : (k % 8 == 3) = false := by rw [h8]; rfl
      have e4 : (k % 8 == 4) = false := by rw [h8]; rfl
      have e5 : (k % 8 == 5) = false := by rw [h8]; rfl
      have e6 : (k % 8 == 6) = true := by rw [h8]; rfl
      go_wp2_with fail
      have hI1 : Itv.I ⟨⟨0, 0⟩, ⟨k / 8 % 5, 1⟩, false, true, true, false⟩ := by unfold Itv.I Rat2.I I64; dsimp only; omega
      have hI2 : Itv.I ⟨⟨k / 8 % 5 + (1 + k / 40 % 3), 1⟩, ⟨0, 0⟩, (k / 64 % 2 == 0), false, false, true⟩ := by unfold Itv.I Rat2.I I64; dsimp only; omega
      have hM := (((Mem.start w noH (noH_le _)).ext (w' := (w1.alloc (.cells #[.int .i64 (k / 8 % 5), .int .i64 1] 90)).alloc (.cells #[.int .i64 (k / 8 % 5 + (1 + k / 40 % 3)), .int .i64 1] 90)) xE).new' #[.int .i64 (0), .int .i64 (0), .int .i64 (k / 8 % 5), .int .i64 (1), .bool false, .bool true, .bool true, .bool false, .int .i64 (k / 8 % 5 + (1 + k / 40 % 3)), .int .i64 (1), .int .i64 (0), .int .i64 (0), .bool (k / 64 % 2 == 0), .bool false, .bool false, .bool true] 92 (n := w1.heap.size + 1 + 1) (by simp)).asOwn 0 rfl mono_ItvR (sz := 8) (xs := [⟨⟨0, 0⟩, ⟨k / 8 % 5, 1⟩, false, true, true, false⟩, ⟨⟨k / 8 % 5 + (1 + k / 40 % 3), 1⟩, ⟨0, 0⟩, (k / 64 % 2 == 0), false, false, true⟩]) (n := 2) (by simp) (by simp [maxLen]) rfl ⟨_, _, rfl, rfl, ⟨rfl, hI1⟩, _, [], rfl, rfl, ⟨rfl, hI2⟩, rfl⟩
      go_ret
      exact ⟨_, _, rfl, xE, hM.repUp 0 rfl, (by have h := (hall _ (bmem (k / 64 % 2 == 0)) _ (bmem true)).2.2.2.2.1; simpa [hiR] using h), by simp, by unfold rngF; rw [if_neg (by rw [b0]; decide), if_neg (by rw [e0]; decide), if_neg (by rw [e1]; decide), if_neg (by rw [e2]; decide), if_neg (by rw [e3, e4]; decide), if_neg (by rw [e5]; decide), if_pos e6]⟩
    · have e0 : (k % 8 == 0) = false := by rw [h8]; rfl
      have e1 : (k % 8 == 1) = false := by rw [h8]; rfl
      have e2 : (k % 8 == 2) = false := by rw [h8]; rfl
      have e3 : (k % 8 == 3) = false := by rw [h8]; rfl
      have e4 : (k % 8 == 4) = false := by rw [h8]; rfl
      have e5 : (k % 8 == 5) = false := by rw [h8]; rfl
      have e6 : (k % 8 == 6) = false := by rw [h8]; rfl
      by_cases h64 : k / 64 % 4 = 0
      · have b1 : (k / 64 % 4 == 0) = true := by simpa using h64
        go_wp2_with fail
        go_ret
        exact ⟨_, [], rfl, xE, SliceRep.nil _ _ _, by rfl, by simp, by unfold rngF; rw [if_neg (by rw [b0]; decide), if_neg (by rw [e0]; decide), if_neg (by rw [e1]; decide), if_neg (by rw [e2]; decide), if_neg (by rw [e3, e4]; decide), if_neg (by rw [e5]; decide), if_neg (by rw [e6]; decide), if_pos b1]⟩
      · have b1 : (k / 64 % 4 == 0) = false := by simpa using h64
        go_wp2_with fail
        have hI1 : Itv.I ⟨⟨k / 8 % 5, 1⟩, ⟨k / 8 % 5, 1⟩, false, false, false, false⟩ := by unfold Itv.I Rat2.I I64; dsimp only; omega
        have hI2 : Itv.I ⟨⟨k / 8 % 5 + (1 + k / 40 % 3), 1⟩, ⟨k / 8 % 5 + (1 + k / 40 % 3), 1⟩, false, false, false, false⟩ := by unfold Itv.I Rat2.I I64; dsimp only; omega
        have hM := (((Mem.start w noH (noH_le _)).ext (w' := (w1.alloc (.cells #[.int .i64 (k / 8 % 5), .int .i64 1] 90)).alloc (.cells #[.int .i64 (k / 8 % 5 + (1 + k / 40 % 3)), .int .i64 1] 90)) xE).new' #[.int .i64 (k / 8 % 5), .int .i64 (1), .int .i64 (k / 8 % 5), .int .i64 (1), .bool false, .bool false, .bool false, .bool false, .int .i64 (k / 8 % 5 + (1 + k / 40 % 3)), .int .i64 (1), .int .i64 (k / 8 % 5 + (1 + k / 40 % 3)), .int .i64 (1), .bool false, .bool false, .bool false, .bool false] 92 (n := w1.heap.size + 1 + 1) (by simp)).asOwn 0 rfl mono_ItvR (sz := 8) (xs := [⟨⟨k / 8 % 5, 1⟩, ⟨k / 8 % 5, 1⟩, false, false, false, false⟩, ⟨⟨k / 8 % 5 + (1 + k / 40 % 3), 1⟩, ⟨k / 8 % 5 + (1 + k / 40 % 3), 1⟩, false, false, false, false⟩]) (n := 2) (by simp) (by simp [maxLen]) rfl ⟨_, _, rfl, rfl, ⟨rfl, hI1⟩, _, [], rfl, rfl, ⟨rfl, hI2⟩, rfl⟩
        go_ret
        exact ⟨_, _, rfl, xE, hM.repUp 0 rfl, (by have h := (hall _ (bmem true) _ (bmem true)).2.2.2.2.2; simpa [hiR] using h), by simp, by unfold rngF; rw [if_neg (by rw [b0]; decide), if_neg (by rw [e0]; decide), if_neg (by rw [e1]; decide), if_neg (by rw [e2]; decide), if_neg (by rw [e3, e4]; decide), if_neg (by rw [e5]; decide), if_neg (by rw [e6]; decide), if_neg (by rw [b1]; decide)]⟩
end Go.Proofs.YtnpnjcaomakehaaGreat
