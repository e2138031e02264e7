/- acts: their values. -/
import Derived.Laws.Rows
import Derived.Test.YtcmdekhhclgdcaaDoorCalV
namespace Go.Proofs.YtcmdekhhclgdcaaDoor
open Go.RowKit Go.Shelf
set_option linter.unusedSimpArgs false
set_option linter.unusedVariables false
structure Ac where
  kind : Int
  day : Int
  known : Int
  file : Int
  office : Int
  party : Int
  other : Int
  number : Int
  amount : Int
def Ac.I (a : Ac) : Prop := I64 a.kind ∧ I64 a.day ∧ I64 a.known ∧ I64 a.file ∧ I64 a.office ∧ I64 a.party ∧ I64 a.other ∧ I64 a.number ∧ I64 a.amount
def actC (a : Ac) : List Value := [.int .i64 a.kind, .int .i64 a.day, .int .i64 a.known, .int .i64 a.file, .int .i64 a.office, .int .i64 a.party, .int .i64 a.other, .int .i64 a.number, .int .i64 a.amount, .int .i64 0, .int .i64 0, .slice none 0 0, .slice none 0 0, .slice none 0 0, .slice none 0 0, .int .i64 0, .int .i64 0, .slice none 0 0, .slice none 0 0]
def actA (a : Ac) : Value := .agg (actC a).toArray
def ActR (_ : PH) (cs : List Value) (a : Ac) : Prop := cs = actC a ∧ a.I
theorem mono_ActR : Mono ActR := fun _ _ _ _ _ h => h
abbrev ActsR : PH → Value → List Ac → Prop := SliceRep ActR 19
theorem infoAct : (Tryd.prog.info? 63).map (fun i => (i.zero, i.size, i.bytes)) = some (some (.agg #[.int .i64 0, .int .i64 0, .int .i64 0, .int .i64 0, .int .i64 0, .int .i64 0, .int .i64 0, .int .i64 0, .int .i64 0, .int .i64 0, .int .i64 0, .slice none 0 0, .slice none 0 0, .slice none 0 0, .slice none 0 0, .int .i64 0, .int .i64 0, .slice none 0 0, .slice none 0 0]), 19, 248) := by kernel_rfl
theorem one_ActR {h : PH} : ∀ cs x, ActR h cs x → ∀ u ∈ cs, u.oneCell' = true := by
  rintro cs x ⟨rfl, -⟩ u hu
  simp only [actC, List.mem_cons, List.not_mem_nil, or_false] at hu
  rcases hu with rfl | rfl | rfl | rfl | rfl | rfl | rfl | rfl | rfl | rfl | rfl | rfl | rfl | rfl | rfl | rfl | rfl | rfl | rfl <;> rfl
theorem ActsR.at {w : World} {a : Option Addr} {n cap : Nat} {xs : List Ac} (hr : ActsR (ph w) (.slice a n cap) xs) (k : Nat) (hk : k < xs.length) :
    ∃ b o, a = some ⟨b, o, none⟩ ∧ w.cell? ⟨b, o + k * 19, none⟩ = some (.int .i64 xs[k].kind) ∧ w.cell? ⟨b, o + k * 19 + 1, none⟩ = some (.int .i64 xs[k].day) ∧ w.cell? ⟨b, o + k * 19 + 2, none⟩ = some (.int .i64 xs[k].known) ∧ w.cell? ⟨b, o + k * 19 + 3, none⟩ = some (.int .i64 xs[k].file) ∧ w.cell? ⟨b, o + k * 19 + 4, none⟩ = some (.int .i64 xs[k].office) ∧ w.cell? ⟨b, o + k * 19 + 5, none⟩ = some (.int .i64 xs[k].party) ∧ w.cell? ⟨b, o + k * 19 + 6, none⟩ = some (.int .i64 xs[k].other) ∧ w.cell? ⟨b, o + k * 19 + 7, none⟩ = some (.int .i64 xs[k].number) ∧ w.cell? ⟨b, o + k * 19 + 8, none⟩ = some (.int .i64 xs[k].amount) ∧ w.cell? ⟨b, o + k * 19 + 9, none⟩ = some (.int .i64 0) ∧ w.cell? ⟨b, o + k * 19 + 10, none⟩ = some (.int .i64 0) ∧ w.cell? ⟨b, o + k * 19 + 11, none⟩ = some (.slice none 0 0) ∧ w.cell? ⟨b, o + k * 19 + 12, none⟩ = some (.slice none 0 0) ∧ w.cell? ⟨b, o + k * 19 + 13, none⟩ = some (.slice none 0 0) ∧ w.cell? ⟨b, o + k * 19 + 14, none⟩ = some (.slice none 0 0) ∧ w.cell? ⟨b, o + k * 19 + 15, none⟩ = some (.int .i64 0) ∧ w.cell? ⟨b, o + k * 19 + 16, none⟩ = some (.int .i64 0) ∧ w.cell? ⟨b, o + k * 19 + 17, none⟩ = some (.slice none 0 0) ∧ w.cell? ⟨b, o + k * 19 + 18, none⟩ = some (.slice none 0 0) ∧ b < w.heap.size ∧ xs[k].I := by
  obtain ⟨b, o, cs, h1, h2, h3, rfl, h5⟩ := hr.get k hk
  have h : ∀ j, j < 19 → w.cell? ⟨b, o + k * 19 + j, none⟩ = some ((actC xs[k]).getD j undef) := fun j hj => by rw [cell_ph]; exact h3 j hj
  exact ⟨b, o, h1, h 0 (by omega), h 1 (by omega), h 2 (by omega), h 3 (by omega), h 4 (by omega), h 5 (by omega), h 6 (by omega), h 7 (by omega), h 8 (by omega), h 9 (by omega), h 10 (by omega), h 11 (by omega), h 12 (by omega), h 13 (by omega), h 14 (by omega), h 15 (by omega), h 16 (by omega), h 17 (by omega), h 18 (by omega), cell_lt (h 0 (by omega)), h5⟩
theorem actC_len (a : Ac) : (actC a).length = 19 := rfl
theorem ActsR.row {w : World} {a : Option Addr} {n cap : Nat} {xs : List Ac} (hr : ActsR (ph w) (.slice a n cap) xs) (k : Nat) (hk : k < xs.length) :
    ∃ b o, a = some ⟨b, o, none⟩ ∧ (∀ j u, (actC xs[k])[j]? = some u → w.cell? ⟨b, o + k * 19 + j, none⟩ = some u) ∧ b < w.heap.size ∧ xs[k].I := by
  obtain ⟨b, o, cs, h1, h2, h3, rfl, h5⟩ := hr.get k hk
  have h : ∀ j u, (actC xs[k])[j]? = some u → w.cell? ⟨b, o + k * 19 + j, none⟩ = some u := fun j u hu => by
    obtain ⟨hj, he⟩ := List.getElem?_eq_some_iff.1 hu
    rw [cell_ph, h3 j (by rw [actC_len] at hj; exact hj), ← he]
    simp [List.getD_eq_getElem?_getD, hj]
  exact ⟨b, o, h1, h, cell_lt (h 0 _ rfl), h5⟩
theorem addo' (b o j : Nat) : (⟨b, o, none⟩ : Addr).add j = ⟨b, o + j, none⟩ := addo b o j
/-- a row read out of the middle of a block -/
theorem wpList_load_mid {P : Program} {ops : Array Oper} {rest : List Oper} {o : Oper} {a : Act} {w : World} {Q : Exit → Act → World → Prop} (hgd : o.guard = none) (ty : TypeId) (x : Operand) (ho : o.op = .load ty x)
    (b m : Nat) (hx : a.eval x = .pointer (some ⟨b, m, none⟩)) (cs : List Value) (d : TypeDesc) (hc : ∀ j u, cs[j]? = some u → w.cell? ⟨b, m + j, none⟩ = some u)
    (hu : P.underlying ty = some d) (hd : (match d with | .struct _ | .array _ _ => true | _ => false) = true) (hi : (P.info? ty).map (·.size) = some cs.length)
    (h : wpList P ops Q rest (a.put o.dst (.agg cs.toArray)) w) : wpList P ops Q (o :: rest) a w := by
  refine wpList_plain hgd fun _ hK => ?_
  have hl : (loadCells ⟨b, m, none⟩ cs.length).run P w = .ok cs.toArray w :=
    run_loadCells_list (P := P) w ⟨b, m, none⟩ cs (fun j v hv => by rw [addo]; exact hc j v hv)
  have hv : (loadVar ty ⟨b, m, none⟩).run P w = .ok (.agg cs.toArray) w := by
    cases hq : P.info? ty with
    | none => simp [hq] at hi
    | some i =>
      have hs : i.size = cs.length := by simpa [hq] using hi
      have hagg : (isAgg ty).run P w = .ok true w := by
        unfold isAgg
        rw [Sem.run_bind, run_underlying hu w]
        cases d <;> simp_all
      simp [loadVar, Sem.run_bind, hagg, sizeOf, typeInfo, hq, hs, hl]
  unfold Oper.wp execOp
  simp only [ho, hx, Instr.loadAt, Instr.sureAddr, Sem.run_bind, Sem.run_pure, Result.andThen_ok, hv]
  exact hK _ _ h
theorem setRow_alloc (w : World) (c c' : Array Value) (T : TypeId) : (w.alloc (.cells c T)).setRow w.heap.size c' = w.alloc (.cells c' T) := by
  have h : (w.heap.push (Obj.cells c T)).modify w.heap.size (fun | .cells _ elem frozen => .cells c' elem frozen | o => o) = w.heap.push (Obj.cells c' T) := by
    apply Array.ext
    · simp
    · intro i h1 h2
      rw [Array.getElem_modify]
      by_cases e : w.heap.size = i
      · subst e; simp
      · rw [if_neg e]
        have hi : i < w.heap.size := by simp at h2; omega
        simp [Array.getElem_push, hi]
  unfold World.setRow World.alloc
  exact congrArg (fun hp => { w with heap := hp }) h
/-- a row written into the block made last -/
theorem wpList_store_new {P : Program} {ops : Array Oper} {rest : List Oper} {o : Oper} {a : Act} {w : World} {Q : Exit → Act → World → Prop} (hgd : o.guard = none) (ty : TypeId) (x y : Operand) (ho : o.op = .store ty x y)
    (cells : Array Value) (hx : a.eval x = .pointer (some ⟨w.heap.size, 0, none⟩)) (hy : a.eval y = .agg cells)
    (t : TypeId) (old : Array Value) (hi : (P.info? ty).map (·.size) = some cells.size)
    (hold : old.size = cells.size) (h1 : cells.all (·.oneCell') = true)
    (h : wpList P ops Q rest (a.put o.dst undef) (w.alloc (.cells cells t))) : wpList P ops Q (o :: rest) a (w.alloc (.cells old t)) := by
  refine wpList_store_row hgd ty x y ho w.heap.size cells hx hy t old (heap_alloc_new w _) hi hold h1 ?_
  rw [setRow_alloc]; exact h
theorem one_act (a : Ac) : (actC a).toArray.all (·.oneCell') = true := by
  refine Array.all_eq_true_iff_forall_mem.2 fun v hv => ?_
  have hv' : v ∈ actC a := by simpa using hv
  simp only [actC, List.mem_cons, List.not_mem_nil, or_false] at hv'
  rcases hv' with rfl | rfl | rfl | rfl | rfl | rfl | rfl | rfl | rfl | rfl | rfl | rfl | rfl | rfl | rfl | rfl | rfl | rfl | rfl <;> rfl
end Go.Proofs.YtcmdekhhclgdcaaDoor
