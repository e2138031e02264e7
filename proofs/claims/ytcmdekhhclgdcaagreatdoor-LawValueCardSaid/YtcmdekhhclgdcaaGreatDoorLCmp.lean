/- slices.CompactFunc at acts of the same day. -/
import Derived.Test.YtcmdekhhclgdcaaGreatDoorLClo
namespace Go.Proofs.YtcmdekhhclgdcaaGreatDoor
open Go.RowKit Go.Shelf
set_option linter.unusedSimpArgs false
set_option linter.unusedVariables false
theorem oper_load_mid {P : Program} {o : Oper} {a : Act} {w : World} {K : Act → World → Prop} {Q : Exit → Act → World → Prop} (ty : TypeId) (x : Operand) (ho : o.op = .load ty x)
    (b m : Nat) (hx : a.eval x = .pointer (some ⟨b, m, none⟩)) (cs : List Value) (d : TypeDesc) (hc : ∀ j u, cs[j]? = some u → w.cell? ⟨b, m + j, none⟩ = some u)
    (hu : P.underlying ty = some d) (hd : (match d with | .struct _ | .array _ _ => true | _ => false) = true) (hi : (P.info? ty).map (·.size) = some cs.length)
    (h : K (a.put o.dst (.agg cs.toArray)) w) : o.wp P a w K Q := by
  have hl : (loadCells ⟨b, m, none⟩ cs.length).run P w = .ok cs.toArray w :=
    run_loadCells_list (P := P) w ⟨b, m, none⟩ cs (fun j v hv => by rw [addo]; exact hc j v hv)
  have hv : (loadVar ty ⟨b, m, none⟩).run P w = .ok (.agg cs.toArray) w := by
    cases hq : P.info? ty with
    | none => simp [hq] at hi
    | some i =>
      have hs : i.size = cs.length := by simpa [hq] using hi
      have hagg : (isAgg ty).run P w = .ok true w := by
        unfold isAgg
        rw [Sem.run_bind, run_underlying hu w]
        cases d <;> simp_all
      simp [loadVar, Sem.run_bind, hagg, sizeOf, typeInfo, hq, hs, hl]
  unfold Oper.wp execOp
  simp only [ho, hx, Instr.loadAt, Instr.sureAddr, Sem.run_bind, Sem.run_pure, Result.andThen_ok, hv]
  exact h
/-- of acts of one day that stand side by side the first; d: the day ahead -/
def ddP : Option Int → List Ac → List Ac
  | _, [] => []
  | d, x :: r => if d = some x.day then ddP (some x.day) r else x :: ddP (some x.day) r
def lastD (d : Option Int) (l : List Ac) : Option Int := match l.getLast? with | some x => some x.day | none => d
theorem lastD_cons (d : Option Int) (x : Ac) (l : List Ac) : lastD d (x :: l) = lastD (some x.day) l := by
  unfold lastD
  cases l with
  | nil => rfl
  | cons y r => rw [List.getLast?_cons_cons]; cases h : (y :: r).getLast? with
    | none => simp at h
    | some z => rfl
theorem ddP_snoc (x : Ac) : ∀ (l : List Ac) (d : Option Int), ddP d (l ++ [x]) = ddP d l ++ if lastD d l = some x.day then [] else [x]
  | [], d => by
    show ddP d [x] = ddP d [] ++ _
    have e : lastD d [] = d := rfl
    rw [e]
    by_cases h : d = some x.day
    · rw [if_pos h]; show (if d = some x.day then ddP (some x.day) [] else x :: ddP (some x.day) []) = _; rw [if_pos h]; rfl
    · rw [if_neg h]; show (if d = some x.day then ddP (some x.day) [] else x :: ddP (some x.day) []) = _; rw [if_neg h]; rfl
  | y :: r, d => by
    rw [List.cons_append, ddP, ddP, lastD_cons, ddP_snoc x r]
    split
    · rfl
    · rfl
abbrev dd (l : List Ac) : List Ac := ddP none l
theorem dd_take {xs : List Ac} {j : Nat} (hj : j < xs.length) (h0 : 0 < j) : dd (xs.take (j + 1)) = dd (xs.take j) ++ if (xs[j - 1]'(by omega)).day = xs[j].day then [] else [xs[j]] := by
  show ddP none _ = ddP none _ ++ _
  rw [List.take_add_one, List.getElem?_eq_getElem hj, Option.toList_some, ddP_snoc]
  congr 1
  have : lastD none (xs.take j) = some (xs[j - 1]'(by omega)).day := by
    unfold lastD
    rw [List.getLast?_eq_getElem?, List.length_take, Nat.min_eq_left (by omega), List.getElem?_take_of_lt (by omega), List.getElem?_eq_getElem (by omega)]
  rw [this]
  simp only [Option.some.injEq]
/-- where the compaction is -/
def CmpAt (xs ys : List Ac) (i j : Nat) : Prop := ys.length = xs.length ∧ i < j ∧ j ≤ xs.length ∧ ys.take i = dd (xs.take j) ∧ ys.drop (j - 1) = xs.drop (j - 1)
theorem CmpAt.at {xs ys : List Ac} {i j : Nat} (h : CmpAt xs ys i j) (hj : j < xs.length) : ys[j]? = some (xs[j]) ∧ ys[j - 1]? = some (xs[j - 1]'(by omega)) := by
  obtain ⟨h1, h2, -, -, h6⟩ := h
  have e0 := congrArg (fun l => l[0]?) h6
  have e1 := congrArg (fun l => l[1]?) h6
  simp only [List.getElem?_drop] at e0 e1
  rw [show j - 1 + 1 = j by omega] at e1
  rw [Nat.add_zero] at e0
  exact ⟨e1.trans (List.getElem?_eq_getElem hj), e0.trans (List.getElem?_eq_getElem (by omega))⟩
theorem CmpAt.skip {xs ys : List Ac} {i j : Nat} (h : CmpAt xs ys i j) (hj : j < xs.length) (hp : (xs[j - 1]'(by omega)).day = xs[j].day) : CmpAt xs ys i (j + 1) := by
  obtain ⟨h1, h2, h3, h4, h6⟩ := h
  refine ⟨h1, by omega, by omega, ?_, ?_⟩
  · rw [dd_take hj (by omega), if_pos hp, List.append_nil]; exact h4
  · have := congrArg (List.drop 1) h6
    rw [List.drop_drop, List.drop_drop] at this
    rw [show j + 1 - 1 = j - 1 + 1 by omega]; exact this
theorem CmpAt.keep {xs ys : List Ac} {i j : Nat} (h : CmpAt xs ys i j) (hj : j < xs.length) (hp : (xs[j - 1]'(by omega)).day ≠ xs[j].day) : CmpAt xs (ys.set i xs[j]) (i + 1) (j + 1) := by
  obtain ⟨h1, h2, h3, h4, h6⟩ := h
  refine ⟨by simpa using h1, by omega, by omega, ?_, ?_⟩
  · rw [dd_take hj (by omega), if_neg hp, ← h4, List.take_add_one, List.take_set_of_le (Nat.le_refl _), List.getElem?_set_self (by omega)]; rfl
  · have := congrArg (List.drop 1) h6
    rw [List.drop_drop, List.drop_drop, show j - 1 + 1 = j by omega] at this
    rw [show j + 1 - 1 = j by omega, List.drop_set_of_lt (by omega)]; exact this
theorem CmpAt.start {xs : List Ac} {i : Nat} (h0 : 0 < i) (hi : i < xs.length) (hd : dd (xs.take i) = xs.take i) (hp : (xs[i - 1]'(by omega)).day = xs[i].day) : CmpAt xs xs i (i + 1) :=
  ⟨rfl, by omega, by omega, by rw [dd_take hi h0, if_pos hp, List.append_nil, hd], rfl⟩
theorem dd_go {xs : List Ac} {i : Nat} (h0 : 0 < i) (hi : i < xs.length) (hd : dd (xs.take i) = xs.take i) (hp : (xs[i - 1]'(by omega)).day ≠ xs[i].day) : dd (xs.take (i + 1)) = xs.take (i + 1) := by
  rw [dd_take hi h0, if_neg hp, hd, List.take_add_one, List.getElem?_eq_getElem hi]; rfl
theorem CmpAt.done {xs ys : List Ac} {i : Nat} (h : CmpAt xs ys i xs.length) : ys.take i = dd xs := by
  rw [h.2.2.2.1, List.take_length]
end Go.Proofs.YtcmdekhhclgdcaaGreatDoor
