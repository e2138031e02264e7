/- A region that draws its order, all of whose operations yield fixed values in every world that meets one condition: it may be walked in the order of the text. -/
import Derived.Test.YtcmdekhhclgdcaaDoorBase
import Derived.OrdersHeld
namespace Go.Proofs.YtcmdekhhclgdcaaDoor
open Go.RowKit
set_option linter.unusedSimpArgs false
set_option linter.unusedVariables false
section
variable {P : Program} {ops : Array Oper} {Q : Exit → Act → World → Prop} {md : Region.Mode} {S : World → Prop}
/-- In state a, in every world that meets S, operation o leaves v, in a world that meets S. -/
def Gives (P : Program) (ops : Array Oper) (S : World → Prop) (o : Oper) (v : Value) (a : Act) : Prop :=
  (Region.wanted o (yielded ops a.tmps) = true ∧ ∀ w, S w →
    (∃ w', (execOp a.eval o).run P w = .ok (.value v) w' ∧ S w') ∨
    (∃ f args w1, (execOp a.eval o).run P w = .ok (.enter f args) w1 ∧ Calls P f args w1 (fun e w' => e = .returned v ∧ S w')) ∨
    (∃ w', (execOp a.eval o).run P w = .ok .skip w' ∧ v = undef ∧ S w') ∨
    (∃ row args w1, (execOp a.eval o).run P w = .ok (.row row args) w1 ∧ Rows P row args w1 (fun u w' => u = v ∧ S w'))) ∨
  (Region.wanted o (yielded ops a.tmps) = false ∧ v = undef)
theorem Gives.of_same {o : Oper} {v : Value} {a a' : Act} (hy : Gives P ops S o v a) (he : execOp a'.eval o = execOp a.eval o)
    (hw : Region.wanted o (yielded ops a'.tmps) = Region.wanted o (yielded ops a.tmps)) : Gives P ops S o v a' := by
  unfold Gives at *; rw [he, hw]; exact hy
theorem Gives.wpOp {i : Nat} {o : Oper} {v : Value} {a : Act} (hi : ops[i]? = some o) (hy : Gives P ops S o v a)
    {K : Act → World → Prop} {w : World} (hS : S w) (h : ∀ w', S w' → K (a.put o.dst v) w') : wpOp P ops Q i K a w := by
  unfold Go.wpOp
  simp only [hi]
  rcases hy with ⟨hw, hv⟩ | ⟨hw, rfl⟩
  · simp only [hw, if_true, Oper.wp]
    refine .inl ?_
    rcases hv w hS with ⟨w', hr, hS'⟩ | ⟨f, args, w1, hr, hc⟩ | ⟨w', hr, rfl, hS'⟩ | ⟨row, args, w1, hr, hc⟩
    · rw [hr]; exact h w' hS'
    · rw [hr]
      refine Calls.mono hc ?_
      rintro e w' ⟨rfl, hS'⟩
      exact h w' hS'
    · rw [hr]; exact h w' hS'
    · rw [hr]
      refine Rows.mono hc ?_
      rintro u w' ⟨rfl, hS'⟩
      exact h w' hS'
  · simp only [hw, Bool.false_eq_true, if_false]; exact h w hS
/-- whatever order is picked, each operation gives a fixed value -/
def anyF (P : Program) (md : Region.Mode) (ops : Array Oper) (S : World → Prop) (K : Act → Prop) : Nat → Array Bool → Act → Prop
  | 0, listed, a => Region.ready md ops listed = [] ∧ K a
  | fuel + 1, listed, a => (Region.ready md ops listed = [] → K a) ∧
    ∀ i ∈ Region.ready md ops listed, ∃ o v, ops[i]? = some o ∧ Gives P ops S o v a ∧ anyF P md ops S K fuel (listed.setIfInBounds i true) (a.put o.dst v)
theorem anyF_wpAny {K : Act → Prop} (hK : ∀ a w, K a → S w → Q .normal a w) : ∀ (fuel : Nat) (listed : Array Bool) (a : Act) (w : World), anyF P md ops S K fuel listed a → S w → wpAny P md ops Q fuel listed a w
  | 0, _, _, _, h, hS => ⟨h.1, hK _ _ h.2 hS⟩
  | fuel + 1, _, _, _, h, hS => ⟨fun h0 => hK _ _ (h.1 h0) hS, fun i hi => by
      obtain ⟨o, v, ho, hg, hr⟩ := h.2 i hi
      exact hg.wpOp ho hS fun w' hS' => anyF_wpAny hK fuel _ _ _ hr hS'⟩
theorem anyF_first {K : Act → Prop} {i : Nat} {oi : Oper} {v : Value} (hi : ops[i]? = some oi) (hsel : ∀ (j : Nat) (o : Oper) cs b, ops[j]? = some o → o.op ≠ .select cs b) :
    ∀ (fuel : Nat) (listed : Array Bool) (a : Act),
      (∀ j oj, ops[j]? = some oj → j ≠ i → listed.getD j true = false → (∀ e ∈ oj.after, Region.binds md e = true → e.on ≠ i) → oi.apart ops oj = true) →
      i ∈ Region.ready md ops listed → Gives P ops S oi v a →
      anyF P md ops S K fuel (listed.setIfInBounds i true) (a.put oi.dst v) → anyF P md ops S K (fuel + 1) listed a := by
  intro fuel
  induction fuel with
  | zero =>
    intro listed a _ hr hy H
    refine ⟨fun h => (by rw [h] at hr; cases hr), fun j hj => ?_⟩
    by_cases hji : j = i
    · subst hji; exact ⟨oi, v, hi, hy, H⟩
    · have := ready_mono hj hji
      rw [H.1] at this
      cases this
  | succ fuel ih =>
    intro listed a hfree hr hy H
    refine ⟨fun h => (by rw [h] at hr; cases hr), fun j hj => ?_⟩
    by_cases hji : j = i
    · subst hji; exact ⟨oi, v, hi, hy, H⟩
    · obtain ⟨oj', vj, hoj', hgj, hrest⟩ := H.2 j (ready_mono hj hji)
      obtain ⟨hjun, oj, hoj, hall⟩ := mem_ready.1 hj
      obtain rfl : oj' = oj := by rw [hoj] at hoj'; exact (Option.some.inj hoj').symm
      have hnot : ∀ e ∈ oj'.after, Region.binds md e = true → e.on ≠ i := fun e he hb heq => by
        have h1 := hall e he hb
        have h0 := (mem_ready.1 hr).1
        rw [heq] at h1
        rcases Nat.lt_or_ge i listed.size with h' | h'
        · simp [h'] at h0 h1; rw [h0] at h1; cases h1
        · simp [Array.getElem?_eq_none h'] at h1
      obtain ⟨h1, h2, h3⟩ := Oper.apart_spec (hfree j oj' hoj hji hjun hnot)
      have hsi := fun cs b => hsel i oi cs b hi
      have hsj := fun cs b => hsel j oj' cs b hoj
      have hgj' : Gives P ops S oj' vj a := hgj.of_same (execOp_put oj' hsj a oi.dst v h1).symm (wanted_put oj' a oi.dst v h1).symm
      have hyi' : Gives P ops S oi v (a.put oj'.dst vj) := hy.of_same (execOp_put oi hsi a oj'.dst vj h3) (wanted_put oi a oj'.dst vj h3)
      have hfree' : ∀ k ok, ops[k]? = some ok → k ≠ i → (listed.setIfInBounds j true).getD k true = false →
          (∀ e ∈ ok.after, Region.binds md e = true → e.on ≠ i) → oi.apart ops ok = true := fun k ok hk hki hun hno => by
        refine hfree k ok hk hki ?_ hno
        by_cases hjk : j = k
        · subst hjk; exact hjun
        · rw [getD_set_ne true hjk] at hun; exact hun
      refine ⟨oj', vj, hoj, hgj', ih (listed.setIfInBounds j true) _ hfree' (ready_mono hr (Ne.symm hji)) hyi' ?_⟩
      rw [Array.setIfInBounds_comm _ _ hji, ← Act.put_comm a v vj h2]
      exact hrest
/-- the walk in the order of the text -/
def walkF (P : Program) (ops : Array Oper) (S : World → Prop) (K : Act → Prop) : List Oper → Act → Prop
  | [], a => K a
  | o :: rest, a => ∃ v, Gives P ops S o v a ∧ walkF P ops S K rest (a.put o.dst v)
/-- operation i may come up once those before it have, and those behind it wait for it or are apart from it -/
def calmAt (md : Region.Mode) (ops : Array Oper) (i : Nat) : Bool :=
  match ops[i]? with
  | none => false
  | some oi => oi.after.all (fun e => !Region.binds md e || decide (e.on < i)) &&
    (List.range ops.size).all fun j => decide (j ≤ i) || match ops[j]? with
      | some oj => oj.after.any (fun e => Region.binds md e && e.on == i) || oi.apart ops oj
      | none => true
def calm (md : Region.Mode) (ops : Array Oper) : Bool := Region.noSelect ops && (List.range ops.size).all (calmAt md ops)
theorem anyF_of_walk {K : Act → Prop} (hc : calm md ops = true) : ∀ (n i : Nat) (listed : Array Bool) (a : Act), n + i = ops.size → listed.size = ops.size →
    (∀ j, j < ops.size → listed[j]? = some (decide (j < i))) → walkF P ops S K (ops.toList.drop i) a → anyF P md ops S K n listed a := by
  simp only [calm, Bool.and_eq_true, List.all_eq_true, List.mem_range] at hc
  obtain ⟨hsel, hcalm⟩ := hc
  intro n
  induction n with
  | zero =>
    intro i listed a hn hls hl hw
    rw [List.drop_of_length_le (by simp; omega)] at hw
    refine ⟨?_, hw⟩
    unfold Region.ready
    rw [List.filter_eq_nil_iff]
    intro j hj
    have hj' := List.mem_range.1 hj
    have := hl j hj'
    simp [Array.getD_eq_getD_getElem?, this]; omega
  | succ n ih =>
    intro i listed a hn hls hl hw
    have hi : i < ops.size := by omega
    rw [List.drop_eq_getElem_cons (by simpa using hi)] at hw
    obtain ⟨v, hg, hw⟩ := hw
    have hoi : ops[i]? = some ops[i] := by simp [hi]
    have hci := hcalm i hi
    simp only [calmAt, hoi, Bool.and_eq_true, List.all_eq_true, List.mem_range] at hci
    obtain ⟨hc1, hc2⟩ := hci
    have hg' : Gives P ops S ops[i] v a := by simpa using hg
    refine anyF_first hoi (Region.noSelect_spec hsel) n listed a ?_ ?_ hg' (ih (i + 1) _ _ (by omega) (by simpa using hls) ?_ (by simpa using hw))
    · intro j oj hj hji hun hno
      have hjs : j < ops.size := (Array.getElem?_eq_some_iff.1 hj).1
      have h1 := hl j hjs
      have hlt : ¬ j < i := by
        intro h; simp [Array.getD_eq_getD_getElem?, h1, h] at hun
      have h2 := hc2 j hjs
      simp only [hj, Bool.or_eq_true, decide_eq_true_eq] at h2
      rcases h2 with h2 | h2 | h2
      · omega
      · obtain ⟨e, he, hb⟩ := Array.any_eq_true'.1 h2
        simp only [Bool.and_eq_true, beq_iff_eq] at hb
        exact absurd hb.2 (hno e he hb.1)
      · exact h2
    · rw [mem_ready]
      refine ⟨by simp [Array.getD_eq_getD_getElem?, hl i hi], _, hoi, fun e he hb => ?_⟩
      have := Array.all_eq_true_iff_forall_mem.1 hc1 e he
      simp only [hb, Bool.not_true, Bool.false_or, decide_eq_true_eq] at this
      simp [Array.getD_eq_getD_getElem?, hl e.on (by omega), this]
    · intro j hj
      by_cases hji : i = j
      · subst hji; simp [hls, hi]
      · rw [Array.getElem?_setIfInBounds_ne hji, hl j hj]
        congr 1
        simp only [decide_eq_decide]; omega
theorem wp_region_calm {id : Nat} {a : Act} {w : World} (hm : P.follows .mixedOrders = true) (hc : calm .any ops = true) (hS : S w.drew)
    (h : walkF P ops S (fun a => ∀ w, S w → Q .normal a w) ops.toList a) : (Code.region id ops true).wp P Q a w :=
  wp_region_any hm (anyF_wpAny (K := fun a => ∀ w, S w → Q .normal a w) (fun a w hK hS => hK w hS) _ _ _ _ (anyF_of_walk hc ops.size 0 _ a (by omega) (by simp) (by intro j hj; simp [hj]) (by simpa using h)) hS)
theorem put_inj {A : Act} {d : Tmp} {u v : Value} (hd : d < A.tmps.size) (h : A.put (some d) u = A.put (some d) v) : u = v := by
  have h1 := congrArg (fun x : Act => x.tmps[d]?) h
  simpa [Act.put, hd] using h1
/-- A agrees with a at some operands -/
def agrees (A a : Act) : List Operand → Prop
  | [] => True
  | x :: xs => A.eval x = a.eval x ∧ agrees A a xs
theorem agrees_all {A a : Act} (h : ∀ x, A.eval x = a.eval x) : ∀ l, agrees A a l
  | [] => trivial
  | x :: xs => ⟨h x, agrees_all h xs⟩
theorem walkF_nil {K : Act → Prop} {a : Act} (h : K a) : walkF P ops S K [] a := h
theorem walkF_skip {K : Act → Prop} {o : Oper} {rest : List Oper} {a : Act} (hw : Region.wanted o (yielded ops a.tmps) = false) (h : walkF P ops S K rest (a.put o.dst undef)) : walkF P ops S K (o :: rest) a :=
  ⟨undef, .inr ⟨hw, rfl⟩, h⟩
theorem walkF_step {K : Act → Prop} {o : Oper} {rest : List Oper} {a : Act} {d : Tmp} {v : Value} (hd : o.dst = some d) (hw : Region.wanted o (yielded ops a.tmps) = true)
    (hv : ∀ w, S w → ∀ A : Act, agrees A a o.op.operands.toList → ∀ K' : Act → World → Prop, (∀ w', S w' → K' (A.put (some d) v) w') → o.wp P A w K' (fun _ _ _ => False))
    (h : walkF P ops S K rest (a.put (some d) v)) : walkF P ops S K (o :: rest) a := by
  obtain ⟨dst, op, type, pos, after, guard⟩ := o
  simp only at hd
  subst hd
  refine ⟨v, .inl ⟨hw, fun w hS => ?_⟩, h⟩
  let A : Act := ⟨a.tmps ++ Array.replicate (d + 1) undef, a.defers⟩
  have hA : ∀ x, A.eval x = a.eval x := by
    intro x
    cases x with
    | tmp t =>
      simp only [Act.eval, A, Array.getD_eq_getD_getElem?]
      by_cases ht : t < a.tmps.size
      · rw [Array.getElem?_append_left ht]
      · rw [Array.getElem?_append_right (Nat.le_of_not_lt ht), Array.getElem?_eq_none (Nat.le_of_not_lt ht)]
        rw [Array.getElem?_replicate]
        split <;> rfl
    | _ => rfl
  have hAe : A.eval = a.eval := funext hA
  have hsz : d < A.tmps.size := by
    simp only [A, Array.size_append, Array.size_replicate]
    exact Nat.lt_of_lt_of_le (Nat.lt_succ_self d) (Nat.le_add_left _ _)
  have h1 := hv w hS A (agrees_all hA _) (fun x w' => x = A.put (some d) v ∧ S w') (fun w' hS' => ⟨rfl, hS'⟩)
  unfold Oper.wp at h1
  rw [hAe] at h1
  generalize (execOp a.eval ⟨some d, op, type, pos, after, guard⟩).run P w = r at *
  cases r with
  | ok n w' =>
    cases n <;> simp only [Oper.upon] at h1
    case value u => exact .inl ⟨w', by rw [put_inj hsz h1.1], h1.2⟩
    case skip => exact .inr (.inr (.inl ⟨w', rfl, (put_inj hsz h1.1).symm, h1.2⟩))
    case defer dd =>
      have h2 := congrArg Act.defers h1.1
      have h3 := congrArg List.length h2
      simp [Act.put] at h3
    case enter f args =>
      refine .inr (.inl ⟨f, args, w', rfl, Calls.mono h1 fun e w'' he => ?_⟩)
      cases e with
      | returned u => exact ⟨by rw [put_inj hsz he.1], he.2⟩
      | panicked c => exact he.elim
      | outgrown => obtain ⟨_, _, hf⟩ := he; exact hf.elim
    case row row args => exact .inr (.inr (.inr ⟨row, args, w', rfl, Rows.mono h1 fun u w'' he => ⟨put_inj hsz he.1, he.2⟩⟩))
  | halt x w' => cases x <;> simp only [Oper.upon] at h1
end
end Go.Proofs.YtcmdekhhclgdcaaDoor
