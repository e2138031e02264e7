/- Lemmas for NI, part 6: (printed by gen_calmq.py out of CalmJ: with guards, and from a start that may lie behind) drawn regions by a s, and more. -/
import Derived.Test.YtabajghokhfmhaaGreatNI00
import Derived.Test.YtabajghokhfmhaaGreatNI01
import Derived.Test.YtabajghokhfmhaaGreatNI02
import Derived.Test.YtabajghokhfmhaaGreatNI04
set_option linter.unusedSimpArgs false
set_option linter.unusedVariables false
namespace Go.Proofs.YtabajghokhfmhaaGreat.Qj
open Go.RowKit
abbrev Prop1 := Value → World → Prop
abbrev Env := List (Tmp × Prop1)
def Stable (R : Prop1) : Prop := ∀ v w w', R v w → R v w'
abbrev St := Tmp → Value
abbrev Inv := (Nat → Bool) → St → World → Prop
def sl (A : Act) : St := fun t => A.tmps.getD t undef
def upd (dn : Nat → Bool) (i : Nat) : Nat → Bool := fun j => decide (j = i) || dn j
def sput (s : St) (d : Tmp) (v : Value) : St := fun t => if t = d then v else s t
def sputO (s : St) : Option Tmp → Value → St
  | some d, v => sput s d v
  | none, _ => s
abbrev Any : Prop1 := fun _ _ => True
def Dst (n : Nat) (o : Option Tmp) (d : Tmp) (R : Prop1) : Prop := o = some d ∧ d < n ∨ o = none ∧ n ≤ d ∧ R = Any
def knows (A a : Act) (w : World) (E : Env) : List Operand → Prop
  | [] => True
  | x :: xs => (match x with
      | .tmp t => (match E.lookup t with
        | some R => R (A.eval x) w
        | none => A.eval x = a.eval x)
      | _ => A.eval x = a.eval x) ∧ knows A a w E xs
def afters (ops : Array Oper) (i : Nat) : List Nat := match ops[i]? with
  | some o => (o.after.toList.filter (Region.binds .any)).map (·.on)
  | none => []
def RunsI (P : Program) (ops : Array Oper) (J : Inv) (W : World) (a : Act) (i : Nat) (E : Env) (o : Oper) (d : Tmp) (R : Prop1) : Prop :=
  ∀ A w dn, Ext W w → J dn (sl A) w → dn i = false → (∀ j ∈ afters ops i, dn j = true) → knows A a w E o.op.operands.toList → ∀ K : Act → World → Prop, (∀ v w', Ext W w' → R v w' → J (upd dn i) (sputO (sl A) o.dst v) w' → K (A.put o.dst v) w') → o.wp P A w K (fun _ _ _ => False)
def doesI (P : Program) (ops : Array Oper) (J : Inv) (W : World) (a : Act) (i : Nat) (E : Env) (o : Oper) (d : Tmp) (R : Prop1) : Prop := (o.guard = none ∧ RunsI P ops J W a i E o d R) ∨
  ∃ g b tg Rg, o.guard = some (g, b) ∧ (ops[g]?).bind (·.dst) = some tg ∧ E.lookup tg = some Rg ∧
    ((∀ v w, Rg v w → v = .bool b) ∧ RunsI P ops J W a i E o d R ∨ (∀ v w, Rg v w → v ≠ .bool b) ∧ (∀ w, R undef w) ∧ ∀ dn s w, J dn s w → J (upd dn i) (sputO s o.dst undef) w)
def fins (K : Act → World → Prop) (w : World) : Env → Act → Prop
  | [], a => K a w
  | (d, R) :: rest, a => ∀ v, R v w → fins K w rest (a.put (some d) v)
def walkI (P : Program) (ops : Array Oper) (J : Inv) (W : World) (a : Act) (K : Act → World → Prop) : List Oper → Env → Prop
  | [], E => ∀ w, Ext W w → fins K w E a
  | o :: rest, E => ∃ d R, Dst a.tmps.size o.dst d R ∧ Stable R ∧ doesI P ops J W a E.length E o d R ∧ walkI P ops J W a K rest (E ++ [(d, R)])
def need (ops : Array Oper) : Nat → Nat → Nat → Bool
  | 0, _, _ => false
  | f + 1, i, j => (afters ops i).any fun k => k == j || need ops f k j
def okPre (ops : Array Oper) (m i : Nat) : Bool := match ops[i]? with
  | some oi => (match oi.dst with
      | some d => (List.range m).all fun j => j == i || (ops[j]?).bind (·.dst) != some d
      | none => true) &&
    (oi.looksAt ops).all fun t => (List.range m).all fun j => (ops[j]?).bind (·.dst) != some t || (afters ops i).contains j
  | none => false
def okI (ops : Array Oper) (m : Nat) : Bool :=
  decide (m ≤ ops.size) && Region.noSelect ops && (List.range ops.size).all (fun i => (afters ops i).all fun j => decide (j < i)) &&
  (List.range m).all (okPre ops m) && (List.range ops.size).all (fun i => decide (i < m) || (List.range i).all fun j => need ops i i j)
section
variable {P : Program} {ops : Array Oper} {Q : Exit → Act → World → Prop}
structure StepI (P : Program) (ops : Array Oper) (J : Inv) (W : World) (a : Act) (E : Env) (i : Nat) (d : Tmp) (R : Prop1) : Prop where
  st : Stable R
  go : ∃ o, ops[i]? = some o ∧ Dst a.tmps.size o.dst d R ∧ doesI P ops J W a i (E.take i) o d R
theorem walkI_env {J : Inv} {W : World} {a : Act} {K : Act → World → Prop} : ∀ (l : List Oper) (E0 : Env), (∀ j o, l[j]? = some o → ops[E0.length + j]? = some o) → walkI P ops J W a K l E0 →
    ∃ E : Env, E.length = l.length ∧ (∀ i d R, E[i]? = some (d, R) → StepI P ops J W a (E0 ++ E) (E0.length + i) d R) ∧ ∀ w, Ext W w → fins K w (E0 ++ E) a := by
  intro l
  induction l with
  | nil => intro E0 _ h; exact ⟨[], rfl, by simp, by simpa [walkI] using h⟩
  | cons o rest ih =>
    intro E0 hl h
    obtain ⟨d, R, h1, h3, h4, h5⟩ := h
    obtain ⟨E, e1, e2, e3⟩ := ih (E0 ++ [(d, R)]) (fun j o' hj => by
      have := hl (j + 1) o' (by simpa using hj)
      rw [← this]; congr 1; simp; omega) h5
    refine ⟨(d, R) :: E, by simp [e1], fun i d' R' hi => ?_, by simpa using e3⟩
    cases i with
    | zero =>
      simp only [List.getElem?_cons_zero, Option.some.injEq, Prod.mk.injEq] at hi
      obtain ⟨rfl, rfl⟩ := hi
      refine ⟨h3, o, hl 0 o rfl, h1, ?_⟩
      have : (E0 ++ (d, R) :: E).take (E0.length + 0) = E0 := by simp
      rw [this, Nat.add_zero]; exact h4
    | succ i =>
      have := e2 i d' R' (by simpa using hi)
      rw [List.append_assoc, List.singleton_append] at this
      have e : (E0 ++ [(d, R)]).length + i = E0.length + (i + 1) := by simp; omega
      rwa [e] at this
structure InvI (ops : Array Oper) (J : Inv) (m : Nat) (E : Env) (W : World) (a : Act) (listed : Array Bool) (A : Act) (w : World) : Prop where
  size : listed.size = ops.size
  clo : ∀ i, listed.getD i false = true → ∀ j ∈ afters ops i, listed.getD j false = true
  post : ∀ i, m ≤ i → listed.getD i false = false
  ext : Ext W w
  defs : A.defers = a.defers
  tsz : A.tmps.size = a.tmps.size
  same : ∀ t, (∀ i, i < m → listed.getD i false = true → (ops[i]?).bind (·.dst) ≠ some t) → A.tmps[t]? = a.tmps[t]?
  has : ∀ i d R, listed.getD i false = true → E[i]? = some (d, R) → R (A.tmps.getD d undef) w
  jj : J (fun j => listed.getD j false) (sl A) w
theorem need_listed {listed : Array Bool} (hc : ∀ i, listed.getD i false = true → ∀ j ∈ afters ops i, listed.getD j false = true) : ∀ (f i j : Nat), need ops f i j = true → (∀ k ∈ afters ops i, listed.getD k false = true) → listed.getD j false = true := by
  intro f
  induction f with
  | zero => intro i j h; simp [need] at h
  | succ f ih =>
    intro i j h hi
    simp only [need, List.any_eq_true, Bool.or_eq_true, beq_iff_eq] at h
    obtain ⟨k, hk, rfl | h⟩ := h
    · exact hi _ hk
    · exact ih k j h (hc k (hi k hk))
theorem mem_afters {i j : Nat} : j ∈ afters ops i ↔ ∃ o, ops[i]? = some o ∧ ∃ e ∈ o.after, Region.binds .any e = true ∧ e.on = j := by
  unfold afters
  cases h : ops[i]? with
  | none => simp
  | some o =>
    simp only [List.mem_map, List.mem_filter, Array.mem_toList_iff, Option.some.injEq]
    constructor
    · rintro ⟨e, ⟨h1, h2⟩, h3⟩; exact ⟨o, rfl, e, h1, h2, h3⟩
    · rintro ⟨_, rfl, e, h1, h2, h3⟩; exact ⟨e, ⟨h1, h2⟩, h3⟩
theorem ready_afters {i : Nat} {listed : Array Bool} : i ∈ Region.ready .any ops listed ↔ listed.getD i true = false ∧ (∃ o, ops[i]? = some o) ∧ ∀ j ∈ afters ops i, listed.getD j false = true := by
  rw [mem_ready]
  constructor
  · rintro ⟨h1, o, h2, h3⟩
    refine ⟨h1, ⟨o, h2⟩, fun j hj => ?_⟩
    obtain ⟨o', h4, e, h5, h6, rfl⟩ := mem_afters.1 hj
    rw [h2] at h4; cases h4
    exact h3 e h5 h6
  · rintro ⟨h1, ⟨o, h2⟩, h3⟩
    exact ⟨h1, o, h2, fun e he hb => h3 _ (mem_afters.2 ⟨o, h2, e, he, hb, rfl⟩)⟩
theorem getD_tf {listed : Array Bool} {i : Nat} (h : i < listed.size) : listed.getD i true = listed.getD i false := by
  simp [Array.getD_eq_getD_getElem?, h]
theorem env_get {E : Env} {i : Nat} (h : i < E.length) : ∃ d R, E[i]? = some (d, R) := ⟨E[i].1, E[i].2, by rw [List.getElem?_eq_getElem h]⟩
theorem lookup_getD {E : Env} {t : Tmp} {R : Prop1} (h : E.lookup t = some R) : ∃ i : Nat, E[i]? = some (t, R) := by
  induction E with
  | nil => simp at h
  | cons x xs ih =>
    obtain ⟨d, S⟩ := x
    rw [List.lookup_cons] at h
    cases hb : t == d with
    | true =>
      simp only [hb] at h
      cases h
      exact ⟨0, by simp [eq_of_beq hb]⟩
    | false =>
      simp only [hb] at h
      obtain ⟨i, hi⟩ := ih h
      exact ⟨i + 1, by simpa using hi⟩
theorem lookup_none {E : Env} {t : Tmp} (h : E.lookup t = none) : ∀ (i : Nat) (d : Tmp) (R : Prop1), E[i]? = some (d, R) → d ≠ t := by
  induction E with
  | nil => simp
  | cons x xs ih =>
    obtain ⟨d, S⟩ := x
    rw [List.lookup_cons] at h
    cases hb : t == d with
    | true => simp [hb] at h
    | false =>
      simp only [hb] at h
      intro i d' R hi
      cases i with
      | zero => simp at hi; obtain ⟨rfl, -⟩ := hi; intro e; subst e; simp at hb
      | succ i => exact ih h i d' R (by simpa using hi)
theorem wp_weaken {o : Oper} {A : Act} {w : World} {K : Act → World → Prop} (h : o.wp P A w K (fun _ _ _ => False)) : o.wp P A w K Q := by
  unfold Oper.wp at *
  generalize (execOp A.eval o).run P w = r at *
  cases r with
  | ok n w' =>
    cases n <;> simp only [Oper.upon] at h ⊢
    case enter f args =>
      refine Calls.mono h fun e w'' he => ?_
      cases e with
      | returned u => exact he
      | panicked c => exact he.elim
      | outgrown => obtain ⟨_, _, hf⟩ := he; exact hf.elim
    all_goals exact h
  | halt x w' => cases x <;> simp only [Oper.upon] at h
theorem wpAny_tail {m : Nat} (hlt : ∀ i j, j ∈ afters ops i → j < i) (hpost : ∀ i, m ≤ i → i < ops.size → ∀ j, j < i → need ops i i j = true) : ∀ (n i : Nat) (listed : Array Bool) (A : Act) (w : World), n + i = ops.size → m ≤ i → listed.size = ops.size →
    (∀ j, j < ops.size → listed.getD j false = decide (j < i)) → wpList P ops Q (ops.toList.drop i) A w → wpAny P .any ops Q n listed A w := by
  intro n
  induction n with
  | zero =>
    intro i listed A w hn hm hs hl h
    have hr : Region.ready .any ops listed = [] := by
      rw [List.eq_nil_iff_forall_not_mem]
      intro j hj
      obtain ⟨h1, ⟨o, h2⟩, -⟩ := ready_afters.1 hj
      have hj' : j < ops.size := (Array.getElem?_eq_some_iff.1 h2).1
      rw [getD_tf (by omega), hl j hj'] at h1
      simp at h1; omega
    rw [List.drop_of_length_le (by simp; omega)] at h
    exact ⟨hr, h⟩
  | succ n ih =>
    intro i listed A w hn hm hs hl h
    have hi : i < ops.size := by omega
    have hready : ∀ j, j ∈ Region.ready .any ops listed → j = i := by
      intro j hj
      obtain ⟨h1, ⟨o, h2⟩, h3⟩ := ready_afters.1 hj
      have hj' : j < ops.size := (Array.getElem?_eq_some_iff.1 h2).1
      rw [getD_tf (by omega), hl j hj'] at h1
      simp at h1
      rcases Nat.lt_or_ge i j with h4 | h4
      · have hcl : ∀ i', listed.getD i' false = true → ∀ j ∈ afters ops i', listed.getD j false = true := by
          intro i' hi' k hk
          have hk' := hlt i' k hk
          by_cases hb : i' < ops.size
          · rw [hl i' hb] at hi'
            rw [hl k (by omega)]
            simp at hi' ⊢; omega
          · simp [Array.getD_eq_getD_getElem?, Array.getElem?_eq_none (show listed.size ≤ i' by omega)] at hi'
        have := need_listed hcl j j i (hpost j (by omega) hj' i h4) h3
        rw [hl i hi] at this
        simp at this
      · omega
    have hii : i ∈ Region.ready .any ops listed := by
      rw [ready_afters]
      refine ⟨by rw [getD_tf (by omega), hl i hi]; simp, ⟨ops[i], by simp [hi]⟩, fun j hj => ?_⟩
      have := hlt i j hj
      rw [hl j (by omega)]; simp; exact this
    refine ⟨fun h0 => absurd hii (by rw [h0]; exact List.not_mem_nil), fun j hj => ?_⟩
    obtain rfl := hready j hj
    rw [List.drop_eq_getElem_cons (by simpa using hi)] at h
    have key : ∀ (A' : Act) (w' : World), wpList P ops Q (ops.toList.drop (j + 1)) A' w' → wpAny P .any ops Q n (listed.setIfInBounds j true) A' w' := by
      intro A' w' h'
      refine ih (j + 1) _ A' w' (by omega) (by omega) (by simpa using hs) (fun k hk => ?_) h'
      by_cases hkj : j = k
      · subst hkj; simp [Array.getD_eq_getD_getElem?, hs, hi]
      · rw [getD_set_ne _ hkj, hl k hk]
        simp only [decide_eq_decide]; omega
    unfold wpList at h
    unfold wpOp
    simp only [hi, getElem?_pos]
    simp only [Array.getElem_toList] at h
    split
    · rename_i hw
      rw [if_pos hw] at h
      exact h.imp (Oper.wp_mono key) id
    · rename_i hw
      rw [if_neg hw] at h
      exact key _ _ h
theorem fins_done {K : Act → World → Prop} {w : World} : ∀ (E : Env) (a A : Act), A.defers = a.defers → A.tmps.size = a.tmps.size → (∀ (i : Nat) (d : Tmp) (R : Prop1), E[i]? = some (d, R) → (d < a.tmps.size ∧ R (A.tmps.getD d undef) w) ∨ (a.tmps.size ≤ d ∧ R = Any)) → (∀ t, (∀ (i : Nat) (d : Tmp) (R : Prop1), E[i]? = some (d, R) → d ≠ t) → A.tmps[t]? = a.tmps[t]?) → fins K w E a → K A w := by
  intro E
  induction E with
  | nil =>
    intro a A hd hs _ ht h
    have : A = a := by
      cases A; cases a
      simp only at hd hs ht
      subst hd
      congr 1
      refine Array.ext_getElem? fun i => ht i (by simp)
    subst this; exact h
  | cons x xs ih =>
    obtain ⟨d, R⟩ := x
    intro a A hd hs hh ht h
    rcases hh 0 d R rfl with ⟨h1, h2⟩ | ⟨h1, rfl⟩
    rotate_left
    · have he : a.put (some d) undef = a := by
        cases a
        simp only [Act.put]
        congr 1
        exact Array.setIfInBounds_eq_of_size_le h1
      have h3 := h undef trivial
      rw [he] at h3
      refine ih a A hd hs (fun i d' R' hi => hh (i + 1) d' R' (by simpa using hi)) (fun t hx => ?_) h3
      by_cases hdt : d = t
      · subst hdt
        rw [Array.getElem?_eq_none (by omega), Array.getElem?_eq_none h1]
      · exact ht t fun i d' R' hi => by
          cases i with
          | zero => simp at hi; obtain ⟨rfl, -⟩ := hi; exact hdt
          | succ i => exact hx i d' R' (by simpa using hi)
    refine ih (a.put (some d) (A.tmps.getD d undef)) A hd (by simpa [Act.put] using hs) (fun i d' R' hi => ?_) (fun t hx => ?_) (h _ h2)
    · have := hh (i + 1) d' R' (by simpa using hi)
      simpa [Act.put] using this
    · by_cases hdt : d = t
      · subst hdt
        simp only [Act.put]
        rw [Array.getElem?_setIfInBounds_self_of_lt h1]
        have : d < A.tmps.size := by rw [hs]; exact h1
        simp [Array.getD_eq_getD_getElem?, this]
      · rw [ht t fun i d' R' hi => ?_]
        · simp only [Act.put]; rw [Array.getElem?_setIfInBounds_ne hdt]
        · cases i with
          | zero => simp at hi; obtain ⟨rfl, -⟩ := hi; exact hdt
          | succ i => exact hx i d' R' (by simpa using hi)
theorem wpAny_region_D (m : Nat) (J : Inv) {a : Act} {W0 W : World} (hW : Ext W0 W) (hc : okI ops m = true) (hJ0 : J (fun _ => false) (sl a) W.drew)
    (h : walkI P ops J W0 a (fun A w => J (fun j => decide (j < m)) (sl A) w → wpList P ops Q (ops.toList.drop m) A w) (ops.toList.take m) []) : wpAny P .any ops Q ops.size (Array.replicate ops.size false) a { W with drawn := W.drawn + 1 } := by
  simp only [okI, Bool.and_eq_true, decide_eq_true_eq, List.all_eq_true, List.mem_range, Bool.or_eq_true] at hc
  obtain ⟨⟨⟨⟨hm1, hsel⟩, hlt'⟩, hpre⟩, hpost'⟩ := hc
  have hlt : ∀ i j, j ∈ afters ops i → j < i := by
    intro i j hj
    by_cases hi : i < ops.size
    · exact hlt' i hi j hj
    · obtain ⟨o, ho, -⟩ := mem_afters.1 hj
      rw [Array.getElem?_eq_none (by omega)] at ho; cases ho
  have hpost : ∀ i, m ≤ i → i < ops.size → ∀ j, j < i → need ops i i j = true := by
    intro i h1 h2 j hj
    rcases hpost' i h2 with h3 | h3
    · omega
    · exact h3 j hj
  obtain ⟨E, e1, e2, e3⟩ := walkI_env (ops := ops) (ops.toList.take m) [] (fun j o hj => by
    rw [List.getElem?_take] at hj
    split at hj
    · simpa using hj
    · cases hj) h
  simp only [List.nil_append, List.length_nil, Nat.zero_add] at e2 e3
  have hEl : E.length = m := by rw [e1]; simp; omega
  have dstE : ∀ (i : Nat) (d : Tmp) (R : Prop1), E[i]? = some (d, R) → Dst a.tmps.size ((ops[i]?).bind (·.dst)) d R ∧ i < m := by
    intro i d R hi
    obtain ⟨o, h1, h2, -⟩ := (e2 i d R hi).go
    exact ⟨by simpa [h1] using h2, by rw [← hEl]; exact (List.getElem?_eq_some_iff.1 hi).1⟩
  have hasE : ∀ (i : Nat) (d : Tmp) (R : Prop1) (A : Act) (w : World), E[i]? = some (d, R) → R (A.tmps.getD d undef) w → (d < a.tmps.size ∧ R (A.tmps.getD d undef) w) ∨ (a.tmps.size ≤ d ∧ R = Any) := by
    intro i d R A w hi hR
    rcases (dstE i d R hi).1 with ⟨-, h⟩ | ⟨-, h⟩
    · exact .inl ⟨h, hR⟩
    · exact .inr h
  have distinct : ∀ (i j : Nat) (d : Tmp), i < m → j < m → (ops[i]?).bind (·.dst) = some d → (ops[j]?).bind (·.dst) = some d → i = j := by
    intro i j d hi hj h1 h2
    have := hpre i hi
    unfold okPre at this
    cases ho : ops[i]? with
    | none => simp [ho] at h1
    | some o =>
      simp only [ho, Option.bind_some] at h1 this
      simp only [h1, Bool.and_eq_true, List.all_eq_true, List.mem_range, Bool.or_eq_true, beq_iff_eq, bne_iff_ne] at this
      rcases this.1 j hj with h3 | h3
      · exact h3.symm
      · exact absurd h2 h3
  have main : ∀ (n : Nat) (listed : Array Bool) (A : Act) (w : World), (List.range ops.size).countP (fun i => !listed.getD i false) = n → InvI ops J m E W0 a listed A w → wpAny P .any ops Q n listed A w := by
    intro n
    induction n with
    | zero =>
      intro listed A w hn hI
      by_cases hmn : m < ops.size
      · exfalso
        rw [List.countP_eq_zero] at hn
        have := hn m (List.mem_range.2 hmn)
        rw [hI.post m (Nat.le_refl _)] at this
        simp at this
      · have hall : ∀ i, i < ops.size → listed.getD i false = true := by
          intro i hi
          rw [List.countP_eq_zero] at hn
          have := hn i (List.mem_range.2 hi)
          simpa using this
        have hmm : m = ops.size := by omega
        have hall' : ∀ i, i < m → listed.getD i false = true := fun i hi => hall i (by omega)
        refine wpAny_tail (m := m) hlt hpost 0 ops.size listed A w (by omega) (by omega) hI.size (fun j hj => by rw [hall j hj]; simp [hj]) ?_
        have hdist : J (fun j => decide (j < m)) (sl A) w := by
          have e : (fun j => listed.getD j false) = fun j => decide (j < m) := by
            funext j
            by_cases hj : j < m
            · rw [hall' j hj]; simp [hj]
            · rw [hI.post j (by omega)]; simp [hj]
          rw [← e]; exact hI.jj
        have := fins_done E a A hI.defs hI.tsz (fun i d R hi => hasE i d R A w hi (hI.has i d R (hall i (by have := (dstE i d R hi).2; omega)) hi)) (fun t ht => hI.same t fun i hi _ hdi => by
          have hiE : i < E.length := by omega
          obtain ⟨d, R, hx'⟩ := env_get hiE
          rcases (dstE i d R hx').1 with ⟨h5, -⟩ | ⟨h5, -⟩
          · rw [hdi] at h5
            cases h5
            exact ht i _ R hx' rfl
          · rw [hdi] at h5; cases h5) (e3 w hI.ext)
        have := this hdist
        rw [hmm] at this; exact this
    | succ n ih =>
      intro listed A w hn hI
      have hsz := hI.size
      by_cases hall : ∀ i, i < m → listed.getD i false = true
      · -- all of the first part are done
        have hdone := fins_done E a A hI.defs hI.tsz (fun i d R hi => hasE i d R A w hi (hI.has i d R (hall i (dstE i d R hi).2) hi)) (fun t ht => hI.same t fun i hi _ hdi => by
          have hiE : i < E.length := by omega
          obtain ⟨d, R, hx'⟩ := env_get hiE
          rcases (dstE i d R hx').1 with ⟨h5, -⟩ | ⟨h5, -⟩
          · rw [hdi] at h5
            cases h5
            exact ht i _ R hx' rfl
          · rw [hdi] at h5; cases h5) (e3 w hI.ext)
        have hdone := hdone (by
          have e : (fun j => listed.getD j false) = fun j => decide (j < m) := by
            funext j
            by_cases hj : j < m
            · rw [hall j hj]; simp [hj]
            · rw [hI.post j (by omega)]; simp [hj]
          rw [← e]; exact hI.jj)
        have hl : ∀ j, j < ops.size → listed.getD j false = decide (j < m) := by
          intro j hj
          by_cases hjm : j < m
          · rw [hall j hjm]; simp [hjm]
          · rw [hI.post j (by omega)]; simp [hjm]
        have hcount : n + 1 + m = ops.size := by
          have h1 : (List.range ops.size).countP (fun i => !listed.getD i false) = (List.range ops.size).countP (fun i => decide (m ≤ i)) := by
            refine List.countP_congr fun i hi => ?_
            rw [hl i (List.mem_range.1 hi)]
            by_cases hx : i < m <;> simp [hx] <;> omega
          have h2 : ∀ k, (List.range k).countP (fun i => decide (m ≤ i)) = k - m := by
            intro k
            induction k with
            | zero => simp
            | succ k ihk =>
              rw [List.range_succ, List.countP_append, ihk]
              by_cases hx : m ≤ k
              · simp [hx]; omega
              · simp [hx]; omega
          rw [h1, h2] at hn; omega
        exact wpAny_tail (m := m) hlt hpost (n + 1) m listed A w hcount (Nat.le_refl _) hsz hl hdone
      · refine ⟨fun h0 => ?_, fun i hi => ?_⟩
        · -- some op is ready
          exfalso
          apply hall
          intro i
          induction i using Nat.strongRecOn with
          | ind i ihi =>
            intro him
            cases hx : listed.getD i false with
            | true => rfl
            | false =>
              have : i ∈ Region.ready .any ops listed := by
                rw [ready_afters]
                refine ⟨by rw [getD_tf (by omega)]; exact hx, ⟨ops[i]'(by omega), by simp [show i < ops.size by omega]⟩, fun j hj => ?_⟩
                have := hlt i j hj
                exact ihi j this (by omega)
              rw [h0] at this; cases this
        · obtain ⟨h1, ⟨oi, h2⟩, h3⟩ := ready_afters.1 hi
          have hio : i < ops.size := (Array.getElem?_eq_some_iff.1 h2).1
          have him : i < m := by
            rcases Nat.lt_or_ge i m with h | h
            · exact h
            · exfalso
              apply hall
              intro j hj
              exact need_listed hI.clo i i j (hpost i h hio j (by omega)) h3
          rw [getD_tf (by omega)] at h1
          have hiE : i < E.length := by omega
          obtain ⟨d, R, hx'⟩ := env_get hiE
          have hst := e2 i d R hx'
          obtain ⟨o', ho', hdst, hdo⟩ := hst.go
          obtain rfl : o' = oi := by rw [h2] at ho'; exact (Option.some.inj ho').symm
          have hok := hpre i him
          simp only [okPre, h2, Bool.and_eq_true, List.all_eq_true, List.mem_range, Bool.or_eq_true, beq_iff_eq, bne_iff_ne, List.contains_iff_mem] at hok
          -- what the operands are
          have hslot : ∀ t, t ∈ o'.looksAt ops → (∀ R', (E.take i).lookup t = some R' → R' (A.tmps.getD t undef) w) ∧ ((E.take i).lookup t = none → A.tmps[t]? = a.tmps[t]?) := by
            intro t ht
            refine ⟨fun R' hR' => ?_, fun hn' => ?_⟩
            · obtain ⟨j, hj⟩ := lookup_getD hR'
              have hji : j < i := by
                have := (List.getElem?_eq_some_iff.1 hj).1
                rw [List.length_take] at this; omega
              rw [List.getElem?_take, if_pos hji] at hj
              obtain ⟨hdj, hjm⟩ := dstE j t R' hj
              rcases hdj with ⟨hdj, -⟩ | ⟨-, -, rfl⟩
              · rcases hok.2 t ht j hjm with h4 | h4
                · exact absurd hdj h4
                · exact hI.has j t R' (h3 j h4) hj
              · trivial
            · refine hI.same t fun j hj hlj hdj => ?_
              rcases hok.2 t ht j hj with h4 | h4
              · exact h4 hdj
              · have hji := hlt i j h4
                have hjE : j < E.length := by omega
                obtain ⟨d', R', hy'⟩ := env_get hjE
                rcases (dstE j d' R' hy').1 with ⟨h5, -⟩ | ⟨h5, -⟩
                · rw [hdj] at h5
                  cases h5
                  exact lookup_none hn' j t R' (by rw [List.getElem?_take, if_pos hji]; exact hy') rfl
                · rw [hdj] at h5; cases h5
          have hknow : ∀ l : List Operand, (∀ x ∈ l, ∀ t, x = .tmp t → t ∈ o'.looksAt ops) → knows A a w (E.take i) l := by
            intro l
            induction l with
            | nil => intro _; trivial
            | cons x xs ihx =>
              intro hl
              refine ⟨?_, ihx fun y hy => hl y (by simp [hy])⟩
              cases x with
              | tmp t =>
                have hs := hslot t (hl _ (by simp) t rfl)
                simp only []
                cases hlk : (E.take i).lookup t with
                | some R' =>
                  simp only []
                  have := hs.1 R' hlk
                  simpa [Act.eval] using this
                | none =>
                  simp only []
                  have := hs.2 hlk
                  simp only [Act.eval, Array.getD_eq_getD_getElem?, this]
              | _ => rfl
          have hops : knows A a w (E.take i) o'.op.operands.toList := hknow _ fun x hx t ht => by
            subst ht
            exact List.mem_append_left _ (List.mem_filterMap.2 ⟨.tmp t, hx, rfl⟩)
          -- behind it
          have key : ∀ v w', Ext W0 w' → R v w' → J (upd (fun j => listed.getD j false) i) (sputO (sl A) o'.dst v) w' → wpAny P .any ops Q n (listed.setIfInBounds i true) (A.put o'.dst v) w' := by
            intro v w' hww hR hjj
            refine ih _ _ _ ?_ ?_
            · have h6 : (List.range ops.size).countP (fun k => !listed.getD k false) = (List.range ops.size).countP (fun k => !(listed.setIfInBounds i true).getD k false) + 1 := by
                have gen : ∀ (l : List Nat), l.Nodup → i ∈ l → l.countP (fun k => !listed.getD k false) = l.countP (fun k => !(listed.setIfInBounds i true).getD k false) + 1 := by
                  intro l
                  induction l with
                  | nil => intro _ h; cases h
                  | cons x xs ihl =>
                    intro hnd hmem
                    rw [List.nodup_cons] at hnd
                    rcases List.mem_cons.1 hmem with rfl | hmem
                    · have h7 : xs.countP (fun k => !listed.getD k false) = xs.countP (fun k => !(listed.setIfInBounds i true).getD k false) := by
                        refine List.countP_congr fun k hk => ?_
                        rw [getD_set_ne _ (fun e => hnd.1 (by rw [e]; exact hk))]
                      rw [List.countP_cons, List.countP_cons, h7]
                      have h8 : (listed.setIfInBounds i true).getD i false = true := by simp [Array.getD_eq_getD_getElem?, show i < listed.size by omega]
                      rw [h1, h8]; simp
                    · have hne : i ≠ x := fun e => hnd.1 (by rw [← e]; exact hmem)
                      rw [List.countP_cons, List.countP_cons, ihl hnd.2 hmem, getD_set_ne _ hne]; omega
                exact gen _ List.nodup_range (List.mem_range.2 hio)
              omega
            · refine ⟨by simpa using hI.size, fun k hk j hj => ?_, fun k hk => ?_, hww, ?_, ?_, fun t ht => ?_, fun k d' R' hk hE' => ?_, ?_⟩
              · by_cases hki : i = k
                · subst hki
                  have := h3 j hj
                  exact getD_set_true this
                · rw [getD_set_ne _ hki] at hk
                  exact getD_set_true (hI.clo k hk j hj)
              · rw [getD_set_ne _ (by omega)]; exact hI.post k hk
              · cases o'.dst with
                | none => exact hI.defs
                | some d => exact hI.defs
              · cases o'.dst with
                | none => exact hI.tsz
                | some d => simpa [Act.put] using hI.tsz
              · rcases hdst with ⟨hdst, hdl⟩ | ⟨hdst, -⟩
                · have hdt : d ≠ t := by
                    intro e; subst e
                    exact ht i him (by simp [Array.getD_eq_getD_getElem?, show i < listed.size by omega]) (by simp [h2, hdst])
                  rw [hdst]
                  simp only [Act.put]
                  rw [Array.getElem?_setIfInBounds_ne hdt]
                  exact hI.same t fun k hk hlk => ht k hk (getD_set_true hlk)
                · rw [hdst]
                  exact hI.same t fun k hk hlk => ht k hk (getD_set_true hlk)
              · by_cases hki : i = k
                · subst hki
                  rw [hx'] at hE'
                  cases hE'
                  rcases hdst with ⟨hdst, hdl⟩ | ⟨hdst, -, rfl⟩
                  · have hdA : d < A.tmps.size := by rw [hI.tsz]; exact hdl
                    rw [hdst]
                    simp only [Act.put]
                    have : (A.tmps.setIfInBounds d v).getD d undef = v := by simp [Array.getD_eq_getD_getElem?, hdA]
                    rw [this]; exact hR
                  · trivial
                · rw [getD_set_ne _ hki] at hk
                  have h7 := hI.has k d' R' hk hE'
                  rcases hdst with ⟨hdst, hdl⟩ | ⟨hdst, -⟩
                  · rcases (dstE k d' R' hE').1 with ⟨h8, -⟩ | ⟨-, -, rfl⟩
                    · have hne : d ≠ d' := fun e => by
                        subst e
                        exact hki (distinct i k d him (dstE k d R' hE').2 (by simp [h2, hdst]) h8)
                      rw [hdst]
                      simp only [Act.put]
                      have : (A.tmps.setIfInBounds d v).getD d' undef = A.tmps.getD d' undef := by simp [Array.getD_eq_getD_getElem?, Array.getElem?_setIfInBounds_ne hne]
                      rw [this]
                      exact (e2 k d' R' hE').st _ _ _ h7
                    · trivial
                  · rw [hdst]
                    exact (e2 k d' R' hE').st _ _ _ h7
              · have e1 : (fun j => (listed.setIfInBounds i true).getD j false) = upd (fun j => listed.getD j false) i := by
                  funext j
                  unfold upd
                  by_cases hji : j = i
                  · subst hji; simp [Array.getD_eq_getD_getElem?, show j < listed.size by omega]
                  · rw [getD_set_ne _ (fun e => hji e.symm)]; simp [hji]
                have e2' : sl (A.put o'.dst v) = sputO (sl A) o'.dst v := by
                  rcases hdst with ⟨hdst, hdl⟩ | ⟨hdst, -⟩
                  · have hdA : d < A.tmps.size := by rw [hI.tsz]; exact hdl
                    rw [hdst]
                    funext t
                    unfold sl sputO sput
                    simp only [Act.put]
                    by_cases htd : t = d
                    · subst htd; simp [Array.getD_eq_getD_getElem?, hdA]
                    · rw [if_neg htd]; simp [Array.getD_eq_getD_getElem?, Array.getElem?_setIfInBounds_ne (fun e => htd e.symm)]
                  · rw [hdst]; rfl
                rw [e1, e2']; exact hjj
          unfold wpOp
          simp only [h2]
          have runs : RunsI P ops J W0 a i (E.take i) o' d R → o'.wp P A w (wpAny P .any ops Q n (listed.setIfInBounds i true)) Q := fun hr => wp_weaken (hr A w _ hI.ext hI.jj h1 h3 hops _ key)
          rcases hdo with ⟨hg, hr⟩ | ⟨g, b, tg, Rg, hg, htg, hlk, hcase⟩
          · rw [if_pos (by simp [Region.wanted, hg])]
            exact .inl (runs hr)
          · have hsg := (hslot tg (List.mem_append_right _ (by simp [hg, htg]))).1 Rg hlk
            obtain ⟨jg, hjg⟩ := lookup_getD hlk
            have hjg' : E[jg]? = some (tg, Rg) := by
              rw [List.getElem?_take] at hjg
              split at hjg
              · exact hjg
              · cases hjg
            have htsz : tg < A.tmps.size := by
              rcases (dstE jg tg Rg hjg').1 with ⟨-, h⟩ | ⟨-, -, rfl⟩
              · rw [hI.tsz]; exact h
              · rcases hcase with ⟨h4, -⟩ | ⟨h4, -⟩
                · have := h4 undef w trivial; simp [undef] at this
                · exact absurd rfl (h4 (.bool b) w trivial)
            have hyl : ∀ c, A.tmps.getD tg undef = .bool c → yielded ops A.tmps g = some c := by
              intro c hcv
              have : A.tmps[tg]? = some (.bool c) := by
                rw [← hcv]; simp [Array.getD_eq_getD_getElem?, htsz]
              simp [yielded, htg, this]
            rcases hcase with ⟨h4, hr⟩ | ⟨h4, h5, h6⟩
            · rw [if_pos (by simp [Region.wanted, hg, hyl b (h4 _ _ hsg)])]
              exact .inl (runs hr)
            · rw [if_neg (by
                simp only [Region.wanted, hg, beq_iff_eq]
                intro hy
                refine h4 _ _ hsg ?_
                unfold yielded at hy
                simp only [htg, Option.bind_some] at hy
                split at hy
                · rename_i c hc
                  cases hy
                  simp [Array.getD_eq_getD_getElem?, hc]
                · cases hy)]
              exact key undef w hI.ext (h5 w) (h6 _ _ _ hI.jj)
  have h0 : (List.range ops.size).countP (fun i => !(Array.replicate ops.size false).getD i false) = ops.size := by
    have : (List.range ops.size).countP (fun i => !(Array.replicate ops.size false).getD i false) = (List.range ops.size).length := by
      rw [List.countP_eq_length]
      intro i hi
      have := List.mem_range.1 hi
      simp [Array.getD_eq_getD_getElem?, this]
    rw [this, List.length_range]
  have hf : ∀ i, (Array.replicate ops.size false).getD i false = false := by
    intro i
    by_cases h : i < ops.size
    · simp [Array.getD_eq_getD_getElem?, h]
    · simp [Array.getD_eq_getD_getElem?, Array.getElem?_eq_none, show ops.size ≤ i by omega]
  have ef : (fun j => (Array.replicate ops.size false).getD j false) = fun _ => false := funext hf
  exact main ops.size _ a _ h0 ⟨by simp, fun i hi => absurd hi (by rw [hf]; simp), fun i _ => hf i, hW.drew', rfl, rfl, fun _ _ => rfl, fun i d R hi => absurd hi (by rw [hf]; simp), by rw [ef]; exact hJ0⟩
theorem wp_region_J (m : Nat) (J : Inv) {id : Nat} {a : Act} {W0 W : World} (hW : Ext W0 W) (hm : P.follows .mixedOrders = true) (hc : okI ops m = true) (hJ0 : J (fun _ => false) (sl a) W.drew)
    (h : walkI P ops J W0 a (fun A w => J (fun j => decide (j < m)) (sl A) w → wpList P ops Q (ops.toList.drop m) A w) (ops.toList.take m) []) : (Code.region id ops true).wp P Q a W :=
  wp_region_any hm (wpAny_region_D m J hW hc hJ0 h)
abbrev Is (u : Value) : Prop1 := fun v _ => v = u
theorem walkI_step {J : Inv} {W : World} {a : Act} {K : Act → World → Prop} {o : Oper} {rest : List Oper} {E : Env} {d : Tmp} (hd : o.dst = some d) (hl : d < a.tmps.size) (hg : o.guard = none)
    (hr : ∀ A w dn, Ext W w → J dn (sl A) w → dn E.length = false → (∀ j ∈ afters ops E.length, dn j = true) → knows A a w E o.op.operands.toList → ∀ K : Act → World → Prop, (∀ v w', Ext W w' → J (upd dn E.length) (sput (sl A) d v) w' → K (A.put (some d) v) w') → o.wp P A w K (fun _ _ _ => False))
    (h : walkI P ops J W a K rest (E ++ [(d, Any)])) : walkI P ops J W a K (o :: rest) E :=
  ⟨d, Any, .inl ⟨hd, hl⟩, fun _ _ _ h => h, .inl ⟨hg, by
    unfold RunsI; rw [hd]
    exact fun A w dn h1 h2 h3 h4 h5 K hK => hr A w dn h1 h2 h3 h4 h5 K fun v w' g1 g2 => hK v w' g1 trivial g2⟩, h⟩
theorem walkI_is {J : Inv} {W : World} {a : Act} {K : Act → World → Prop} {o : Oper} {rest : List Oper} {E : Env} {d : Tmp} {u : Value} (hd : o.dst = some d) (hl : d < a.tmps.size) (hg : o.guard = none)
    (hj : ∀ dn s w, J dn s w → J (upd dn E.length) (sput s d u) w)
    (hr : ∀ A w dn, Ext W w → J dn (sl A) w → (∀ j ∈ afters ops E.length, dn j = true) → knows A a w E o.op.operands.toList → ∀ K : Act → World → Prop, K (A.put (some d) u) w → o.wp P A w K (fun _ _ _ => False))
    (h : walkI P ops J W a K rest (E ++ [(d, Is u)])) : walkI P ops J W a K (o :: rest) E :=
  ⟨d, Is u, .inl ⟨hd, hl⟩, fun _ _ _ h => h, .inl ⟨hg, by
    unfold RunsI; rw [hd]
    exact fun A w dn h1 h2 _ h4 h5 K hK => hr A w dn h1 h2 h4 h5 K (hK u w h1 rfl (hj _ _ _ h2))⟩, h⟩
theorem walkI_none {J : Inv} {W : World} {a : Act} {K : Act → World → Prop} {o : Oper} {rest : List Oper} {E : Env} (n : Nat) (hd : o.dst = none) (hn : a.tmps.size ≤ n) (hg : o.guard = none)
    (hr : ∀ A w dn, Ext W w → J dn (sl A) w → dn E.length = false → (∀ j ∈ afters ops E.length, dn j = true) → knows A a w E o.op.operands.toList → ∀ K : Act → World → Prop, (∀ w', Ext W w' → J (upd dn E.length) (sl A) w' → K A w') → o.wp P A w K (fun _ _ _ => False))
    (h : walkI P ops J W a K rest (E ++ [(n, Any)])) : walkI P ops J W a K (o :: rest) E :=
  ⟨n, Any, .inr ⟨hd, hn, rfl⟩, fun _ _ _ h => h, .inl ⟨hg, by
    unfold RunsI; rw [hd]
    exact fun A w dn h1 h2 h3 h4 h5 K hK => hr A w dn h1 h2 h3 h4 h5 K fun w' g1 g2 => hK undef w' g1 trivial g2⟩, h⟩
theorem walkI_yesis {J : Inv} {W : World} {a : Act} {K : Act → World → Prop} {o : Oper} {rest : List Oper} {E : Env} {d g tg : Nat} {b : Bool} {u : Value} (hd : o.dst = some d) (hl : d < a.tmps.size) (hg : o.guard = some (g, b)) (htg : (ops[g]?).bind (·.dst) = some tg) (hlk : E.lookup tg = some (Is (.bool b)))
    (hj : ∀ dn s w, J dn s w → J (upd dn E.length) (sput s d u) w)
    (hr : ∀ A w dn, Ext W w → J dn (sl A) w → (∀ j ∈ afters ops E.length, dn j = true) → knows A a w E o.op.operands.toList → ∀ K : Act → World → Prop, K (A.put (some d) u) w → o.wp P A w K (fun _ _ _ => False))
    (h : walkI P ops J W a K rest (E ++ [(d, Is u)])) : walkI P ops J W a K (o :: rest) E :=
  ⟨d, Is u, .inl ⟨hd, hl⟩, fun _ _ _ h => h, .inr ⟨g, b, tg, _, hg, htg, hlk, .inl ⟨fun _ _ h => h, by
    unfold RunsI; rw [hd]
    exact fun A w dn h1 h2 _ h4 h5 K hK => hr A w dn h1 h2 h4 h5 K (hK u w h1 rfl (hj _ _ _ h2))⟩⟩, h⟩
theorem walkI_no {J : Inv} {W : World} {a : Act} {K : Act → World → Prop} {o : Oper} {rest : List Oper} {E : Env} {d g tg : Nat} {b : Bool} {u : Value} (hd : o.dst = some d) (hl : d < a.tmps.size) (hg : o.guard = some (g, b)) (htg : (ops[g]?).bind (·.dst) = some tg) (hlk : E.lookup tg = some (Is u)) (hbc : u ≠ .bool b)
    (hj : ∀ dn s w, J dn s w → J (upd dn E.length) (sput s d undef) w)
    (h : walkI P ops J W a K rest (E ++ [(d, Is undef)])) : walkI P ops J W a K (o :: rest) E :=
  ⟨d, Is undef, .inl ⟨hd, hl⟩, fun _ _ _ h => h, .inr ⟨g, b, tg, _, hg, htg, hlk, .inr ⟨fun _ _ h => by rw [h]; exact hbc, fun _ => rfl, by rw [hd]; exact hj⟩⟩, h⟩
theorem walkI_nil {J : Inv} {W : World} {a : Act} {K : Act → World → Prop} {E : Env} (h : ∀ w, Ext W w → fins K w E a) : walkI P ops J W a K [] E := h
end
end Go.Proofs.YtabajghokhfmhaaGreat.Qj
namespace Go.Proofs.YtabajghokhfmhaaGreat
open Go.RowKit Go.Shelf
def aroundV (n m : Int) : Int := if n < 0 then (-(n + 1)).tmod m else n.tmod m
theorem aroundV_range {n m : Int} (hn : I64 n) (hm : 0 < m) : 0 ≤ aroundV n m ∧ aroundV n m < m := by
  unfold I64 at hn
  unfold aroundV
  split
  · exact ⟨Int.tmod_nonneg _ (by omega), Int.tmod_lt_of_pos _ hm⟩
  · exact ⟨Int.tmod_nonneg _ (by omega), Int.tmod_lt_of_pos _ hm⟩
theorem around_c (n m : Int) (w : World) (hn : I64 n) (hm : 0 < m) (hm' : m ≤ 9223372036854775807) :
    Calls Tryz.prog 13 #[.int .i64 n, .int .i64 m] w (RetV w (.int .i64 (aroundV n m))) := by
  have hr := aroundV_range hn hm
  have hn' := hn
  unfold I64 at hn'
  have hm0 : (m == 0) = false := by simp; omega
  by_cases h : n < 0
  · have hv : Hid (aroundV n m = (-(n + 1)).tmod m) := by show _ = _; unfold aroundV; rw [if_pos h]
    rw [hv.out] at hr ⊢
    have hq : IntKind.i64.wrap ((-(n + 1)).tmod m) = (-(n + 1)).tmod m := by rw [IntKind.wrap_i64]; omega
    go_enter Tryz.func13, Tryz.ntmps13
    go_wp2_with fail
    go_ret
    exact ⟨ret_int (Int.neg_tmod ..).symm, xE⟩
  · have hv : Hid (aroundV n m = n.tmod m) := by show _ = _; unfold aroundV; rw [if_neg h]
    rw [hv.out] at hr ⊢
    have hq : IntKind.i64.wrap (n.tmod m) = n.tmod m := by rw [IntKind.wrap_i64]; omega
    go_enter Tryz.func13, Tryz.ntmps13
    go_wp2_with fail
    go_ret
    exact ⟨ret_int (Int.tmod_eq_emod_of_nonneg (by omega)).symm, xE⟩
def rngF (k : Int) : List Itv :=
  if (k % 16 == 3) = true then [⟨⟨2 * (k / 8 % 4) - 1, 2⟩, ⟨2 * (k / 8 % 4) - 1 + 2 * (1 + k / 40 % 3), 2⟩, (k / 64 % 2 == 0), (k / 128 % 2 == 0), false, false⟩]
  else if (k % 8 == 0) = true then [⟨⟨0, 0⟩, ⟨k / 8 % 5 + (1 + k / 40 % 3), 1⟩, false, (k / 64 % 2 == 0), true, false⟩]
  else if (k % 8 == 1) = true then [⟨⟨k / 8 % 5, 1⟩, ⟨0, 0⟩, (k / 64 % 2 == 0), false, false, true⟩]
  else if (k % 8 == 2) = true then [⟨⟨k / 8 % 5, 1⟩, ⟨k / 8 % 5, 1⟩, false, false, false, false⟩]
  else if (k % 8 == 3) = true ∨ (k % 8 == 4) = true then [⟨⟨k / 8 % 5, 1⟩, ⟨k / 8 % 5 + (1 + k / 40 % 3), 1⟩, (k / 64 % 2 == 0), (k / 128 % 2 == 0), false, false⟩]
  else if (k % 8 == 5) = true then [⟨⟨0, 0⟩, ⟨0, 0⟩, false, false, true, true⟩]
  else if (k % 8 == 6) = true then [⟨⟨0, 0⟩, ⟨k / 8 % 5, 1⟩, false, true, true, false⟩, ⟨⟨k / 8 % 5 + (1 + k / 40 % 3), 1⟩, ⟨0, 0⟩, (k / 64 % 2 == 0), false, false, true⟩]
  else if (k / 64 % 4 == 0) = true then []
  else [⟨⟨k / 8 % 5, 1⟩, ⟨k / 8 % 5, 1⟩, false, false, false, false⟩, ⟨⟨k / 8 % 5 + (1 + k / 40 % 3), 1⟩, ⟨k / 8 % 5 + (1 + k / 40 % 3), 1⟩, false, false, false, false⟩]
def RngV (w : World) (k : Int) (e : Ending) (w' : World) : Prop := ∃ v l, e = .returned v ∧ Ext w w' ∧ ItvsR (up noH w w') v l ∧ setE l = 0 ∧ l.length ≤ 2 ∧ l = rngF k
def loOk (p q : Int) : Prop := (q = 1 ∧ 0 ≤ p ∧ p ≤ 4) ∨ (q = 2 ∧ (p = -1 ∨ p = 1 ∨ p = 3 ∨ p = 5))
def hiR (p q d : Int) : Rat2 := ⟨p + q * d, q⟩
theorem loOk_cases {p q : Int} (h : loOk p q) : (p, q) ∈ [((0 : Int), (1 : Int)), (1, 1), (2, 1), (3, 1), (4, 1), (-1, 2), (1, 2), (3, 2), (5, 2)] := by
  rcases h with ⟨rfl, h1, h2⟩ | ⟨rfl, rfl | rfl | rfl | rfl⟩
  · have : p = 0 ∨ p = 1 ∨ p = 2 ∨ p = 3 ∨ p = 4 := by omega
    rcases this with rfl | rfl | rfl | rfl | rfl <;> simp
  · simp
  · simp
  · simp
  · simp
theorem rng_all : ∀ x ∈ [((0 : Int), (1 : Int)), (1, 1), (2, 1), (3, 1), (4, 1), (-1, 2), (1, 2), (3, 2), (5, 2)], ∀ d ∈ [(1 : Int), 2, 3], ∀ a ∈ [true, false], ∀ b ∈ [true, false],
    setE [⟨⟨0, 0⟩, hiR x.1 x.2 d, false, a, true, false⟩] = 0 ∧ setE [⟨⟨x.1, x.2⟩, ⟨0, 0⟩, a, false, false, true⟩] = 0 ∧ setE [⟨⟨x.1, x.2⟩, ⟨x.1, x.2⟩, false, false, false, false⟩] = 0 ∧
    setE [⟨⟨x.1, x.2⟩, hiR x.1 x.2 d, a, b, false, false⟩] = 0 ∧ setE [⟨⟨0, 0⟩, ⟨x.1, x.2⟩, false, true, true, false⟩, ⟨hiR x.1 x.2 d, ⟨0, 0⟩, a, false, false, true⟩] = 0 ∧
    setE [⟨⟨x.1, x.2⟩, ⟨x.1, x.2⟩, false, false, false, false⟩, ⟨hiR x.1 x.2 d, hiR x.1 x.2 d, false, false, false, false⟩] = 0 := by
  decide +kernel
theorem bmem (b : Bool) : b ∈ [true, false] := by cases b <;> simp
set_option maxRecDepth 100000 in
set_option maxHeartbeats 8000000 in
theorem rangeF_c (n : Int) (w : World) (hn : I64 n) : Calls Tryz.prog 71 #[.int .i64 n] w (RngV w (aroundV n 1048576)) := by
  obtain ⟨k0, k1⟩ := aroundV_range (n := n) (m := 1048576) hn (by omega)
  go_enter Tryz.func71, Tryz.ntmps71
  go_wp2_with fail
  refine RetV_at (around_c n 1048576 _ hn (by omega) (by omega)) ?_
  intro w1 hx1
  generalize aroundV n 1048576 = k at *
  have hdm : 1 + k / 40 % 3 ∈ [(1 : Int), 2, 3] := by
    have : k / 40 % 3 = 0 ∨ k / 40 % 3 = 1 ∨ k / 40 % 3 = 2 := by omega
    rcases this with h | h | h <;> rw [h] <;> simp
  have hkd : 0 ≤ k / 40 % 3 ∧ k / 40 % 3 ≤ 2 := by omega
  by_cases h16 : k % 16 = 3
  · have b0 : (k % 16 == 3) = true := by simpa using h16
    have hlm := loOk_cases (p := 2 * (k / 8 % 4) - 1) (q := 2) (by unfold loOk; omega)
    have hall := rng_all _ hlm _ hdm
    have hpb : -1 ≤ 2 * (k / 8 % 4) - 1 ∧ 2 * (k / 8 % 4) - 1 ≤ 5 := by omega
    have h8 : k % 8 = 0 ∨ k % 8 = 1 ∨ k % 8 = 2 ∨ k % 8 = 3 ∨ k % 8 = 4 ∨ k % 8 = 5 ∨ k % 8 = 6 ∨ k % 8 = 7 := by omega
    have h83 : k % 8 = 3 := by omega
    rcases h8 with h8 | h8 | h8 | h8 | h8 | h8 | h8 | h8
    · omega
    · omega
    · omega
    · have e0 : (k % 8 == 0) = false := by rw [h8]; rfl
      have e1 : (k % 8 == 1) = false := by rw [h8]; rfl
      have e2 : (k % 8 == 2) = false := by rw [h8]; rfl
      have e3 : (k % 8 == 3) = true := by rw [h8]; rfl
      have e4 : (k % 8 == 4) = false := by rw [h8]; rfl
      have e5 : (k % 8 == 5) = false := by rw [h8]; rfl
      have e6 : (k % 8 == 6) = false := by rw [h8]; rfl
      go_wp2_with fail
      have hI1 : Itv.I ⟨⟨2 * (k / 8 % 4) - 1, 2⟩, ⟨2 * (k / 8 % 4) - 1 + 2 * (1 + k / 40 % 3), 2⟩, (k / 64 % 2 == 0), (k / 128 % 2 == 0), false, false⟩ := by unfold Itv.I Rat2.I I64; dsimp only; omega
      have hM := (((Mem.start w noH (noH_le _)).ext (w' := (w1.alloc (.cells #[.int .i64 (2 * (k / 8 % 4) - 1), .int .i64 2] 72)).alloc (.cells #[.int .i64 (2 * (k / 8 % 4) - 1 + 2 * (1 + k / 40 % 3)), .int .i64 2] 72)) xE).new' #[.int .i64 (2 * (k / 8 % 4) - 1), .int .i64 (2), .int .i64 (2 * (k / 8 % 4) - 1 + 2 * (1 + k / 40 % 3)), .int .i64 (2), .bool (k / 64 % 2 == 0), .bool (k / 128 % 2 == 0), .bool false, .bool false] 91 (n := w1.heap.size + 1 + 1) (by simp)).asOwn 0 rfl mono_ItvR (sz := 8) (xs := [⟨⟨2 * (k / 8 % 4) - 1, 2⟩, ⟨2 * (k / 8 % 4) - 1 + 2 * (1 + k / 40 % 3), 2⟩, (k / 64 % 2 == 0), (k / 128 % 2 == 0), false, false⟩]) (n := 1) (by simp) (by simp [maxLen]) rfl ⟨_, [], rfl, rfl, ⟨rfl, hI1⟩, rfl⟩
      go_ret
      exact ⟨_, _, rfl, xE, hM.repUp 0 rfl, (hall _ (bmem (k / 64 % 2 == 0)) _ (bmem (k / 128 % 2 == 0))).2.2.2.1, by simp, by unfold rngF; rw [if_pos b0]⟩
    · omega
    · omega
    · omega
    · omega
  · have b0 : (k % 16 == 3) = false := by simpa using h16
    have hlm := loOk_cases (p := k / 8 % 5) (q := 1) (by unfold loOk; omega)
    have hall := rng_all _ hlm _ hdm
    have hpb : -1 ≤ k / 8 % 5 ∧ k / 8 % 5 ≤ 5 := by omega
    have h8 : k % 8 = 0 ∨ k % 8 = 1 ∨ k % 8 = 2 ∨ k % 8 = 3 ∨ k % 8 = 4 ∨ k % 8 = 5 ∨ k % 8 = 6 ∨ k % 8 = 7 := by omega
    rcases h8 with h8 | h8 | h8 | h8 | h8 | h8 | h8 | h8
    · have e0 : (k % 8 == 0) = true := by rw [h8]; rfl
      have e1 : (k % 8 == 1) = false := by rw [h8]; rfl
      have e2 : (k % 8 == 2) = false := by rw [h8]; rfl
      have e3 : (k % 8 == 3) = false := by rw [h8]; rfl
      have e4 : (k % 8 == 4) = false := by rw [h8]; rfl
      have e5 : (k % 8 == 5) = false := by rw [h8]; rfl
      have e6 : (k % 8 == 6) = false := by rw [h8]; rfl
      go_wp2_with fail
      have hI1 : Itv.I ⟨⟨0, 0⟩, ⟨k / 8 % 5 + (1 + k / 40 % 3), 1⟩, false, (k / 64 % 2 == 0), true, false⟩ := by unfold Itv.I Rat2.I I64; dsimp only; omega
      have hM := (((Mem.start w noH (noH_le _)).ext (w' := (w1.alloc (.cells #[.int .i64 (k / 8 % 5), .int .i64 1] 72)).alloc (.cells #[.int .i64 (k / 8 % 5 + (1 + k / 40 % 3)), .int .i64 1] 72)) xE).new' #[.int .i64 (0), .int .i64 (0), .int .i64 (k / 8 % 5 + (1 + k / 40 % 3)), .int .i64 (1), .bool false, .bool (k / 64 % 2 == 0), .bool true, .bool false] 91 (n := w1.heap.size + 1 + 1) (by simp)).asOwn 0 rfl mono_ItvR (sz := 8) (xs := [⟨⟨0, 0⟩, ⟨k / 8 % 5 + (1 + k / 40 % 3), 1⟩, false, (k / 64 % 2 == 0), true, false⟩]) (n := 1) (by simp) (by simp [maxLen]) rfl ⟨_, [], rfl, rfl, ⟨rfl, hI1⟩, rfl⟩
      go_ret
      exact ⟨_, _, rfl, xE, hM.repUp 0 rfl, (by have h := (hall _ (bmem (k / 64 % 2 == 0)) _ (bmem true)).1; simpa [hiR] using h), by simp, by unfold rngF; rw [if_neg (by rw [b0]; decide), if_pos e0]⟩
    · have e0 : (k % 8 == 0) = false := by rw [h8]; rfl
      have e1 : (k % 8 == 1) = true := by rw [h8]; rfl
      have e2 : (k % 8 == 2) = false := by rw [h8]; rfl
      have e3 : (k % 8 == 3) = false := by rw [h8]; rfl
      have e4 : (k % 8 == 4) = false := by rw [h8]; rfl
      have e5 : (k % 8 == 5) = false := by rw [h8]; rfl
      have e6 : (k % 8 == 6) = false := by rw [h8]; rfl
      go_wp2_with fail
      have hI1 : Itv.I ⟨⟨k / 8 % 5, 1⟩, ⟨0, 0⟩, (k / 64 % 2 == 0), false, false, true⟩ := by unfold Itv.I Rat2.I I64; dsimp only; omega
      have hM := (((Mem.start w noH (noH_le _)).ext (w' := (w1.alloc (.cells #[.int .i64 (k / 8 % 5), .int .i64 1] 72)).alloc (.cells #[.int .i64 (k / 8 % 5 + (1 + k / 40 % 3)), .int .i64 1] 72)) xE).new' #[.int .i64 (k / 8 % 5), .int .i64 (1), .int .i64 (0), .int .i64 (0), .bool (k / 64 % 2 == 0), .bool false, .bool false, .bool true] 91 (n := w1.heap.size + 1 + 1) (by simp)).asOwn 0 rfl mono_ItvR (sz := 8) (xs := [⟨⟨k / 8 % 5, 1⟩, ⟨0, 0⟩, (k / 64 % 2 == 0), false, false, true⟩]) (n := 1) (by simp) (by simp [maxLen]) rfl ⟨_, [], rfl, rfl, ⟨rfl, hI1⟩, rfl⟩
      go_ret
      exact ⟨_, _, rfl, xE, hM.repUp 0 rfl, (by have h := (hall _ (bmem (k / 64 % 2 == 0)) _ (bmem true)).2.1; simpa [hiR] using h), by simp, by unfold rngF; rw [if_neg (by rw [b0]; decide), if_neg (by rw [e0]; decide), if_pos e1]⟩
    · have e0 : (k % 8 == 0) = false := by rw [h8]; rfl
      have e1 : (k % 8 == 1) = false := by rw [h8]; rfl
      have e2 : (k % 8 == 2) = true := by rw [h8]; rfl
      have e3 : (k % 8 == 3) = false := by rw [h8]; rfl
      have e4 : (k % 8 == 4) = false := by rw [h8]; rfl
      have e5 : (k % 8 == 5) = false := by rw [h8]; rfl
      have e6 : (k % 8 == 6) = false := by rw [h8]; rfl
      go_wp2_with fail
      have hI1 : Itv.I ⟨⟨k / 8 % 5, 1⟩, ⟨k / 8 % 5, 1⟩, false, false, false, false⟩ := by unfold Itv.I Rat2.I I64; dsimp only; omega
      have hM := (((Mem.start w noH (noH_le _)).ext (w' := (w1.alloc (.cells #[.int .i64 (k / 8 % 5), .int .i64 1] 72)).alloc (.cells #[.int .i64 (k / 8 % 5 + (1 + k / 40 % 3)), .int .i64 1] 72)) xE).new' #[.int .i64 (k / 8 % 5), .int .i64 (1), .int .i64 (k / 8 % 5), .int .i64 (1), .bool false, .bool false, .bool false, .bool false] 91 (n := w1.heap.size + 1 + 1) (by simp)).asOwn 0 rfl mono_ItvR (sz := 8) (xs := [⟨⟨k / 8 % 5, 1⟩, ⟨k / 8 % 5, 1⟩, false, false, false, false⟩]) (n := 1) (by simp) (by simp [maxLen]) rfl ⟨_, [], rfl, rfl, ⟨rfl, hI1⟩, rfl⟩
      go_ret
      exact ⟨_, _, rfl, xE, hM.repUp 0 rfl, (by have h := (hall _ (bmem true) _ (bmem true)).2.2.1; simpa [hiR] using h), by simp, by unfold rngF; rw [if_neg (by rw [b0]; decide), if_neg (by rw [e0]; decide), if_neg (by rw [e1]; decide), if_pos e2]⟩
    · have e0 : (k % 8 == 0) = false := by rw [h8]; rfl
      have e1 : (k % 8 == 1) = false := by rw [h8]; rfl
      have e2 : (k % 8 == 2) = false := by rw [h8]; rfl
      have e3 : (k % 8 == 3) = true := by rw [h8]; rfl
      have e4 : (k % 8 == 4) = false := by rw [h8]; rfl
      have e5 : (k % 8 == 5) = false := by rw [h8]; rfl
      have e6 : (k % 8 == 6) = false := by rw [h8]; rfl
      go_wp2_with fail
      have hI1 : Itv.I ⟨⟨k / 8 % 5, 1⟩, ⟨k / 8 % 5 + (1 + k / 40 % 3), 1⟩, (k / 64 % 2 == 0), (k / 128 % 2 == 0), false, false⟩ := by unfold Itv.I Rat2.I I64; dsimp only; omega
      have hM := (((Mem.start w noH (noH_le _)).ext (w' := (w1.alloc (.cells #[.int .i64 (k / 8 % 5), .int .i64 1] 72)).alloc (.cells #[.int .i64 (k / 8 % 5 + (1 + k / 40 % 3)), .int .i64 1] 72)) xE).new' #[.int .i64 (k / 8 % 5), .int .i64 (1), .int .i64 (k / 8 % 5 + (1 + k / 40 % 3)), .int .i64 (1), .bool (k / 64 % 2 == 0), .bool (k / 128 % 2 == 0), .bool false, .bool false] 91 (n := w1.heap.size + 1 + 1) (by simp)).asOwn 0 rfl mono_ItvR (sz := 8) (xs := [⟨⟨k / 8 % 5, 1⟩, ⟨k / 8 % 5 + (1 + k / 40 % 3), 1⟩, (k / 64 % 2 == 0), (k / 128 % 2 == 0), false, false⟩]) (n := 1) (by simp) (by simp [maxLen]) rfl ⟨_, [], rfl, rfl, ⟨rfl, hI1⟩, rfl⟩
      go_ret
      exact ⟨_, _, rfl, xE, hM.repUp 0 rfl, (by have h := (hall _ (bmem (k / 64 % 2 == 0)) _ (bmem (k / 128 % 2 == 0))).2.2.2.1; simpa [hiR] using h), by simp, by unfold rngF; rw [if_neg (by rw [b0]; decide), if_neg (by rw [e0]; decide), if_neg (by rw [e1]; decide), if_neg (by rw [e2]; decide), if_pos (Or.inl e3)]⟩
    · have e0 : (k % 8 == 0) = false := by rw [h8]; rfl
      have e1 : (k % 8 == 1) = false := by rw [h8]; rfl
      have e2 : (k % 8 == 2) = false := by rw [h8]; rfl
      have e3 : (k % 8 == 3) = false := by rw [h8]; rfl
      have e4 : (k % 8 == 4) = true := by rw [h8]; rfl
      have e5 : (k % 8 == 5) = false := by rw [h8]; rfl
      have e6 : (k % 8 == 6) = false := by rw [h8]; rfl
      go_wp2_with fail
      have hI1 : Itv.I ⟨⟨k / 8 % 5, 1⟩, ⟨k / 8 % 5 + (1 + k / 40 % 3), 1⟩, (k / 64 % 2 == 0), (k / 128 % 2 == 0), false, false⟩ := by unfold Itv.I Rat2.I I64; dsimp only; omega
      have hM := (((Mem.start w noH (noH_le _)).ext (w' := (w1.alloc (.cells #[.int .i64 (k / 8 % 5), .int .i64 1] 72)).alloc (.cells #[.int .i64 (k / 8 % 5 + (1 + k / 40 % 3)), .int .i64 1] 72)) xE).new' #[.int .i64 (k / 8 % 5), .int .i64 (1), .int .i64 (k / 8 % 5 + (1 + k / 40 % 3)), .int .i64 (1), .bool (k / 64 % 2 == 0), .bool (k / 128 % 2 == 0), .bool false, .bool false] 91 (n := w1.heap.size + 1 + 1) (by simp)).asOwn 0 rfl mono_ItvR (sz := 8) (xs := [⟨⟨k / 8 % 5, 1⟩, ⟨k / 8 % 5 + (1 + k / 40 % 3), 1⟩, (k / 64 % 2 == 0), (k / 128 % 2 == 0), false, false⟩]) (n := 1) (by simp) (by simp [maxLen]) rfl ⟨_, [], rfl, rfl, ⟨rfl, hI1⟩, rfl⟩
      go_ret
      exact ⟨_, _, rfl, xE, hM.repUp 0 rfl, (by have h := (hall _ (bmem (k / 64 % 2 == 0)) _ (bmem (k / 128 % 2 == 0))).2.2.2.1; simpa [hiR] using h), by simp, by unfold rngF; rw [if_neg (by rw [b0]; decide), if_neg (by rw [e0]; decide), if_neg (by rw [e1]; decide), if_neg (by rw [e2]; decide), if_pos (Or.inr e4)]⟩
    · have e0 : (k % 8 == 0) = false := by rw [h8]; rfl
      have e1 : (k % 8 == 1) = false := by rw [h8]; rfl
      have e2 : (k % 8 == 2) = false := by rw [h8]; rfl
      have e3 : (k % 8 == 3) = false := by rw [h8]; rfl
      have e4 : (k % 8 == 4) = false := by rw [h8]; rfl
      have e5 : (k % 8 == 5) = true := by rw [h8]; rfl
      have e6 : (k % 8 == 6) = false := by rw [h8]; rfl
      go_wp2_with fail
      have hI1 : Itv.I ⟨⟨0, 0⟩, ⟨0, 0⟩, false, false, true, true⟩ := by unfold Itv.I Rat2.I I64; dsimp only; omega
      have hM := (((Mem.start w noH (noH_le _)).ext (w' := (w1.alloc (.cells #[.int .i64 (k / 8 % 5), .int .i64 1] 72)).alloc (.cells #[.int .i64 (k / 8 % 5 + (1 + k / 40 % 3)), .int .i64 1] 72)) xE).new' #[.int .i64 (0), .int .i64 (0), .int .i64 (0), .int .i64 (0), .bool false, .bool false, .bool true, .bool true] 91 (n := w1.heap.size + 1 + 1) (by simp)).asOwn 0 rfl mono_ItvR (sz := 8) (xs := [⟨⟨0, 0⟩, ⟨0, 0⟩, false, false, true, true⟩]) (n := 1) (by simp) (by simp [maxLen]) rfl ⟨_, [], rfl, rfl, ⟨rfl, hI1⟩, rfl⟩
      go_ret
      exact ⟨_, _, rfl, xE, hM.repUp 0 rfl, (by decide +kernel), by simp, by unfold rngF; rw [if_neg (by rw [b0]; decide), if_neg (by rw [e0]; decide), if_neg (by rw [e1]; decide), if_neg (by rw [e2]; decide), if_neg (by rw [e3, e4]; decide), if_pos e5]⟩
    · have e0 : (k % 8 == 0) = false := by rw [h8]; rfl
      have e1 : (k % 8 == 1) = false := by rw [h8]; rfl
      have e2 : (k % 8 == 2) = false := by rw [h8]; rfl
      have e3 : (k % 8 == 3) = false := by rw [h8]; rfl
      have e4 : (k % 8 == 4) = false := by rw [h8]; rfl
      have e5 : (k % 8 == 5) = false := by rw [h8]; rfl
      have e6 : (k % 8 == 6) = true := by rw [h8]; rfl
      go_wp2_with fail
      have hI1 : Itv.I ⟨⟨0, 0⟩, ⟨k / 8 % 5, 1⟩, false, true, true, false⟩ := by unfold Itv.I Rat2.I I64; dsimp only; omega
      have hI2 : Itv.I ⟨⟨k / 8 % 5 + (1 + k / 40 % 3), 1⟩, ⟨0, 0⟩, (k / 64 % 2 == 0), false, false, true⟩ := by unfold Itv.I Rat2.I I64; dsimp only; omega
      have hM := (((Mem.start w noH (noH_le _)).ext (w' := (w1.alloc (.cells #[.int .i64 (k / 8 % 5), .int .i64 1] 72)).alloc (.cells #[.int .i64 (k / 8 % 5 + (1 + k / 40 % 3)), .int .i64 1] 72)) xE).new' #[.int .i64 (0), .int .i64 (0), .int .i64 (k / 8 % 5), .int .i64 (1), .bool false, .bool true, .bool true, .bool false, .int .i64 (k / 8 % 5 + (1 + k / 40 % 3)), .int .i64 (1), .int .i64 (0), .int .i64 (0), .bool (k / 64 % 2 == 0), .bool false, .bool false, .bool true] 91 (n := w1.heap.size + 1 + 1) (by simp)).asOwn 0 rfl mono_ItvR (sz := 8) (xs := [⟨⟨0, 0⟩, ⟨k / 8 % 5, 1⟩, false, true, true, false⟩, ⟨⟨k / 8 % 5 + (1 + k / 40 % 3), 1⟩, ⟨0, 0⟩, (k / 64 % 2 == 0), false, false, true⟩]) (n := 2) (by simp) (by simp [maxLen]) rfl ⟨_, _, rfl, rfl, ⟨rfl, hI1⟩, _, [], rfl, rfl, ⟨rfl, hI2⟩, rfl⟩
      go_ret
      exact ⟨_, _, rfl, xE, hM.repUp 0 rfl, (by have h := (hall _ (bmem (k / 64 % 2 == 0)) _ (bmem true)).2.2.2.2.1; simpa [hiR] using h), by simp, by unfold rngF; rw [if_neg (by rw [b0]; decide), if_neg (by rw [e0]; decide), if_neg (by rw [e1]; decide), if_neg (by rw [e2]; decide), if_neg (by rw [e3, e4]; decide), if_neg (by rw [e5]; decide), if_pos e6]⟩
    · have e0 : (k % 8 == 0) = false := by rw [h8]; rfl
      have e1 : (k % 8 == 1) = false := by rw [h8]; rfl
      have e2 : (k % 8 == 2) = false := by rw [h8]; rfl
      have e3 : (k % 8 == 3) = false := by rw [h8]; rfl
      have e4 : (k % 8 == 4) = false := by rw [h8]; rfl
      have e5 : (k % 8 == 5) = false := by rw [h8]; rfl
      have e6 : (k % 8 == 6) = false := by rw [h8]; rfl
      by_cases h64 : k / 64 % 4 = 0
      · have b1 : (k / 64 % 4 == 0) = true := by simpa using h64
        go_wp2_with fail
        go_ret
        exact ⟨_, [], rfl, xE, SliceRep.nil _ _ _, by rfl, by simp, by unfold rngF; rw [if_neg (by rw [b0]; decide), if_neg (by rw [e0]; decide), if_neg (by rw [e1]; decide), if_neg (by rw [e2]; decide), if_neg (by rw [e3, e4]; decide), if_neg (by rw [e5]; decide), if_neg (by rw [e6]; decide), if_pos b1]⟩
      · have b1 : (k / 64 % 4 == 0) = false := by simpa using h64
        go_wp2_with fail
        have hI1 : Itv.I ⟨⟨k / 8 % 5, 1⟩, ⟨k / 8 % 5, 1⟩, false, false, false, false⟩ := by unfold Itv.I Rat2.I I64; dsimp only; omega
        have hI2 : Itv.I ⟨⟨k / 8 % 5 + (1 + k / 40 % 3), 1⟩, ⟨k / 8 % 5 + (1 + k / 40 % 3), 1⟩, false, false, false, false⟩ := by unfold Itv.I Rat2.I I64; dsimp only; omega
        have hM := (((Mem.start w noH (noH_le _)).ext (w' := (w1.alloc (.cells #[.int .i64 (k / 8 % 5), .int .i64 1] 72)).alloc (.cells #[.int .i64 (k / 8 % 5 + (1 + k / 40 % 3)), .int .i64 1] 72)) xE).new' #[.int .i64 (k / 8 % 5), .int .i64 (1), .int .i64 (k / 8 % 5), .int .i64 (1), .bool false, .bool false, .bool false, .bool false, .int .i64 (k / 8 % 5 + (1 + k / 40 % 3)), .int .i64 (1), .int .i64 (k / 8 % 5 + (1 + k / 40 % 3)), .int .i64 (1), .bool false, .bool false, .bool false, .bool false] 91 (n := w1.heap.size + 1 + 1) (by simp)).asOwn 0 rfl mono_ItvR (sz := 8) (xs := [⟨⟨k / 8 % 5, 1⟩, ⟨k / 8 % 5, 1⟩, false, false, false, false⟩, ⟨⟨k / 8 % 5 + (1 + k / 40 % 3), 1⟩, ⟨k / 8 % 5 + (1 + k / 40 % 3), 1⟩, false, false, false, false⟩]) (n := 2) (by simp) (by simp [maxLen]) rfl ⟨_, _, rfl, rfl, ⟨rfl, hI1⟩, _, [], rfl, rfl, ⟨rfl, hI2⟩, rfl⟩
        go_ret
        exact ⟨_, _, rfl, xE, hM.repUp 0 rfl, (by have h := (hall _ (bmem true) _ (bmem true)).2.2.2.2.2; simpa [hiR] using h), by simp, by unfold rngF; rw [if_neg (by rw [b0]; decide), if_neg (by rw [e0]; decide), if_neg (by rw [e1]; decide), if_neg (by rw [e2]; decide), if_neg (by rw [e3, e4]; decide), if_neg (by rw [e5]; decide), if_neg (by rw [e6]; decide), if_neg (by rw [b1]; decide)]⟩
end Go.Proofs.YtabajghokhfmhaaGreat
namespace Go.Proofs.YtabajghokhfmhaaGreat
open Go.RowKit
def MemG (ws : World) (g : Nat) (c : Array Value) (T : TypeId) (L : List Chunk) (H : PH) (w : World) : Prop :=
  ∃ w0 : World, w0.heap.size = ws.heap.size ∧ g < ws.heap.size ∧ Own w g c T ∧ Mem w0 noH L H w ∧ ws.grownBy w (some g)
theorem grownBy_rfl (w : World) (r : Option Nat) : w.grownBy w r := ⟨rfl, rfl, rfl, Nat.le_refl _, fun _ _ _ => rfl⟩
theorem Ext.grownG {w w' : World} (e : Ext w w') (r : Option Nat) : w.grownBy w' r := ⟨e.os, e.tape, e.output, e.size, fun k hk _ => e.block k hk⟩
theorem MemG.start {ws : World} {g : Nat} {c : Array Value} {T : TypeId} (h : Own ws g c T) : MemG ws g c T [] noH ws := ⟨ws, rfl, h.lt, h, Mem.start ws noH (noH_le _), grownBy_rfl _ _⟩
section
variable {ws w w' : World} {g : Nat} {c c' : Array Value} {T : TypeId} {L L' : List Chunk} {H H' : PH}
theorem MemG.lt (h : MemG ws g c T L H w) : g < ws.heap.size := by obtain ⟨w0, h1, h2, h3, h4⟩ := h; exact h2
theorem MemG.own (h : MemG ws g c T L H w) : Own w g c T := by obtain ⟨w0, h1, h2, h3, h4⟩ := h; exact h3
theorem MemG.size (h : MemG ws g c T L H w) : ws.heap.size ≤ w.heap.size := by obtain ⟨w0, h1, h2, h3, h4, h5⟩ := h; exact h5.size
theorem MemG.grown (h : MemG ws g c T L H w) : ws.grownBy w (some g) := by obtain ⟨w0, h1, h2, h3, h4, h5⟩ := h; exact h5
theorem MemG.step (h : MemG ws g c T L H w) (f : ∀ w0, w0.heap.size = ws.heap.size → Mem w0 noH L H w → Mem w0 noH L' H' w') : MemG ws g c T L' H' w' := by
  obtain ⟨w0, h1, h2, h3, h4, h5⟩ := h
  have hM := f w0 h1 h4
  have hs : ∀ k, k < w0.heap.size → w'.heap[k]? = w.heap[k]? := fun k hk => by rw [hM.ex.block k hk, h4.ex.block k hk]
  refine ⟨w0, h1, h2, ?_, hM, ?_⟩
  · unfold Own at *; rw [hs g (by omega)]; exact h3
  · have := hM.ex.size
    refine ⟨?_, ?_, ?_, by omega, fun k hk hr => ?_⟩
    · rw [← h5.os, h4.ex.os, hM.ex.os]
    · rw [← h5.tape, h4.ex.tape, hM.ex.tape]
    · rw [← h5.output, h4.ex.output, hM.ex.output]
    · rw [hs k (by omega)]; exact h5.block k hk hr
theorem MemG.call (h : MemG ws g c T L H w) (e : w.grownBy w' (some g)) (ho : Own w' g c' T) : MemG ws g c' T L (up H w w') w' := by
  obtain ⟨w0, h1, h2, h3, hM, h5⟩ := h
  have hgl' : g < w'.heap.size := ho.lt
  have hne : ∀ {i : Nat} {c : Chunk}, L[i]? = some c → ∀ k, c.foot = some k → k ≠ g := fun hi k hk => by have := (hM.fr _ _ hi k hk).1; omega
  have hHg : ∀ k o, H k = some o → w0.heap.size ≤ k := by
    intro k o hk
    have := hM.ub k o hk
    unfold up at this
    split at this
    · cases this
    · omega
  have eb : ∀ k, k < w.heap.size → k ≠ g → w'.heap[k]? = w.heap[k]? := fun k hk hn => e.block k hk (fun h => hn (Option.some.inj h))
  refine ⟨{ w0 with heap := w0.heap.setIfInBounds g w'.heap[g] }, by simpa using h1, h2, ho, ?_, h5.trans e⟩
  have hex : Ext { w0 with heap := w0.heap.setIfInBounds g w'.heap[g] } w' := by
    refine ⟨e.os.trans hM.ex.os, e.tape.trans hM.ex.tape, e.output.trans hM.ex.output, by simpa using Nat.le_trans hM.ex.size e.size, fun k hk => ?_⟩
    have hk' : k < w0.heap.size := by simpa using hk
    show w'.heap[k]? = (w0.heap.setIfInBounds g w'.heap[g])[k]?
    by_cases hkg : g = k
    · subst hkg
      rw [Array.getElem?_setIfInBounds_self_of_lt hk']; simp [hgl']
    · rw [Array.getElem?_setIfInBounds_ne hkg, eb k (Nat.lt_of_lt_of_le hk' hM.ex.size) (fun h => hkg h.symm)]
      exact hM.ex.block k hk'
  have hl : PLe H (up H w w') := ple_up hM.ple
  refine ⟨noH_le _, noH_le _, fun k o hk => ?_, hex, fun i c hi => c.mono (c.loc (hM.ok i c hi) fun k hk => eb k (hM.lt hi hk) (hne hi k hk)) hl, fun i c hi k hk => ⟨by simpa using (hM.fr i c hi k hk).1, up_none (hM.fr i c hi k hk).2 (hM.lt hi hk)⟩, hM.ap⟩
  unfold up at hk ⊢
  split at hk
  · have h1 := hM.ub k o hk
    have h2 := hHg k o hk
    unfold up at h1
    rw [if_neg (by omega)] at h1
    rw [if_neg (by simp; omega)]
    show w'.heap[k]? = some o
    rw [eb k (ph_lt h1) (by omega)]; exact h1
  · have := hM.ex.size
    rw [if_neg (by simp; omega)]; exact hk
theorem MemG.set (h : MemG ws g c T L H w) (j : Nat) (u : Value) : MemG ws g (c.setIfInBounds j u) T L H (w.setCell ⟨g, j, none⟩ u) := by
  have hg : w.grownBy (w.setCell ⟨g, j, none⟩ u) (some g) := ⟨rfl, rfl, rfl, by simp, fun k hk hn => Below.heap_setCell _ _ _ _ (fun e => hn (by rw [e]))⟩
  have h2 := h.call hg (h.own.set j u)
  obtain ⟨w0, h1, h3, h4, hM, h5⟩ := h2
  refine ⟨w0, h1, h3, h4, ?_, h5⟩
  have hl : PLe H (up H w (w.setCell ⟨g, j, none⟩ u)) := ple_up (by obtain ⟨_, _, _, _, hM0, _⟩ := h; exact hM0.ple)
  obtain ⟨w1, k1, k2, k3, hM1, k5⟩ := h
  refine ⟨hM.l0, noH_le _, hl.trans hM.ub, hM.ex, fun i d hi => ?_, fun i d hi k hk => ?_, hM.ap⟩
  · exact d.loc (hM1.ok i d hi) fun k hk => Below.heap_setCell _ _ _ _ (fun e => by have := (hM1.fr i d hi k hk).1; dsimp only at e; omega)
  · have := hM1.fr i d hi k hk; exact ⟨by omega, this.2⟩
end
end Go.Proofs.YtabajghokhfmhaaGreat
namespace Go.Proofs.YtabajghokhfmhaaGreat
open Go.RowKit Go.Shelf
def RetIn (w : World) (lo hi : Int) (e : Ending) (w' : World) : Prop := ∃ r, e = .returned (.int .i64 r) ∧ lo ≤ r ∧ r < hi ∧ Ext w w'
def pickV (l : List Int) (i m : Int) : Int := if i < 0 then 0 else (l[i.toNat]?.map fun x => aroundV x m).getD 0
def RetOf (w : World) (lo hi v : Int) (e : Ending) (w' : World) : Prop := e = .returned (.int .i64 v) ∧ lo ≤ v ∧ v < hi ∧ Ext w w'
theorem pickF_c (l : List Int) (vl : Value) (i m : Int) (w : World) (hl : IntsR (ph w) vl l) (hi : I64 i) (hm : 0 < m) (hm' : m ≤ 9223372036854775807) :
    Calls Tryz.prog 70 #[vl, .int .i64 i, .int .i64 m] w (RetOf w 0 m (pickV l i m)) := by
  obtain ⟨a, c, rfl, hll, hl⟩ := hl.form
  have hi' := hi
  unfold I64 at hi'
  by_cases h0 : i < 0
  · clear hl
    have hp : pickV l i m = 0 := by unfold pickV; rw [if_pos h0]
    rw [hp]
    clear hp
    go_enter Tryz.func70, Tryz.ntmps70
    go_wp2_with fail
    go_ret
    exact ⟨rfl, by omega, by omega, xE⟩
  · by_cases h1 : i < l.length
    · obtain ⟨k, rfl⟩ : ∃ k : Nat, i = k := ⟨i.toNat, by omega⟩
      obtain ⟨b, o, rfl, h2, h3, hbl⟩ := IntsR.at hl k (by omega)
      have hp : pickV l k m = aroundV l[k] m := by unfold pickV; rw [if_neg h0, Int.toNat_natCast, List.getElem?_eq_getElem (by omega)]; rfl
      rw [hp]
      clear hp
      generalize l[k] = x at *
      have hr := aroundV_range h3 hm
      clear hl
      go_enter Tryz.func70, Tryz.ntmps70
      go_wp2_with fail
      refine (around_c x m _ h3 hm hm').mono ?_
      rintro e w1 ⟨rfl, hb1⟩
      generalize aroundV x m = r at *
      go_wp2_with fail
      go_ret
      exact ⟨rfl, hr.1, hr.2, xE⟩
    · clear hl
      have hp : pickV l i m = 0 := by unfold pickV; rw [if_neg h0, List.getElem?_eq_none (by omega)]; rfl
      rw [hp]
      clear hp
      go_enter Tryz.func70, Tryz.ntmps70
      go_wp2_with fail
      go_ret
      exact ⟨rfl, by omega, by omega, xE⟩
theorem pick1_c (l : List Int) (vl : Value) (i m : Int) (w : World) (hl : IntsR (ph w) vl l) (hi : I64 i) (hm : 0 < m) (hm' : m ≤ 9223372036854775807) :
    Calls Tryz.prog 70 #[vl, .int .i64 i, .int .i64 m] w (RetIn w 0 m) :=
  (pickF_c l vl i m w hl hi hm hm').mono fun e w' ⟨h1, h2, h3, h4⟩ => ⟨_, h1, h2, h3, h4⟩
theorem MemG.ub {ws w : World} {g : Nat} {c : Array Value} {T : TypeId} {L : List Chunk} {H : PH} (h : MemG ws g c T L H w) : PLe H (Proofs.YtabajghokhfmhaaGreat.up noH ws w) := by
  obtain ⟨w0, h1, h2, h3, h4, h5⟩ := h
  intro k o hk
  have := h4.ub k o hk
  unfold Proofs.YtabajghokhfmhaaGreat.up at this ⊢
  rw [h1] at this
  exact this
theorem MemG.ple {ws w : World} {g : Nat} {c : Array Value} {T : TypeId} {L : List Chunk} {H : PH} (h : MemG ws g c T L H w) : PLe H (ph w) := by
  obtain ⟨w0, h1, h2, h3, h4, h5⟩ := h; exact h4.ple
theorem MemG.box {ws w : World} {g : Nat} {c : Array Value} {T : TypeId} {L : List Chunk} {H : PH} (h : MemG ws g c T L H w) (i : Nat) {b : Nat} {c' : Array Value} {T' : TypeId} (hi : L[i]? = some (Proofs.YtabajghokhfmhaaGreat.box b c' T')) : Own w b c' T' := by
  obtain ⟨w0, h1, h2, h3, h4, h5⟩ := h; exact h4.box i hi
theorem PLe.grownG {Hl : PH} {w w' : World} {g : Nat} (h : PLe Hl (ph w)) (e : w.grownBy w' (some g)) (hg : Hl g = none) : PLe Hl (ph w') := by
  intro k o hk
  show w'.heap[k]? = some o
  rw [e.block k (ph_lt (h k o hk)) (fun e => by cases e; rw [hg] at hk; cases hk)]
  exact h k o hk
abbrev mkA (vl : Value) (at' cl lf : Int) : Array Value := #[vl, .int .i64 at', .int .i64 cl, .int .i64 lf]
def NextP (w : World) (g : Nat) (l : List Int) (vl : Value) (at' cl lf n : Int) (e : Ending) (w' : World) : Prop :=
  ∃ r, e = .returned (.int .i64 r) ∧ r = pickV l at' n ∧ 0 ≤ r ∧ r < n ∧ w.grownBy w' (some g) ∧ Own w' g (mkA vl (at' + 1) cl lf) 88
set_option maxRecDepth 100000 in
theorem mnext_c {Hl : PH} (l : List Int) (vl : Value) (g : Nat) (at' cl lf n : Int) (w : World) (hl : PLe Hl (ph w)) (hr : IntsR Hl vl l) (hg : Hl g = none) (ho : Own w g (mkA vl at' cl lf) 88) (h0 : 0 ≤ at') (h1 : at' ≤ 1000000) (hn : 0 < n) (hn' : n ≤ 9223372036854775807) :
    Calls Tryz.prog 89 #[.pointer (some ⟨g, 0, none⟩), .int .i64 n] w (NextP w g l vl at' cl lf n) := by
  obtain ⟨a, c, rfl, hll, hr⟩ := hr.form
  obtain ⟨kc, kf⟩ := ho.facts
  have k0 : _ = some (Value.slice a l.length c) := kc 0
  have k1 : _ = some (Value.int .i64 at') := kc 1
  have f1 := kf 1
  have hgl := ho.lt
  have hg1 : w.grownBy (w.setCell ⟨g, 1, none⟩ (.int .i64 (at' + 1))) (some g) := ⟨rfl, rfl, rfl, by simp, fun k hk hn => Below.heap_setCell _ _ _ _ (fun e => hn (by rw [e]))⟩
  have ho1 := ho.set 1 (.int .i64 (at' + 1))
  simp only [List.setIfInBounds_toArray, List.set_cons_succ, List.set_cons_zero] at ho1
  have hl1 := hl.grownG hg1 hg
  clear kc kf
  go_enter Tryz.func89, Tryz.ntmps89
  go_wp2_with fail
  generalize w.setCell _ _ = W at *
  clear k0 k1 f1 hgl
  obtain ⟨kc, kf⟩ := ho1.facts
  have k0 : _ = some (Value.slice a l.length c) := kc 0
  have k1 : _ = some (Value.int .i64 (at' + 1)) := kc 1
  have hgl := ho1.lt
  have hp := Lib.hid (fun W' (hW : Ext W W') => pickF_c l (.slice a l.length c) at' n W' ((hr.mono mono_IntR (hl1.trans hW.ple))) (by unfold I64; omega) hn hn')
  have hq : IntKind.i64.wrap at' = at' := by rw [IntKind.wrap_i64]; omega
  clear hr kc kf
  (refine wp_region_I 11 (by kernel_rfl) (by kernel_rfl) ?_; simp only [List.toList_toArray, List.take_succ_cons, List.take_zero, List.drop_succ_cons, List.drop_zero])
  iterate 10 (refine wiA rfl (by simp) rfl ?_; (try simp only [List.nil_append, List.cons_append]))
  (refine walkI_step (fun v w' => v = .int .i64 (pickV l at' n) ∧ 0 ≤ pickV l at' n ∧ pickV l at' n < n) rfl (by simp) rfl (fun v a b _ h e => h) ?_ ?_; (focus (intro A w' hS hA K hK; (simp only [List.map_cons, List.map_nil, knows, Is, Op.operands, Call.operands, List.lookup_cons, List.lookup_nil, Nat.reduceBEq, Bool.false_eq_true, if_false, if_true, Act.eval, Array.getD_eq_getD_getElem?, List.getElem?_toArray, List.getElem?_cons_succ, List.getElem?_cons_zero, Option.getD_some, and_true, true_and, List.append_toArray, List.nil_append, List.cons_append, List.toList_toArray, Array.toList_append, Option.toArray, List.append_nil] at hA); (go_simp; refine (hp.out _ hS).mono ?_; rintro e w5 ⟨rfl, h5, h6, h7⟩; exact hK _ _ h7 ⟨rfl, h5, h6⟩))); (try simp only [List.nil_append, List.cons_append]))
  (refine walkI_nil ?_; simp only [List.nil_append, List.cons_append, fins, Is, forall_eq, Act.put, List.setIfInBounds_toArray, List.set_cons_zero, List.set_cons_succ])
  rintro w2 hx2 v ⟨rfl, h5, h6⟩
  go_wp2_with fail
  go_ret
  exact ⟨_, rfl, rfl, h5, h6, hg1.trans (hx2.grownG _), ho1.keep hx2⟩
end Go.Proofs.YtabajghokhfmhaaGreat
namespace Go.Proofs.YtabajghokhfmhaaGreat
open Go.RowKit Go.Shelf
def wholeN (cl : Int) (f : Fm) : Bool := f.pre.all fun g => formed1 g && (!decide (g.op = 1) || decide (g.n < cl))
theorem wholeN_eq (cl : Int) (f : Fm) : wholeN cl f = ((formed1 f && (!decide (f.op = 1) || decide (f.n < cl))) && f.kids.all (wholeN cl)) := by
  unfold wholeN
  rw [Fm.pre_eq, List.all_cons]
  congr 1
  induction f.kids with
  | nil => rfl
  | cons x xs ih => rw [List.flatMap_cons, List.all_append, List.all_cons, ih]
theorem wholeN_B {cl : Int} {f : Fm} (h : wholeN cl f = true) : wholeB f = true := by
  unfold wholeN at h
  unfold wholeB
  rw [List.all_eq_true] at h ⊢
  exact fun x hx => by have := h x hx; rw [Bool.and_eq_true] at this; exact this.1
theorem whole_leaf {cl op n : Int} {inn : List Itv} (h : formed1 (.mk op n inn []) = true) (h2 : op = 1 → n < cl) : wholeN cl (.mk op n inn []) = true := by
  rw [wholeN_eq, h]
  by_cases h3 : op = 1
  · simp [Fm.op, Fm.n, Fm.kids, h2 h3]
  · simp [Fm.op, Fm.kids, h3]
def leafF (l : List Int) (cl a : Int) : Fm × Int :=
  if pickV l a 11 < 6 then (.mk 1 (pickV l (a + 1) cl) [] [], a + 1 + 1)
  else if pickV l a 11 = 10 then (noF, a + 1)
  else (.mk 2 (pickV l (a + 1) 3) (rngF (aroundV (pickV l (a + 1 + 1) 1048576) 1048576)) [], a + 1 + 1 + 1)
def TreeP (w : World) (g : Nat) (vl : Value) (at' cl lf : Int) (P : Fm → Int → Prop) (e : Ending) (w' : World) : Prop :=
  ∃ f a3 c3 a4 c4 at2, e = .returned (fmV f a3 c3 a4 c4) ∧ FmR (up noH w w') (fmC f a3 c3 a4 c4) f ∧ wholeN cl f = true ∧ P f at2 ∧ w.grownBy w' (some g) ∧ Own w' g (mkA vl at2 cl (lf - f.size)) 88 ∧ at' ≤ at2 ∧ at2 ≤ at' + 4 * f.size
theorem MemG.set4 {ws w : World} {g : Nat} {c : Array Value} {T : TypeId} {L : List Chunk} {H : PH} (h : MemG ws g c T L H w) (i : Nat) {b : Nat} {a0 a1 a2 a3 : Value} {T' : TypeId} (hi : L[i]? = some (Proofs.YtabajghokhfmhaaGreat.box b #[a0, a1, a2, a3] T')) (p q r s : Value) :
    MemG ws g c T (L.set i (Proofs.YtabajghokhfmhaaGreat.box b #[p, q, r, s] T')) H ((((w.setCell ⟨b, 0, none⟩ p).setCell ⟨b, 1, none⟩ q).setCell ⟨b, 2, none⟩ r).setCell ⟨b, 3, none⟩ s) := h.step fun w0 _ m => m.set4 i hi p q r s
abbrev zeroFa : Array Value := #[.int .i64 0, .int .i64 0, .slice none 0 0, .slice none 0 0]
set_option maxRecDepth 100000 in
set_option maxHeartbeats 4000000 in
theorem leaf_c {Hl : PH} (l : List Int) (vl : Value) (g : Nat) (at' cl lf : Int) (w : World) (hl : PLe Hl (ph w)) (hr : IntsR Hl vl l) (hg : Hl g = none) (ho : Own w g (mkA vl at' cl lf) 88) (h0 : 0 ≤ at') (h1 : at' ≤ 900000) (hc0 : 0 < cl) (hc1 : cl ≤ 64) :
    Calls Tryz.prog 90 #[.pointer (some ⟨g, 0, none⟩)] w fun e w' => ∃ f a3 c3 at2, e = .returned (fmV f a3 c3 none 0) ∧ FmR (up noH w w') (fmC f a3 c3 none 0) f ∧ wholeN cl f = true ∧ f.kids = [] ∧ w.grownBy w' (some g) ∧ Own w' g (mkA vl at2 cl lf) 88 ∧ at' ≤ at2 ∧ at2 ≤ at' + 3 ∧ leafF l cl at' = (f, at2) := by
  obtain ⟨xa, xc, rfl, hll, hr⟩ := hr.form
  have hgl := ho.lt
  have hG0 := (MemG.start ho).step (fun w0 _ m => m.new zeroFa 30)
  simp only [List.nil_append] at hG0
  have hl0 := hl.trans (Ext.ple (Ext.new w (.cells zeroFa 30)))
  go_enter Tryz.func90, Tryz.ntmps90
  go_wp2_with fail
  generalize w.alloc _ = W at *
  refine (mnext_c l _ g at' cl lf 11 W hl0 hr hg hG0.own h0 (by omega) (by omega) (by omega)).mono ?_
  rintro e w1 ⟨r, rfl, hrv, hr0, hr1, hgr, ho1⟩
  replace hrv := Lib.hid hrv
  have hG1 := hG0.call hgr ho1
  have hl1 := hl0.grownG hgr hg
  clear hG0 hl0 hgr
  by_cases h6 : r < 6
  · have b1 : decide (r < 6) = true := by simpa using h6
    obtain ⟨kc, -⟩ := ho1.facts
    have k2 : _ = some (Value.int .i64 cl) := kc 2
    have hgl1 := ho1.lt
    clear kc
    go_wp2_with fail
    refine (mnext_c l _ g (at' + 1) cl lf cl w1 hl1 hr hg ho1 (by omega) (by omega) hc0 (by omega)).mono ?_
    rintro e w2 ⟨s, rfl, hsv, hs0, hs1, hgr, ho2⟩
    replace hsv := Lib.hid hsv
    have hG2 := hG1.call hgr ho2
    clear hG1 hgr k2 hgl1 ho1
    have ob := hG2.box 0 rfl
    obtain ⟨uc, uf⟩ := ob.facts
    have ul := ob.lt
    have q0' : _ = some (Value.int .i64 0) := uc 0
    have q1' : _ = some (Value.int .i64 0) := uc 1
    have q2' : _ = some (Value.slice none 0 0) := uc 2
    have q3' : _ = some (Value.slice none 0 0) := uc 3
    have hG3 := hG2.set4 0 rfl (.int .i64 1) (.int .i64 s) (.slice none 0 0) (.slice none 0 0)
    simp only [List.set_cons_zero] at hG3
    clear uc
    go_wp2_with fail
    generalize ((((w2.setCell _ _).setCell _ _).setCell _ _).setCell _ _) = w9 at *
    obtain ⟨q, -⟩ := (hG3.box 0 rfl).facts
    have q0 : _ = some (Value.int .i64 1) := q 0
    have q1 : _ = some (Value.int .i64 s) := q 1
    have q2 : _ = some (Value.slice none 0 0) := q 2
    have q3 : _ = some (Value.slice none 0 0) := q 3
    refine bodyPost_ret (v := .agg #[.int .i64 1, .int .i64 s, .slice none 0 0, .slice none 0 0]) (by simp [results, Tryz.results90, go_sem, q0, q1, q2, q3]) rfl ?_
    exact ⟨.mk 1 s [] [], none, 0, at' + 1 + 1, rfl, FmR.of (by simp [Fm.op, I64]) (by simp only [Fm.n]; unfold I64; omega) (SliceRep.nil _ _ _) (SliceRep.nil _ _ _), whole_leaf (by rw [formed1_mk]; simp; omega) (fun _ => hs1), rfl, hG3.grown, hG3.own, by omega, by omega, by unfold leafF; rw [if_pos (by have := hrv.out; omega), ← hsv.out]⟩
  have b1 : decide (r < 6) = false := by simpa using h6
  by_cases h10 : r = 10
  · have b2 : (r == 10) = true := by simpa using h10
    have ob := hG1.box 0 rfl
    obtain ⟨uc, uf⟩ := ob.facts
    have ul := ob.lt
    have q0' : _ = some (Value.int .i64 0) := uc 0
    have q1' : _ = some (Value.int .i64 0) := uc 1
    have q2' : _ = some (Value.slice none 0 0) := uc 2
    have q3' : _ = some (Value.slice none 0 0) := uc 3
    have hG3 := hG1.set4 0 rfl (.int .i64 0) (.int .i64 0) (.slice none 0 0) (.slice none 0 0)
    simp only [List.set_cons_zero] at hG3
    clear uc
    go_wp2_with fail
    generalize ((((w1.setCell _ _).setCell _ _).setCell _ _).setCell _ _) = w9 at *
    obtain ⟨q, -⟩ := (hG3.box 0 rfl).facts
    have q0 : _ = some (Value.int .i64 0) := q 0
    have q1 : _ = some (Value.int .i64 0) := q 1
    have q2 : _ = some (Value.slice none 0 0) := q 2
    have q3 : _ = some (Value.slice none 0 0) := q 3
    refine bodyPost_ret (v := zeroFv) (by simp [results, Tryz.results90, go_sem, q0, q1, q2, q3]) rfl ?_
    exact ⟨noF, none, 0, at' + 1, rfl, noF_R _, whole_leaf (by rw [formed1_mk]; simp) (fun h => by omega), rfl, hG3.grown, hG3.own, by omega, by omega, by unfold leafF; rw [if_neg (by have := hrv.out; omega), if_pos (by have := hrv.out; omega)]⟩
  have b2 : (r == 10) = false := by simpa using h10
  go_wp2_with fail
  refine (mnext_c l _ g (at' + 1) cl lf 3 w1 hl1 hr hg ho1 (by omega) (by omega) (by omega) (by omega)).mono ?_
  rintro e w2 ⟨s, rfl, hsv, hs0, hs1, hgr, ho2⟩
  replace hsv := Lib.hid hsv
  have hG2 := hG1.call hgr ho2
  have hl2 := hl1.grownG hgr hg
  clear hG1 hl1 hgr ho1
  go_wp2_with fail
  refine (mnext_c l _ g (at' + 1 + 1) cl lf 1048576 w2 hl2 hr hg ho2 (by omega) (by omega) (by omega) (by omega)).mono ?_
  rintro e w3 ⟨t, rfl, htv, ht0, ht1, hgr, ho3⟩
  replace htv := Lib.hid htv
  have hG3 := hG2.call hgr ho3
  clear hG2 hl2 hgr ho2
  go_wp2_with fail
  refine (rangeF_c t w3 (by unfold I64; omega)).mono ?_
  rintro e w4 ⟨iv, il, rfl, hx4, hI, hE, hln, hlf⟩
  replace hlf := Lib.hid hlf
  have hG4 := hG3.step (fun w0 _ m => m.up hx4)
  have hI4 := hI.mono mono_ItvR (up_mono (noH_le (up (up (up noH W w1) w1 w2) w2 w3)))
  obtain ⟨ia, ic, rfl, -, hI5⟩ := hI4.form
  clear hG3 hI hI4 ho3
  have ob := hG4.box 0 rfl
  obtain ⟨uc, uf⟩ := ob.facts
  have ul := ob.lt
  have q0' : _ = some (Value.int .i64 0) := uc 0
  have q1' : _ = some (Value.int .i64 0) := uc 1
  have q2' : _ = some (Value.slice none 0 0) := uc 2
  have q3' : _ = some (Value.slice none 0 0) := uc 3
  have hG5 := hG4.set4 0 rfl (.int .i64 2) (.int .i64 s) (.slice ia il.length ic) (.slice none 0 0)
  simp only [List.set_cons_zero] at hG5
  clear uc
  go_wp2_with fail
  generalize ((((w4.setCell _ _).setCell _ _).setCell _ _).setCell _ _) = w9 at *
  obtain ⟨q, -⟩ := (hG5.box 0 rfl).facts
  have q0 : _ = some (Value.int .i64 2) := q 0
  have q1 : _ = some (Value.int .i64 s) := q 1
  have q2 : _ = some (Value.slice ia il.length ic) := q 2
  have q3 : _ = some (Value.slice none 0 0) := q 3
  refine bodyPost_ret (v := .agg #[.int .i64 2, .int .i64 s, .slice ia il.length ic, .slice none 0 0]) (by simp [results, Tryz.results90, go_sem, q0, q1, q2, q3]) rfl ?_
  exact ⟨.mk 2 s il [], ia, ic, at' + 1 + 1 + 1, rfl, mono_FmR _ _ _ _ hG5.ub (FmR.of (by simp [Fm.op, I64]) (by simp only [Fm.n]; unfold I64; omega) hI5 (SliceRep.nil _ _ _)), whole_leaf (by rw [formed1_mk]; simp; omega) (fun h => by omega), rfl, hG5.grown, hG5.own, by omega, by omega, by unfold leafF; rw [if_neg (by have := hrv.out; omega), if_neg (by have := hrv.out; omega), ← hsv.out, ← htv.out, ← hlf.out]⟩
end Go.Proofs.YtabajghokhfmhaaGreat
namespace Go.Proofs.YtabajghokhfmhaaGreat
open Go.RowKit Go.Shelf
section
variable {α : Type} {E : PH → List Value → α → Prop} {hm : Mono E} {sz : Nat} {T : TypeId} {v : Value} {xs ys : List α} {w0 w : World} {H0 H : PH} {L : List Chunk}
theorem oper_append_M {P : Program} {o : Oper} {a : Act} {K : Act → World → Prop} {Q : Exit → Act → World → Prop} (i : Nat) (s x : Operand) (t : TypeId)
    (ho : o.op = .call { callee := .builtin .append, args := #[s, x], argTypes := #[t, t] }) {z : Value} {bytes : Nat}
    (ht : P.underlying t = some (.slice T)) (hinfo : (P.info? T).map (fun i => (i.zero, i.size, i.bytes)) = some (some z, sz, bytes)) (hzs : z.cells.size = sz)
    {vx : Value} (hs : a.eval s = v) (hx : a.eval x = vx) (hS : Mem w0 H0 L H w) (hi : L[i]? = some (own hm sz T v xs)) (hsrc : Src w H E sz vx ys)
    (hone : ∀ cs x, E H cs x → ∀ u ∈ cs, u.oneCell' = true) (hbytes : (xs.length + ys.length) * bytes ≤ 140737488355328) (hcnt : xs.length + ys.length ≤ 140737488355328)
    (hn : ∀ v' w', Mem w0 H0 (L.set i (own hm sz T v' (xs ++ ys))) H w' → w.grownBy w' v.ownBlock → K (a.put o.dst v') w') : o.wp P a w K Q := by
  obtain ⟨i', hi', hz0, hz1, hz2⟩ := info_parts hinfo
  obtain ⟨v', w', hr, h2, h3, h4⟩ := run_append_S (P := P) (w := w) t o.type T i' z bytes ht hi' hz0 hz1 hz2 hzs (hS.ownS i hi) hsrc hS.ple hS.ex.size hone hbytes hcnt
  unfold Oper.wp execOp
  simp only [ho, resolve, invoke, builtin, Sem.run_bind, Sem.run_pure, Result.andThen_ok, List.map_toArray, List.map_cons, List.map_nil, hs, hx, hr]
  exact hn _ _ (hS.put i hi (c' := own hm sz T v' (xs ++ ys)) h2.c h4 (hS.ex.grown h3 fun k hk => (hS.fr i _ hi k hk).1) fun k hk hne => h3.block k hk (fun e => hne e.symm)) h3
end
section
variable {ws w w' : World} {g : Nat} {c c' : Array Value} {T : TypeId} {L L' : List Chunk} {H H' : PH}
theorem MemG.re {w0 : World} (h1 : w0.heap.size = ws.heap.size) (h2 : g < ws.heap.size) (h3 : Own w g c T) (h4 : Mem w0 noH L H w) (h5 : ws.grownBy w (some g)) (hM : Mem w0 noH L' H' w') : MemG ws g c T L' H' w' := by
  have hs : ∀ k, k < w0.heap.size → w'.heap[k]? = w.heap[k]? := fun k hk => by rw [hM.ex.block k hk, h4.ex.block k hk]
  refine ⟨w0, h1, h2, ?_, hM, ?_⟩
  · unfold Own at *; rw [hs g (by omega)]; exact h3
  · have := hM.ex.size
    refine ⟨?_, ?_, ?_, by omega, fun k hk hr => ?_⟩
    · rw [← h5.os, h4.ex.os, hM.ex.os]
    · rw [← h5.tape, h4.ex.tape, hM.ex.tape]
    · rw [← h5.output, h4.ex.output, hM.ex.output]
    · rw [hs k (by omega)]; exact h5.block k hk hr
theorem MemG.freezeS {α : Type} {E : PH → List Value → α → Prop} {hm : Mono E} {sz : Nat} {T' : TypeId} {v : Value} {xs : List α} (h : MemG ws g c T L H w) (i : Nat) (hi : L[i]? = some (Proofs.YtabajghokhfmhaaGreat.own hm sz T' v xs)) : ∃ H', PLe H H' ∧ MemG ws g c T (L.set i nop) H' w ∧ SliceRep E sz H' v xs := by
  obtain ⟨w0, h1, h2, h3, h4, h5⟩ := h
  obtain ⟨H', k1, k2, k3⟩ := h4.freezeS i hi
  exact ⟨H', k1, ⟨w0, h1, h2, h3, k2, h5⟩, k3⟩
theorem MemG.form {α : Type} {E : PH → List Value → α → Prop} {hm : Mono E} {sz : Nat} {T' : TypeId} {v : Value} {xs : List α} (h : MemG ws g c T L H w) (i : Nat) (hi : L[i]? = some (Proofs.YtabajghokhfmhaaGreat.own hm sz T' v xs)) : ∃ a cap, v = .slice a xs.length cap ∧ xs.length ≤ 9223372036854775807 := by
  obtain ⟨w0, h1, h2, h3, h4, h5⟩ := h
  exact h4.form i hi
end
theorem not7_c {H : PH} (f : Fm) (a3 : Option Addr) (c3 : Nat) (a4 : Option Addr) (c4 : Nat) (w : World) (hl : PLe H (ph w)) (hr : FmR H (fmC f a3 c3 a4 c4) f) : Calls Tryz.prog 39 #[fmV f a3 c3 a4 c4] w fun e w' =>
    ∃ b, e = .returned (.agg #[.int .i64 6, .int .i64 0, .slice none 0 0, .slice (some ⟨b, 0, none⟩) 1 1]) ∧ Ext w w' ∧ FmR (up H w w') (fmC (.mk 6 0 [] [f]) none 0 (some ⟨b, 0, none⟩) 1) (.mk 6 0 [] [f]) := by
  unfold fmC at hr
  go_enter Tryz.func39, Tryz.ntmps39
  go_wp2_with fail
  have hM := ((((Mem.start w H hl).ext (Ext.new w (.cells #[.int .i64 f.op, .int .i64 f.n, .slice a3 f.inn.length c3, .slice a4 f.kids.length c4] 30))).ext (Ext.new _ (.cells #[.int .i64 6, .int .i64 0, .slice none 0 0, .slice (some ⟨w.heap.size + 1 + 1, 0, none⟩) 1 1] 30))).new' #[.int .i64 f.op, .int .i64 f.n, .slice a3 f.inn.length c3, .slice a4 f.kids.length c4] 30 (n := w.heap.size + 1 + 1) (by simp)).asOwn 0 rfl mono_FmR (sz := 4) (xs := [f]) (n := 1) (by simp) (by simp [maxLen]) rfl ⟨_, [], rfl, rfl, hr, rfl⟩
  have hk := hM.repUp 0 rfl
  have hx : Ext w (((w.alloc (.cells #[.int .i64 f.op, .int .i64 f.n, .slice a3 f.inn.length c3, .slice a4 f.kids.length c4] 30)).alloc (.cells #[.int .i64 6, .int .i64 0, .slice none 0 0, .slice (some ⟨w.heap.size + 1 + 1, 0, none⟩) 1 1] 30)).alloc (.cells #[.int .i64 f.op, .int .i64 f.n, .slice a3 f.inn.length c3, .slice a4 f.kids.length c4] 30)) := xE
  have ho : Own (((w.alloc (.cells #[.int .i64 f.op, .int .i64 f.n, .slice a3 f.inn.length c3, .slice a4 f.kids.length c4] 30)).alloc (.cells #[.int .i64 6, .int .i64 0, .slice none 0 0, .slice (some ⟨w.heap.size + 1 + 1, 0, none⟩) 1 1] 30)).alloc (.cells #[.int .i64 f.op, .int .i64 f.n, .slice a3 f.inn.length c3, .slice a4 f.kids.length c4] 30)) (w.heap.size + 1) #[.int .i64 6, .int .i64 0, .slice none 0 0, .slice (some ⟨w.heap.size + 1 + 1, 0, none⟩) 1 1] 30 := oE
  clear hM
  generalize World.alloc _ _ = w9 at *
  obtain ⟨q, -⟩ := ho.facts
  have q0 : _ = some (Value.int .i64 6) := q 0
  have q1 : _ = some (Value.int .i64 0) := q 1
  have q2 : _ = some (Value.slice none 0 0) := q 2
  have q3 : _ = some (Value.slice (some ⟨w.heap.size + 1 + 1, 0, none⟩) 1 1) := q 3
  refine bodyPost_ret (v := .agg #[.int .i64 6, .int .i64 0, .slice none 0 0, .slice (some ⟨w.heap.size + 1 + 1, 0, none⟩) 1 1]) (by simp [results, Tryz.results39, go_sem, q0, q1, q2, q3]) rfl ?_
  exact ⟨w.heap.size + 1 + 1, rfl, hx, FmR.of (by simp [Fm.op, I64]) (by simp [Fm.n, I64]) (SliceRep.nil _ _ _) hk⟩
end Go.Proofs.YtabajghokhfmhaaGreat
