/- Lemmas for NI, part 4: drawn regions by an invariant that only grows, as CalmI, where the world is just grown and drawn, and more. -/
import Derived.Sort.Grow
import Derived.Deep.CutBlock
import Derived.TacticsInMore
import Derived.WalkMore
import Derived.Test.YtabajghokhfmhaaGreatNI00
import Derived.Test.YtabajghokhfmhaaGreatNI01
import Derived.Test.YtabajghokhfmhaaGreatNI02
set_option linter.unusedSimpArgs false
set_option linter.unusedVariables false
namespace Go.Proofs.YtabajghokhfmhaaGreat
open Go.Sort
def Gw (a b : World) : Prop := ∃ q os, b = grow (a.drewN q) os
theorem Gw.rfl' (w : World) : Gw w w := ⟨0, #[], by rw [grow_empty]; rfl⟩
theorem Gw.then {a b c : World} (h : Gw a b) (k : Gw b c) : Gw a c := by
  obtain ⟨q, os, rfl⟩ := h
  obtain ⟨q', os', rfl⟩ := k
  refine ⟨q + q', os ++ os', ?_⟩
  simp [grow, World.drewN, Array.append_assoc, Nat.add_assoc]
theorem Gw.drew' {a b : World} (h : Gw a b) : Gw a b.drew := h.then ⟨1, #[], by rw [grow_empty]; rfl⟩
theorem Gw.new (w : World) (o : Obj) : Gw w (w.alloc o) := ⟨0, #[o], by rw [alloc_eq_grow]; rfl⟩
theorem Gw.ext {a b : World} (h : Gw a b) : Ext a b := by
  obtain ⟨q, os, rfl⟩ := h
  refine ⟨rfl, rfl, rfl, by simp [grow, World.drewN], fun k hk => ?_⟩
  show ((a.drewN q).heap ++ os)[k]? = _
  rw [Array.getElem?_append_left (by exact hk)]; rfl
theorem Gw.size {a b : World} (h : Gw a b) : a.heap.size ≤ b.heap.size := h.ext.size
end Go.Proofs.YtabajghokhfmhaaGreat
namespace Go.Proofs.YtabajghokhfmhaaGreat.Gg
open Go.RowKit
abbrev Prop1 := Value → World → Prop
abbrev Env := List (Tmp × Prop1)
def Stable (W : World) (R : Prop1) : Prop := ∀ v w w', Gw W w → R v w → Gw w w' → R v w'
def knows (A a : Act) (w : World) (E : Env) : List Operand → Prop
  | [] => True
  | x :: xs => (match x with
      | .tmp t => (match E.lookup t with
        | some R => R (A.eval x) w
        | none => A.eval x = a.eval x)
      | _ => A.eval x = a.eval x) ∧ knows A a w E xs
def Fr (w : World) (v : Value) (w' : World) : Prop := ∀ g, v = .pointer (some ⟨g, 0, none⟩) → w.heap.size ≤ g ∧ g < w'.heap.size
def Dist (D : List Tmp) (A : Act) : Prop := ∀ d ∈ D, ∀ d' ∈ D, d ≠ d' → ∀ g g', A.tmps.getD d undef = .pointer (some ⟨g, 0, none⟩) → A.tmps.getD d' undef = .pointer (some ⟨g', 0, none⟩) → g ≠ g'
def RunsI (P : Program) (D : List Tmp) (W : World) (a : Act) (E : Env) (o : Oper) (R : Prop1) : Prop :=
  ∀ A w, Gw W w → knows A a w E o.op.operands.toList → ∀ K : Act → World → Prop, (∀ v w', Gw w w' → R v w' → (∀ d ∈ D, o.dst = some d → Fr w v w') → K (A.put o.dst v) w') → o.wp P A w K (fun _ _ _ => False)
def doesI (P : Program) (ops : Array Oper) (D : List Tmp) (W : World) (a : Act) (E : Env) (o : Oper) (R : Prop1) : Prop :=
  (o.guard = none ∧ RunsI P D W a E o R) ∨
  ∃ g b tg Rg, o.guard = some (g, b) ∧ (ops[g]?).bind (·.dst) = some tg ∧ E.lookup tg = some Rg ∧
    ((∀ v w, Rg v w → v = .bool b) ∧ RunsI P D W a E o R ∨ (∀ v w, Rg v w → v ≠ .bool b) ∧ ∀ w, R undef w)
def fins (K : Act → World → Prop) (w : World) : Env → Act → Prop
  | [], a => K a w
  | (d, R) :: rest, a => ∀ v, R v w → fins K w rest (a.put (some d) v)
def walkI (P : Program) (ops : Array Oper) (D : List Tmp) (W : World) (a : Act) (K : Act → World → Prop) : List Oper → Env → Prop
  | [], E => ∀ w, Gw W w → fins K w E a
  | o :: rest, E => ∃ d R, o.dst = some d ∧ d < a.tmps.size ∧ Stable W R ∧ doesI P ops D W a E o R ∧ walkI P ops D W a K rest (E ++ [(d, R)])
def afters (ops : Array Oper) (i : Nat) : List Nat := match ops[i]? with
  | some o => (o.after.toList.filter (Region.binds .any)).map (·.on)
  | none => []
def need (ops : Array Oper) : Nat → Nat → Nat → Bool
  | 0, _, _ => false
  | f + 1, i, j => (afters ops i).any fun k => k == j || need ops f k j
def okPre (ops : Array Oper) (m i : Nat) : Bool := match ops[i]? with
  | some oi => (match oi.dst with
      | some d => (List.range m).all fun j => j == i || (ops[j]?).bind (·.dst) != some d
      | none => false) &&
    (oi.looksAt ops).all fun t => (List.range m).all fun j => (ops[j]?).bind (·.dst) != some t || (afters ops i).contains j
  | none => false
def okI (ops : Array Oper) (m : Nat) : Bool :=
  decide (m ≤ ops.size) && Region.noSelect ops && (List.range ops.size).all (fun i => (afters ops i).all fun j => decide (j < i)) &&
  (List.range m).all (okPre ops m) && (List.range ops.size).all (fun i => decide (i < m) || (List.range i).all fun j => need ops i i j)
section
variable {P : Program} {ops : Array Oper} {Q : Exit → Act → World → Prop}
structure StepI (P : Program) (ops : Array Oper) (D : List Tmp) (W : World) (a : Act) (E : Env) (i : Nat) (d : Tmp) (R : Prop1) : Prop where
  lt : d < a.tmps.size
  st : Stable W R
  go : ∃ o, ops[i]? = some o ∧ o.dst = some d ∧ doesI P ops D W a (E.take i) o R
theorem walkI_env {D : List Tmp} {W : World} {a : Act} {K : Act → World → Prop} : ∀ (l : List Oper) (E0 : Env), (∀ j o, l[j]? = some o → ops[E0.length + j]? = some o) → walkI P ops D W a K l E0 →
    ∃ E : Env, E.length = l.length ∧ (∀ i d R, E[i]? = some (d, R) → StepI P ops D W a (E0 ++ E) (E0.length + i) d R) ∧ ∀ w, Gw W w → fins K w (E0 ++ E) a := by
  intro l
  induction l with
  | nil => intro E0 _ h; exact ⟨[], rfl, by simp, by simpa [walkI] using h⟩
  | cons o rest ih =>
    intro E0 hl h
    obtain ⟨d, R, h1, h2, h3, h4, h5⟩ := h
    obtain ⟨E, e1, e2, e3⟩ := ih (E0 ++ [(d, R)]) (fun j o' hj => by
      have := hl (j + 1) o' (by simpa using hj)
      rw [← this]; congr 1; simp; omega) h5
    refine ⟨(d, R) :: E, by simp [e1], fun i d' R' hi => ?_, by simpa using e3⟩
    cases i with
    | zero =>
      simp only [List.getElem?_cons_zero, Option.some.injEq, Prod.mk.injEq] at hi
      obtain ⟨rfl, rfl⟩ := hi
      refine ⟨h2, h3, o, hl 0 o rfl, h1, ?_⟩
      have : (E0 ++ (d, R) :: E).take (E0.length + 0) = E0 := by simp
      rw [this]; exact h4
    | succ i =>
      have := e2 i d' R' (by simpa using hi)
      rw [List.append_assoc, List.singleton_append] at this
      have e : (E0 ++ [(d, R)]).length + i = E0.length + (i + 1) := by simp; omega
      rwa [e] at this
structure InvI (ops : Array Oper) (D : List Tmp) (m : Nat) (E : Env) (W : World) (a : Act) (listed : Array Bool) (A : Act) (w : World) : Prop where
  size : listed.size = ops.size
  clo : ∀ i, listed.getD i false = true → ∀ j ∈ afters ops i, listed.getD j false = true
  post : ∀ i, m ≤ i → listed.getD i false = false
  ext : Gw W w
  defs : A.defers = a.defers
  tsz : A.tmps.size = a.tmps.size
  same : ∀ t, (∀ i, i < m → listed.getD i false = true → (ops[i]?).bind (·.dst) ≠ some t) → A.tmps[t]? = a.tmps[t]?
  has : ∀ i d R, listed.getD i false = true → E[i]? = some (d, R) → R (A.tmps.getD d undef) w
  dlt : ∀ i d, i < m → listed.getD i false = true → (ops[i]?).bind (·.dst) = some d → d ∈ D → ∀ g, A.tmps.getD d undef = .pointer (some ⟨g, 0, none⟩) → g < w.heap.size
  dne : ∀ i j d d', i < m → j < m → i ≠ j → listed.getD i false = true → listed.getD j false = true → (ops[i]?).bind (·.dst) = some d → (ops[j]?).bind (·.dst) = some d' → d ∈ D → d' ∈ D →
    ∀ g g', A.tmps.getD d undef = .pointer (some ⟨g, 0, none⟩) → A.tmps.getD d' undef = .pointer (some ⟨g', 0, none⟩) → g ≠ g'
theorem need_listed {listed : Array Bool} (hc : ∀ i, listed.getD i false = true → ∀ j ∈ afters ops i, listed.getD j false = true) : ∀ (f i j : Nat), need ops f i j = true → (∀ k ∈ afters ops i, listed.getD k false = true) → listed.getD j false = true := by
  intro f
  induction f with
  | zero => intro i j h; simp [need] at h
  | succ f ih =>
    intro i j h hi
    simp only [need, List.any_eq_true, Bool.or_eq_true, beq_iff_eq] at h
    obtain ⟨k, hk, rfl | h⟩ := h
    · exact hi _ hk
    · exact ih k j h (hc k (hi k hk))
theorem mem_afters {i j : Nat} : j ∈ afters ops i ↔ ∃ o, ops[i]? = some o ∧ ∃ e ∈ o.after, Region.binds .any e = true ∧ e.on = j := by
  unfold afters
  cases h : ops[i]? with
  | none => simp
  | some o =>
    simp only [List.mem_map, List.mem_filter, Array.mem_toList_iff, Option.some.injEq]
    constructor
    · rintro ⟨e, ⟨h1, h2⟩, h3⟩; exact ⟨o, rfl, e, h1, h2, h3⟩
    · rintro ⟨_, rfl, e, h1, h2, h3⟩; exact ⟨e, ⟨h1, h2⟩, h3⟩
theorem ready_afters {i : Nat} {listed : Array Bool} : i ∈ Region.ready .any ops listed ↔ listed.getD i true = false ∧ (∃ o, ops[i]? = some o) ∧ ∀ j ∈ afters ops i, listed.getD j false = true := by
  rw [mem_ready]
  constructor
  · rintro ⟨h1, o, h2, h3⟩
    refine ⟨h1, ⟨o, h2⟩, fun j hj => ?_⟩
    obtain ⟨o', h4, e, h5, h6, rfl⟩ := mem_afters.1 hj
    rw [h2] at h4; cases h4
    exact h3 e h5 h6
  · rintro ⟨h1, ⟨o, h2⟩, h3⟩
    exact ⟨h1, o, h2, fun e he hb => h3 _ (mem_afters.2 ⟨o, h2, e, he, hb, rfl⟩)⟩
theorem getD_tf {listed : Array Bool} {i : Nat} (h : i < listed.size) : listed.getD i true = listed.getD i false := by
  simp [Array.getD_eq_getD_getElem?, h]
theorem env_get {E : Env} {i : Nat} (h : i < E.length) : ∃ d R, E[i]? = some (d, R) := ⟨E[i].1, E[i].2, by rw [List.getElem?_eq_getElem h]⟩
theorem lookup_getD {E : Env} {t : Tmp} {R : Prop1} (h : E.lookup t = some R) : ∃ i : Nat, E[i]? = some (t, R) := by
  induction E with
  | nil => simp at h
  | cons x xs ih =>
    obtain ⟨d, S⟩ := x
    rw [List.lookup_cons] at h
    cases hb : t == d with
    | true =>
      simp only [hb] at h
      cases h
      exact ⟨0, by simp [eq_of_beq hb]⟩
    | false =>
      simp only [hb] at h
      obtain ⟨i, hi⟩ := ih h
      exact ⟨i + 1, by simpa using hi⟩
theorem lookup_none {E : Env} {t : Tmp} (h : E.lookup t = none) : ∀ (i : Nat) (d : Tmp) (R : Prop1), E[i]? = some (d, R) → d ≠ t := by
  induction E with
  | nil => simp
  | cons x xs ih =>
    obtain ⟨d, S⟩ := x
    rw [List.lookup_cons] at h
    cases hb : t == d with
    | true => simp [hb] at h
    | false =>
      simp only [hb] at h
      intro i d' R hi
      cases i with
      | zero => simp at hi; obtain ⟨rfl, -⟩ := hi; intro e; subst e; simp at hb
      | succ i => exact ih h i d' R (by simpa using hi)
theorem wp_weaken {o : Oper} {A : Act} {w : World} {K : Act → World → Prop} (h : o.wp P A w K (fun _ _ _ => False)) : o.wp P A w K Q := by
  unfold Oper.wp at *
  generalize (execOp A.eval o).run P w = r at *
  cases r with
  | ok n w' =>
    cases n <;> simp only [Oper.upon] at h ⊢
    case enter f args =>
      refine Calls.mono h fun e w'' he => ?_
      cases e with
      | returned u => exact he
      | panicked c => exact he.elim
      | outgrown => obtain ⟨_, _, hf⟩ := he; exact hf.elim
    all_goals exact h
  | halt x w' => cases x <;> simp only [Oper.upon] at h
theorem wpAny_tail {m : Nat} (hlt : ∀ i j, j ∈ afters ops i → j < i) (hpost : ∀ i, m ≤ i → i < ops.size → ∀ j, j < i → need ops i i j = true) : ∀ (n i : Nat) (listed : Array Bool) (A : Act) (w : World), n + i = ops.size → m ≤ i → listed.size = ops.size →
    (∀ j, j < ops.size → listed.getD j false = decide (j < i)) → wpList P ops Q (ops.toList.drop i) A w → wpAny P .any ops Q n listed A w := by
  intro n
  induction n with
  | zero =>
    intro i listed A w hn hm hs hl h
    have hr : Region.ready .any ops listed = [] := by
      rw [List.eq_nil_iff_forall_not_mem]
      intro j hj
      obtain ⟨h1, ⟨o, h2⟩, -⟩ := ready_afters.1 hj
      have hj' : j < ops.size := (Array.getElem?_eq_some_iff.1 h2).1
      rw [getD_tf (by omega), hl j hj'] at h1
      simp at h1; omega
    rw [List.drop_of_length_le (by simp; omega)] at h
    exact ⟨hr, h⟩
  | succ n ih =>
    intro i listed A w hn hm hs hl h
    have hi : i < ops.size := by omega
    have hready : ∀ j, j ∈ Region.ready .any ops listed → j = i := by
      intro j hj
      obtain ⟨h1, ⟨o, h2⟩, h3⟩ := ready_afters.1 hj
      have hj' : j < ops.size := (Array.getElem?_eq_some_iff.1 h2).1
      rw [getD_tf (by omega), hl j hj'] at h1
      simp at h1
      rcases Nat.lt_or_ge i j with h4 | h4
      · have hcl : ∀ i', listed.getD i' false = true → ∀ j ∈ afters ops i', listed.getD j false = true := by
          intro i' hi' k hk
          have hk' := hlt i' k hk
          by_cases hb : i' < ops.size
          · rw [hl i' hb] at hi'
            rw [hl k (by omega)]
            simp at hi' ⊢; omega
          · simp [Array.getD_eq_getD_getElem?, Array.getElem?_eq_none (show listed.size ≤ i' by omega)] at hi'
        have := need_listed hcl j j i (hpost j (by omega) hj' i h4) h3
        rw [hl i hi] at this
        simp at this
      · omega
    have hii : i ∈ Region.ready .any ops listed := by
      rw [ready_afters]
      refine ⟨by rw [getD_tf (by omega), hl i hi]; simp, ⟨ops[i], by simp [hi]⟩, fun j hj => ?_⟩
      have := hlt i j hj
      rw [hl j (by omega)]; simp; exact this
    refine ⟨fun h0 => absurd hii (by rw [h0]; exact List.not_mem_nil), fun j hj => ?_⟩
    obtain rfl := hready j hj
    rw [List.drop_eq_getElem_cons (by simpa using hi)] at h
    have key : ∀ (A' : Act) (w' : World), wpList P ops Q (ops.toList.drop (j + 1)) A' w' → wpAny P .any ops Q n (listed.setIfInBounds j true) A' w' := by
      intro A' w' h'
      refine ih (j + 1) _ A' w' (by omega) (by omega) (by simpa using hs) (fun k hk => ?_) h'
      by_cases hkj : j = k
      · subst hkj; simp [Array.getD_eq_getD_getElem?, hs, hi]
      · rw [getD_set_ne _ hkj, hl k hk]
        simp only [decide_eq_decide]; omega
    unfold wpList at h
    unfold wpOp
    simp only [hi, getElem?_pos]
    simp only [Array.getElem_toList] at h
    split
    · rename_i hw
      rw [if_pos hw] at h
      exact h.imp (Oper.wp_mono key) id
    · rename_i hw
      rw [if_neg hw] at h
      exact key _ _ h
theorem fins_done {K : Act → World → Prop} {w : World} : ∀ (E : Env) (a A : Act), A.defers = a.defers → A.tmps.size = a.tmps.size → (∀ (i : Nat) (d : Tmp) (R : Prop1), E[i]? = some (d, R) → d < a.tmps.size ∧ R (A.tmps.getD d undef) w) → (∀ t, (∀ (i : Nat) (d : Tmp) (R : Prop1), E[i]? = some (d, R) → d ≠ t) → A.tmps[t]? = a.tmps[t]?) → fins K w E a → K A w := by
  intro E
  induction E with
  | nil =>
    intro a A hd hs _ ht h
    have : A = a := by
      cases A; cases a
      simp only at hd hs ht
      subst hd
      congr 1
      refine Array.ext_getElem? fun i => ht i (by simp)
    subst this; exact h
  | cons x xs ih =>
    obtain ⟨d, R⟩ := x
    intro a A hd hs hh ht h
    obtain ⟨h1, h2⟩ := hh 0 d R rfl
    refine ih (a.put (some d) (A.tmps.getD d undef)) A hd (by simpa [Act.put] using hs) (fun i d' R' hi => ?_) (fun t hx => ?_) (h _ h2)
    · have := hh (i + 1) d' R' (by simpa using hi)
      exact ⟨by simpa [Act.put] using this.1, this.2⟩
    · by_cases hdt : d = t
      · subst hdt
        simp only [Act.put]
        rw [Array.getElem?_setIfInBounds_self_of_lt h1]
        have : d < A.tmps.size := by rw [hs]; exact h1
        simp [Array.getD_eq_getD_getElem?, this]
      · rw [ht t fun i d' R' hi => ?_]
        · simp only [Act.put]; rw [Array.getElem?_setIfInBounds_ne hdt]
        · cases i with
          | zero => simp at hi; obtain ⟨rfl, -⟩ := hi; exact hdt
          | succ i => exact hx i d' R' (by simpa using hi)
theorem wpAny_region_D (m : Nat) (D : List Tmp) {a : Act} {W : World} (hc : okI ops m = true) (hD : (D.all fun d => (List.range m).any fun i => (ops[i]?).bind (·.dst) == some d) = true)
    (h : walkI P ops D W a (fun A w => Dist D A → wpList P ops Q (ops.toList.drop m) A w) (ops.toList.take m) []) : wpAny P .any ops Q ops.size (Array.replicate ops.size false) a { W with drawn := W.drawn + 1 } := by
  simp only [okI, Bool.and_eq_true, decide_eq_true_eq, List.all_eq_true, List.mem_range, Bool.or_eq_true] at hc
  obtain ⟨⟨⟨⟨hm1, hsel⟩, hlt'⟩, hpre⟩, hpost'⟩ := hc
  have hlt : ∀ i j, j ∈ afters ops i → j < i := by
    intro i j hj
    by_cases hi : i < ops.size
    · exact hlt' i hi j hj
    · obtain ⟨o, ho, -⟩ := mem_afters.1 hj
      rw [Array.getElem?_eq_none (by omega)] at ho; cases ho
  have hpost : ∀ i, m ≤ i → i < ops.size → ∀ j, j < i → need ops i i j = true := by
    intro i h1 h2 j hj
    rcases hpost' i h2 with h3 | h3
    · omega
    · exact h3 j hj
  obtain ⟨E, e1, e2, e3⟩ := walkI_env (ops := ops) (ops.toList.take m) [] (fun j o hj => by
    rw [List.getElem?_take] at hj
    split at hj
    · simpa using hj
    · cases hj) h
  simp only [List.nil_append, List.length_nil, Nat.zero_add] at e2 e3
  have hEl : E.length = m := by rw [e1]; simp; omega
  have dstE : ∀ (i : Nat) (d : Tmp) (R : Prop1), E[i]? = some (d, R) → (ops[i]?).bind (·.dst) = some d ∧ i < m := by
    intro i d R hi
    obtain ⟨o, h1, h2, -⟩ := (e2 i d R hi).go
    exact ⟨by simp [h1, h2], by rw [← hEl]; exact (List.getElem?_eq_some_iff.1 hi).1⟩
  have distinct : ∀ (i j : Nat) (d : Tmp), i < m → j < m → (ops[i]?).bind (·.dst) = some d → (ops[j]?).bind (·.dst) = some d → i = j := by
    intro i j d hi hj h1 h2
    have := hpre i hi
    unfold okPre at this
    cases ho : ops[i]? with
    | none => simp [ho] at h1
    | some o =>
      simp only [ho, Option.bind_some] at h1 this
      simp only [h1, Bool.and_eq_true, List.all_eq_true, List.mem_range, Bool.or_eq_true, beq_iff_eq, bne_iff_ne] at this
      rcases this.1 j hj with h3 | h3
      · exact h3.symm
      · exact absurd h2 h3
  have distOf : ∀ (listed : Array Bool) (A : Act) (w : World), InvI ops D m E W a listed A w → (∀ i, i < m → listed.getD i false = true) → Dist D A := by
    intro listed A w hI hall d hd d' hd' hne g g' hg hg'
    simp only [List.all_eq_true, List.any_eq_true, List.mem_range, beq_iff_eq] at hD
    obtain ⟨i, hi, h1⟩ := hD d hd
    obtain ⟨j, hj, h2⟩ := hD d' hd'
    refine hI.dne i j d d' hi hj (fun e => ?_) (hall i hi) (hall j hj) h1 h2 hd hd' g g' hg hg'
    subst e
    rw [h1] at h2
    exact hne (Option.some.inj h2)
  have main : ∀ (n : Nat) (listed : Array Bool) (A : Act) (w : World), (List.range ops.size).countP (fun i => !listed.getD i false) = n → InvI ops D m E W a listed A w → wpAny P .any ops Q n listed A w := by
    intro n
    induction n with
    | zero =>
      intro listed A w hn hI
      by_cases hmn : m < ops.size
      · exfalso
        rw [List.countP_eq_zero] at hn
        have := hn m (List.mem_range.2 hmn)
        rw [hI.post m (Nat.le_refl _)] at this
        simp at this
      · have hall : ∀ i, i < ops.size → listed.getD i false = true := by
          intro i hi
          rw [List.countP_eq_zero] at hn
          have := hn i (List.mem_range.2 hi)
          simpa using this
        have hmm : m = ops.size := by omega
        have hall' : ∀ i, i < m → listed.getD i false = true := fun i hi => hall i (by omega)
        refine wpAny_tail (m := m) hlt hpost 0 ops.size listed A w (by omega) (by omega) hI.size (fun j hj => by rw [hall j hj]; simp [hj]) ?_
        have hdist : Dist D A := distOf listed A w hI hall'
        have := fins_done E a A hI.defs hI.tsz (fun i d R hi => ⟨(e2 i d R hi).lt, hI.has i d R (hall i (by have := (dstE i d R hi).2; omega)) hi⟩) (fun t ht => hI.same t fun i hi _ hdi => by
          have hiE : i < E.length := by omega
          obtain ⟨d, R, hx'⟩ := env_get hiE
          have h5 := (dstE i d R hx').1
          rw [hdi] at h5
          cases h5
          exact ht i _ R hx' rfl) (e3 w hI.ext)
        have := this hdist
        rw [hmm] at this; exact this
    | succ n ih =>
      intro listed A w hn hI
      have hsz := hI.size
      by_cases hall : ∀ i, i < m → listed.getD i false = true
      · -- all of the first part are done
        have hdone := fins_done E a A hI.defs hI.tsz (fun i d R hi => ⟨(e2 i d R hi).lt, hI.has i d R (hall i (dstE i d R hi).2) hi⟩) (fun t ht => hI.same t fun i hi _ hdi => by
          have hiE : i < E.length := by omega
          obtain ⟨d, R, hx'⟩ := env_get hiE
          have h5 := (dstE i d R hx').1
          rw [hdi] at h5
          cases h5
          exact ht i _ R hx' rfl) (e3 w hI.ext)
        have hdone := hdone (distOf listed A w hI hall)
        have hl : ∀ j, j < ops.size → listed.getD j false = decide (j < m) := by
          intro j hj
          by_cases hjm : j < m
          · rw [hall j hjm]; simp [hjm]
          · rw [hI.post j (by omega)]; simp [hjm]
        have hcount : n + 1 + m = ops.size := by
          have h1 : (List.range ops.size).countP (fun i => !listed.getD i false) = (List.range ops.size).countP (fun i => decide (m ≤ i)) := by
            refine List.countP_congr fun i hi => ?_
            rw [hl i (List.mem_range.1 hi)]
            by_cases hx : i < m <;> simp [hx] <;> omega
          have h2 : ∀ k, (List.range k).countP (fun i => decide (m ≤ i)) = k - m := by
            intro k
            induction k with
            | zero => simp
            | succ k ihk =>
              rw [List.range_succ, List.countP_append, ihk]
              by_cases hx : m ≤ k
              · simp [hx]; omega
              · simp [hx]; omega
          rw [h1, h2] at hn; omega
        exact wpAny_tail (m := m) hlt hpost (n + 1) m listed A w hcount (Nat.le_refl _) hsz hl hdone
      · refine ⟨fun h0 => ?_, fun i hi => ?_⟩
        · -- some op is ready
          exfalso
          apply hall
          intro i
          induction i using Nat.strongRecOn with
          | ind i ihi =>
            intro him
            cases hx : listed.getD i false with
            | true => rfl
            | false =>
              have : i ∈ Region.ready .any ops listed := by
                rw [ready_afters]
                refine ⟨by rw [getD_tf (by omega)]; exact hx, ⟨ops[i]'(by omega), by simp [show i < ops.size by omega]⟩, fun j hj => ?_⟩
                have := hlt i j hj
                exact ihi j this (by omega)
              rw [h0] at this; cases this
        · obtain ⟨h1, ⟨oi, h2⟩, h3⟩ := ready_afters.1 hi
          have hio : i < ops.size := (Array.getElem?_eq_some_iff.1 h2).1
          have him : i < m := by
            rcases Nat.lt_or_ge i m with h | h
            · exact h
            · exfalso
              apply hall
              intro j hj
              exact need_listed hI.clo i i j (hpost i h hio j (by omega)) h3
          rw [getD_tf (by omega)] at h1
          have hiE : i < E.length := by omega
          obtain ⟨d, R, hx'⟩ := env_get hiE
          have hst := e2 i d R hx'
          obtain ⟨o', ho', hdst, hdo⟩ := hst.go
          obtain rfl : o' = oi := by rw [h2] at ho'; exact (Option.some.inj ho').symm
          have hok := hpre i him
          simp only [okPre, h2, hdst, Bool.and_eq_true, List.all_eq_true, List.mem_range, Bool.or_eq_true, beq_iff_eq, bne_iff_ne, List.contains_iff_mem] at hok
          -- what the operands are
          have hslot : ∀ t, t ∈ o'.looksAt ops → (∀ R', (E.take i).lookup t = some R' → R' (A.tmps.getD t undef) w) ∧ ((E.take i).lookup t = none → A.tmps[t]? = a.tmps[t]?) := by
            intro t ht
            refine ⟨fun R' hR' => ?_, fun hn' => ?_⟩
            · obtain ⟨j, hj⟩ := lookup_getD hR'
              have hji : j < i := by
                have := (List.getElem?_eq_some_iff.1 hj).1
                rw [List.length_take] at this; omega
              rw [List.getElem?_take, if_pos hji] at hj
              have hdj := dstE j t R' hj
              rcases hok.2 t ht j hdj.2 with h4 | h4
              · exact absurd hdj.1 h4
              · exact hI.has j t R' (h3 j h4) hj
            · refine hI.same t fun j hj hlj hdj => ?_
              rcases hok.2 t ht j hj with h4 | h4
              · exact h4 hdj
              · have hji := hlt i j h4
                have hjE : j < E.length := by omega
                obtain ⟨d', R', hy'⟩ := env_get hjE
                have h5 := (dstE j d' R' hy').1
                rw [hdj] at h5
                cases h5
                exact lookup_none hn' j t R' (by rw [List.getElem?_take, if_pos hji]; exact hy') rfl
          have hknow : ∀ l : List Operand, (∀ x ∈ l, ∀ t, x = .tmp t → t ∈ o'.looksAt ops) → knows A a w (E.take i) l := by
            intro l
            induction l with
            | nil => intro _; trivial
            | cons x xs ihx =>
              intro hl
              refine ⟨?_, ihx fun y hy => hl y (by simp [hy])⟩
              cases x with
              | tmp t =>
                have hs := hslot t (hl _ (by simp) t rfl)
                simp only []
                cases hlk : (E.take i).lookup t with
                | some R' =>
                  simp only []
                  have := hs.1 R' hlk
                  simpa [Act.eval] using this
                | none =>
                  simp only []
                  have := hs.2 hlk
                  simp only [Act.eval, Array.getD_eq_getD_getElem?, this]
              | _ => rfl
          have hops : knows A a w (E.take i) o'.op.operands.toList := hknow _ fun x hx t ht => by
            subst ht
            exact List.mem_append_left _ (List.mem_filterMap.2 ⟨.tmp t, hx, rfl⟩)
          -- behind it
          have key : ∀ v w', Gw w w' → R v w' → (∀ e ∈ D, o'.dst = some e → Fr w v w') → wpAny P .any ops Q n (listed.setIfInBounds i true) (A.put o'.dst v) w' := by
            intro v w' hww hR hFr
            have hdA : d < A.tmps.size := by rw [hI.tsz]; exact hst.lt
            refine ih _ _ _ ?_ ?_
            · have h6 : (List.range ops.size).countP (fun k => !listed.getD k false) = (List.range ops.size).countP (fun k => !(listed.setIfInBounds i true).getD k false) + 1 := by
                have gen : ∀ (l : List Nat), l.Nodup → i ∈ l → l.countP (fun k => !listed.getD k false) = l.countP (fun k => !(listed.setIfInBounds i true).getD k false) + 1 := by
                  intro l
                  induction l with
                  | nil => intro _ h; cases h
                  | cons x xs ihl =>
                    intro hnd hmem
                    rw [List.nodup_cons] at hnd
                    rcases List.mem_cons.1 hmem with rfl | hmem
                    · have h7 : xs.countP (fun k => !listed.getD k false) = xs.countP (fun k => !(listed.setIfInBounds i true).getD k false) := by
                        refine List.countP_congr fun k hk => ?_
                        rw [getD_set_ne _ (fun e => hnd.1 (by rw [e]; exact hk))]
                      rw [List.countP_cons, List.countP_cons, h7]
                      have h8 : (listed.setIfInBounds i true).getD i false = true := by simp [Array.getD_eq_getD_getElem?, show i < listed.size by omega]
                      rw [h1, h8]; simp
                    · have hne : i ≠ x := fun e => hnd.1 (by rw [← e]; exact hmem)
                      rw [List.countP_cons, List.countP_cons, ihl hnd.2 hmem, getD_set_ne _ hne]; omega
                exact gen _ List.nodup_range (List.mem_range.2 hio)
              omega
            · refine ⟨by simpa using hI.size, fun k hk j hj => ?_, fun k hk => ?_, Gw.then hI.ext hww, by rw [hdst]; exact hI.defs, by rw [hdst]; simpa [Act.put] using hI.tsz, fun t ht => ?_, fun k d' R' hk hE' => ?_, fun k d' hk hlk hdk hdD g hg => ?_, fun k l d1 d2 hk hl hkl hlk hll hdk hdl h1D h2D g g' hg hg' => ?_⟩
              · by_cases hki : i = k
                · subst hki
                  have := h3 j hj
                  exact getD_set_true this
                · rw [getD_set_ne _ hki] at hk
                  exact getD_set_true (hI.clo k hk j hj)
              · rw [getD_set_ne _ (by omega)]; exact hI.post k hk
              · have hdt : d ≠ t := by
                  intro e; subst e
                  exact ht i him (by simp [Array.getD_eq_getD_getElem?, show i < listed.size by omega]) (by simp [h2, hdst])
                rw [hdst]
                simp only [Act.put]
                rw [Array.getElem?_setIfInBounds_ne hdt]
                exact hI.same t fun k hk hlk => ht k hk (getD_set_true hlk)
              · by_cases hki : i = k
                · subst hki
                  rw [hx'] at hE'
                  cases hE'
                  rw [hdst]
                  simp only [Act.put]
                  have : (A.tmps.setIfInBounds d v).getD d undef = v := by simp [Array.getD_eq_getD_getElem?, hdA]
                  rw [this]; exact hR
                · rw [getD_set_ne _ hki] at hk
                  have h7 := hI.has k d' R' hk hE'
                  have hne : d ≠ d' := fun e => by
                    subst e
                    have h8 := dstE k d R' hE'
                    exact hki (distinct i k d him h8.2 (by simp [h2, hdst]) h8.1)
                  rw [hdst]
                  simp only [Act.put]
                  have : (A.tmps.setIfInBounds d v).getD d' undef = A.tmps.getD d' undef := by simp [Array.getD_eq_getD_getElem?, Array.getElem?_setIfInBounds_ne hne]
                  rw [this]
                  exact (e2 k d' R' hE').st _ _ _ hI.ext h7 hww
              · by_cases hki : i = k
                · subst hki
                  obtain rfl : d' = d := by rw [h2, Option.bind_some, hdst] at hdk; exact (Option.some.inj hdk).symm
                  rw [hdst] at hg
                  simp only [Act.put] at hg
                  have : (A.tmps.setIfInBounds d' v).getD d' undef = v := by simp [Array.getD_eq_getD_getElem?, hdA]
                  rw [this] at hg
                  exact (hFr d' hdD hdst g hg).2
                · rw [getD_set_ne _ hki] at hlk
                  have hne : d ≠ d' := fun e => by
                    subst e
                    exact hki (distinct i k d him hk (by simp [h2, hdst]) hdk)
                  rw [hdst] at hg
                  simp only [Act.put] at hg
                  have : (A.tmps.setIfInBounds d v).getD d' undef = A.tmps.getD d' undef := by simp [Array.getD_eq_getD_getElem?, Array.getElem?_setIfInBounds_ne hne]
                  rw [this] at hg
                  have := hI.dlt k d' hk hlk hdk hdD g hg
                  have := hww.size
                  omega
              · have slotO : ∀ k d', k < m → k ≠ i → (ops[k]?).bind (·.dst) = some d' → (A.put o'.dst v).tmps.getD d' undef = A.tmps.getD d' undef := by
                  intro k d' hk hki hdk
                  have hne : d ≠ d' := fun e => by
                    subst e
                    exact hki (distinct i k d him hk (by simp [h2, hdst]) hdk).symm
                  rw [hdst]
                  simp only [Act.put]
                  simp [Array.getD_eq_getD_getElem?, Array.getElem?_setIfInBounds_ne hne]
                have slotI : ∀ d', (ops[i]?).bind (·.dst) = some d' → (A.put o'.dst v).tmps.getD d' undef = v ∧ o'.dst = some d' := by
                  intro d' hdk
                  obtain rfl : d' = d := by rw [h2, Option.bind_some, hdst] at hdk; exact (Option.some.inj hdk).symm
                  refine ⟨?_, hdst⟩
                  rw [hdst]
                  simp only [Act.put]
                  simp [Array.getD_eq_getD_getElem?, hdA]
                by_cases hki : i = k
                · subst hki
                  have a1 := slotI d1 hdk
                  rw [a1.1] at hg
                  rw [slotO l d2 hl (Ne.symm hkl) hdl] at hg'
                  rw [getD_set_ne _ hkl] at hll
                  have b1 := hFr d1 h1D a1.2 g hg
                  have b2 := hI.dlt l d2 hl hll hdl h2D g' hg'
                  omega
                · rw [getD_set_ne _ hki] at hlk
                  rw [slotO k d1 hk (Ne.symm hki) hdk] at hg
                  by_cases hli : i = l
                  · subst hli
                    have a1 := slotI d2 hdl
                    rw [a1.1] at hg'
                    have b1 := hFr d2 h2D a1.2 g' hg'
                    have b2 := hI.dlt k d1 hk hlk hdk h1D g hg
                    omega
                  · rw [getD_set_ne _ hli] at hll
                    rw [slotO l d2 hl (Ne.symm hli) hdl] at hg'
                    exact hI.dne k l d1 d2 hk hl hkl hlk hll hdk hdl h1D h2D g g' hg hg'
          unfold wpOp
          simp only [h2]
          have runs : RunsI P D W a (E.take i) o' R → o'.wp P A w (wpAny P .any ops Q n (listed.setIfInBounds i true)) Q := fun hr => wp_weaken (hr A w hI.ext hops _ key)
          rcases hdo with ⟨hg, hr⟩ | ⟨g, b, tg, Rg, hg, htg, hlk, hcase⟩
          · rw [if_pos (by simp [Region.wanted, hg])]
            exact .inl (runs hr)
          · have hsg := (hslot tg (List.mem_append_right _ (by simp [hg, htg]))).1 Rg hlk
            obtain ⟨jg, hjg⟩ := lookup_getD hlk
            have hjg' : E[jg]? = some (tg, Rg) := by
              rw [List.getElem?_take] at hjg
              split at hjg
              · exact hjg
              · cases hjg
            have htsz : tg < A.tmps.size := by rw [hI.tsz]; exact (e2 jg tg Rg hjg').lt
            have hyl : ∀ c, A.tmps.getD tg undef = .bool c → yielded ops A.tmps g = some c := by
              intro c hcv
              have : A.tmps[tg]? = some (.bool c) := by
                rw [← hcv]; simp [Array.getD_eq_getD_getElem?, htsz]
              simp [yielded, htg, this]
            rcases hcase with ⟨h4, hr⟩ | ⟨h4, h5⟩
            · rw [if_pos (by simp [Region.wanted, hg, hyl b (h4 _ _ hsg)])]
              exact .inl (runs hr)
            · rw [if_neg (by
                simp only [Region.wanted, hg, beq_iff_eq]
                intro hy
                refine h4 _ _ hsg ?_
                unfold yielded at hy
                simp only [htg, Option.bind_some] at hy
                split at hy
                · rename_i c hc
                  cases hy
                  simp [Array.getD_eq_getD_getElem?, hc]
                · cases hy)]
              exact key undef w (Gw.rfl' w) (h5 w) (fun _ _ _ g hg => by cases hg)
  have h0 : (List.range ops.size).countP (fun i => !(Array.replicate ops.size false).getD i false) = ops.size := by
    have : (List.range ops.size).countP (fun i => !(Array.replicate ops.size false).getD i false) = (List.range ops.size).length := by
      rw [List.countP_eq_length]
      intro i hi
      have := List.mem_range.1 hi
      simp [Array.getD_eq_getD_getElem?, this]
    rw [this, List.length_range]
  have hf : ∀ i, (Array.replicate ops.size false).getD i false = false := by
    intro i
    by_cases h : i < ops.size
    · simp [Array.getD_eq_getD_getElem?, h]
    · simp [Array.getD_eq_getD_getElem?, Array.getElem?_eq_none, show ops.size ≤ i by omega]
  exact main ops.size _ a _ h0 ⟨by simp, fun i hi => absurd hi (by rw [hf]; simp), fun i _ => hf i, Gw.drew' (Gw.rfl' W), rfl, rfl, fun _ _ => rfl, fun i d R hi => absurd hi (by rw [hf]; simp), fun i d _ hi => absurd hi (by rw [hf]; simp), fun i j d d' _ _ _ hi => absurd hi (by rw [hf]; simp)⟩
theorem wp_region_D (m : Nat) (D : List Tmp) {id : Nat} {a : Act} {W : World} (hm : P.follows .mixedOrders = true) (hc : okI ops m = true) (hD : (D.all fun d => (List.range m).any fun i => (ops[i]?).bind (·.dst) == some d) = true)
    (h : walkI P ops D W a (fun A w => Dist D A → wpList P ops Q (ops.toList.drop m) A w) (ops.toList.take m) []) : (Code.region id ops true).wp P Q a W :=
  wp_region_any hm (wpAny_region_D m D hc hD h)
theorem wp_region_I (m : Nat) {id : Nat} {a : Act} {W : World} (hm : P.follows .mixedOrders = true) (hc : okI ops m = true)
    (h : walkI P ops [] W a (fun A w => wpList P ops Q (ops.toList.drop m) A w) (ops.toList.take m) []) : (Code.region id ops true).wp P Q a W := by
  refine wp_region_D m [] hm hc rfl ?_
  have : (fun A w => Dist [] A → wpList P ops Q (ops.toList.drop m) A w) = fun A w => wpList P ops Q (ops.toList.drop m) A w := by
    funext A w
    exact propext ⟨fun h => h (fun _ h => by cases h), fun h _ => h⟩
  rw [this]; exact h
abbrev Is (u : Value) : Prop1 := fun v _ => v = u
theorem walkI_step {D : List Tmp} {W : World} {a : Act} {K : Act → World → Prop} {o : Oper} {rest : List Oper} {E : Env} {d : Tmp} (R : Prop1) (hd : o.dst = some d) (hl : d < a.tmps.size) (hg : o.guard = none) (hs : Stable W R)
    (hr : ∀ A w, Gw W w → knows A a w E o.op.operands.toList → ∀ K : Act → World → Prop, (∀ v w', Gw w w' → R v w' → K (A.put (some d) v) w') → o.wp P A w K (fun _ _ _ => False))
    (h : walkI P ops D W a K rest (E ++ [(d, R)])) (hn : d ∉ D := by simp) : walkI P ops D W a K (o :: rest) E :=
  ⟨d, R, hd, hl, hs, .inl ⟨hg, by
    unfold RunsI; rw [hd]
    exact fun A w h1 h2 K hK => hr A w h1 h2 K fun v w' h3 h4 => hK v w' h3 h4 fun e he hde => by cases hde; exact absurd he hn⟩, h⟩
theorem walkI_is {D : List Tmp} {W : World} {a : Act} {K : Act → World → Prop} {o : Oper} {rest : List Oper} {E : Env} {d : Tmp} {u : Value} (hd : o.dst = some d) (hl : d < a.tmps.size) (hg : o.guard = none)
    (hr : ∀ A w, Gw W w → knows A a w E o.op.operands.toList → ∀ K : Act → World → Prop, (∀ w', Gw w w' → K (A.put (some d) u) w') → o.wp P A w K (fun _ _ _ => False))
    (h : walkI P ops D W a K rest (E ++ [(d, Is u)])) (hn : d ∉ D := by simp) : walkI P ops D W a K (o :: rest) E :=
  walkI_step (Is u) hd hl hg (fun _ _ _ _ h _ => h) (fun A w hw hk K hK => hr A w hw hk K fun w' hw' => hK u w' hw' rfl) h hn
theorem walkI_yes {D : List Tmp} {W : World} {a : Act} {K : Act → World → Prop} {o : Oper} {rest : List Oper} {E : Env} {d g tg : Nat} {b : Bool} (R : Prop1) (hd : o.dst = some d) (hl : d < a.tmps.size) (hg : o.guard = some (g, b)) (htg : (ops[g]?).bind (·.dst) = some tg) (hlk : E.lookup tg = some (Is (.bool b))) (hs : Stable W R)
    (hr : ∀ A w, Gw W w → knows A a w E o.op.operands.toList → ∀ K : Act → World → Prop, (∀ v w', Gw w w' → R v w' → K (A.put (some d) v) w') → o.wp P A w K (fun _ _ _ => False))
    (h : walkI P ops D W a K rest (E ++ [(d, R)])) (hn : d ∉ D := by simp) : walkI P ops D W a K (o :: rest) E :=
  ⟨d, R, hd, hl, hs, .inr ⟨g, b, tg, _, hg, htg, hlk, .inl ⟨fun _ _ h => h, by
    unfold RunsI; rw [hd]
    exact fun A w h1 h2 K hK => hr A w h1 h2 K fun v w' h3 h4 => hK v w' h3 h4 fun e he hde => by cases hde; exact absurd he hn⟩⟩, h⟩
theorem walkI_yesis {D : List Tmp} {W : World} {a : Act} {K : Act → World → Prop} {o : Oper} {rest : List Oper} {E : Env} {d g tg : Nat} {b : Bool} {u : Value} (hd : o.dst = some d) (hl : d < a.tmps.size) (hg : o.guard = some (g, b)) (htg : (ops[g]?).bind (·.dst) = some tg) (hlk : E.lookup tg = some (Is (.bool b)))
    (hr : ∀ A w, Gw W w → knows A a w E o.op.operands.toList → ∀ K : Act → World → Prop, (∀ w', Gw w w' → K (A.put (some d) u) w') → o.wp P A w K (fun _ _ _ => False))
    (h : walkI P ops D W a K rest (E ++ [(d, Is u)])) (hn : d ∉ D := by simp) : walkI P ops D W a K (o :: rest) E :=
  walkI_yes (Is u) hd hl hg htg hlk (fun _ _ _ _ h _ => h) (fun A w hw hk K hK => hr A w hw hk K fun w' hw' => hK u w' hw' rfl) h hn
theorem wiA {D : List Tmp} {W : World} {a : Act} {K : Act → World → Prop} {o : Oper} {rest : List Oper} {E : Env} {d : Tmp} {u : Value} (hd : o.dst = some d) (hl : d < a.tmps.size) (hg : o.guard = none) (h : walkI P ops D W a K rest (E ++ [(d, Is u)])) (hr : ∀ A w, Gw W w → knows A a w E o.op.operands.toList → ∀ K : Act → World → Prop, (∀ w', Gw w w' → K (A.put (some d) u) w') → o.wp P A w K (fun _ _ _ => False) := by intro A w' hS hA K hK; simp only [List.map_cons, List.map_nil, Gg.knows, Gg.Is, Op.operands, Call.operands, List.lookup_cons, List.lookup_nil, Nat.reduceBEq, Bool.false_eq_true, if_false, if_true, Act.eval, Array.getD_eq_getD_getElem?, List.getElem?_toArray, List.getElem?_cons_succ, List.getElem?_cons_zero, Option.getD_some, and_true, true_and, List.append_toArray, List.nil_append, List.cons_append, List.toList_toArray, Array.toList_append, Option.toArray, List.append_nil] at hA; obtain ⟨hSc, hSf, hSs⟩ := hS.ext.cells; go_simp; exact hK _ (by first | exact Gw.rfl' _ | exact Gw.new _ _ | assumption)) (hn : d ∉ D := by simp) : walkI P ops D W a K (o :: rest) E := walkI_is hd hl hg hr h hn
theorem wyA {D : List Tmp} {W : World} {a : Act} {K : Act → World → Prop} {o : Oper} {rest : List Oper} {E : Env} {d g tg : Tmp} {u : Value} {b : Bool} (hd : o.dst = some d) (hl : d < a.tmps.size) (hg : o.guard = some (g, b)) (htg : (ops[g]?).bind (·.dst) = some tg) (hlk : E.lookup tg = some (Is (.bool b))) (h : walkI P ops D W a K rest (E ++ [(d, Is u)])) (hr : ∀ A w, Gw W w → knows A a w E o.op.operands.toList → ∀ K : Act → World → Prop, (∀ w', Gw w w' → K (A.put (some d) u) w') → o.wp P A w K (fun _ _ _ => False) := by intro A w' hS hA K hK; simp only [List.map_cons, List.map_nil, Gg.knows, Gg.Is, Op.operands, Call.operands, List.lookup_cons, List.lookup_nil, Nat.reduceBEq, Bool.false_eq_true, if_false, if_true, Act.eval, Array.getD_eq_getD_getElem?, List.getElem?_toArray, List.getElem?_cons_succ, List.getElem?_cons_zero, Option.getD_some, and_true, true_and, List.append_toArray, List.nil_append, List.cons_append, List.toList_toArray, Array.toList_append, Option.toArray, List.append_nil] at hA; obtain ⟨hSc, hSf, hSs⟩ := hS.ext.cells; go_simp; exact hK _ (by first | exact Gw.rfl' _ | exact Gw.new _ _ | assumption)) (hn : d ∉ D := by simp) : walkI P ops D W a K (o :: rest) E := walkI_yesis hd hl hg htg hlk hr h hn
theorem walkI_nil {D : List Tmp} {W : World} {a : Act} {K : Act → World → Prop} {E : Env} (h : ∀ w, Gw W w → fins K w E a) : walkI P ops D W a K [] E := h
end
end Go.Proofs.YtabajghokhfmhaaGreat.Gg
namespace Go.Proofs.YtabajghokhfmhaaGreat
open Go.RowKit Go.Shelf Go.Lib Go.Sort
set_option linter.unusedSectionVars false
theorem Gw.drewN' {a b : World} (h : Gw a b) (n : Nat) : Gw a (b.drewN n) := h.then ⟨n, #[], by rw [grow_empty]⟩
set_option maxRecDepth 100000 in
set_option maxHeartbeats 1000000 in
theorem less_g (a b : En) (w : World) (ha : a.bd) (hb : b.bd) : Calls Tryz.prog 184 #[enA a, enA b] w (fun e w' => e = .returned (.bool (lessE a b)) ∧ Gw w w') := by
  obtain ⟨f, ⟨n, d⟩, t⟩ := a
  obtain ⟨f', ⟨n', d'⟩, t'⟩ := b
  obtain ⟨-, -, a1, a2, a3, a4⟩ := ha
  obtain ⟨-, -, b1, b2, b3, b4⟩ := hb
  dsimp only at a1 a2 a3 a4 b1 b2 b3 b4
  have m1 := mul_bd a1 a2 b3 b4
  have m2 := mul_bd b1 b2 a3 a4
  have w1 : IntKind.i64.wrap (n * d') = n * d' := wrap_id (by omega) (by omega)
  have w2 : IntKind.i64.wrap (n' * d) = n' * d := wrap_id (by omega) (by omega)
  clear a1 a2 a3 a4 b1 b2 b3 b4
  unfold enA
  dsimp only
  have hx : Gw w ((w.alloc (.cells #[.int .i64 f, .int .i64 n, .int .i64 d, .bool t] 214)).alloc (.cells #[.int .i64 f', .int .i64 n', .int .i64 d', .bool t'] 214)) := (Gw.new _ _).then (Gw.new _ _)
  by_cases hf : f = f'
  · subst hf
    by_cases h0 : f = 0
    · subst h0
      have hs : Hid (lessE ⟨0, ⟨n, d⟩, t⟩ ⟨0, ⟨n', d'⟩, t'⟩ = if n * d' ≠ n' * d then decide (n * d' < n' * d) else (!t && t')) := by
        show _ = _
        unfold lessE
        rw [if_neg (by simp), if_neg (by simp)]
      have w3 : wrap64 (n * d') = n * d' := wrap64_id (by omega) (by omega)
      have w4 : wrap64 (n' * d) = n' * d := wrap64_id (by omega) (by omega)
      generalize lessE _ _ = q at hs ⊢
      by_cases hxy : n * d' = n' * d
      · rw [if_neg (by simpa using hxy)] at hs
        replace hxy := Lib.hid hxy
        go_enter Tryz.func184, Tryz.ntmps184
        go_wp2_with fail
        go_quiet (fail)
        rw [hxy.out]
        generalize n' * d = y at *
        cases t <;> (go_wp2_with fail; go_ret; exact ⟨ret_bool (by rw [hs.out]; first | rfl | simp), (by first | exact hx | exact hx.drewN' _)⟩)
      · rw [if_pos hxy] at hs
        go_enter Tryz.func184, Tryz.ntmps184
        go_wp2_with fail
        go_quiet (fail)
        have hb : (n * d' != n' * d) = true := by simpa using hxy
        generalize n * d' = x at *
        generalize n' * d = y at *
        clear w1 w2 w3 w4
        go_wp2_with fail
        go_ret
        exact ⟨ret_bool hs.out.symm, (by first | exact hx | exact hx.drewN' _)⟩
    · have hs : Hid (lessE ⟨f, ⟨n, d⟩, t⟩ ⟨f, ⟨n', d'⟩, t'⟩ = false) := by
        show _ = _
        unfold lessE
        rw [if_neg (by simp), if_pos h0]
      generalize lessE _ _ = q at hs ⊢
      have hb : (f != 0) = true := by simpa using h0
      go_enter Tryz.func184, Tryz.ntmps184
      go_wp2_with fail
      go_ret
      exact ⟨ret_bool hs.out.symm, (by first | exact hx | exact hx.drewN' _)⟩
  · have hs : Hid (lessE ⟨f, ⟨n, d⟩, t⟩ ⟨f', ⟨n', d'⟩, t'⟩ = decide (f < f')) := by
      show _ = _
      unfold lessE
      rw [if_pos hf]
    generalize lessE _ _ = q at hs ⊢
    have hb : (f != f') = true := by simpa using hf
    go_enter Tryz.func184, Tryz.ntmps184
    go_wp2_with fail
    go_ret
    exact ⟨ret_bool hs.out.symm, (by first | exact hx | exact hx.drewN' _)⟩
abbrev SmT := { e : En // e.sm }
instance : Inhabited SmT := ⟨⟨botE, .inr (.inl rfl)⟩⟩
def cmpE (x y : SmT) : Int := if lessE x.1 y.1 then -1 else if lessE y.1 x.1 then 1 else 0
def SmT.t (x : SmT) : EnT := ⟨x.1, x.2.ok⟩
theorem ltSm (x y : SmT) : ltOf cmpE x y = lessE x.1 y.1 := by
  unfold ltOf cmpE
  cases h1 : lessE x.1 y.1
  · cases h2 : lessE y.1 x.1 <;> simp
  · simp
theorem lt_smt {x y : SmT} : lessE x.1 y.1 = true ↔ ltE x.t y.t := Iff.rfl
theorem lt_smf {x y : SmT} : lessE x.1 y.1 = false ↔ ¬ ltE x.t y.t := by rw [← lt_smt]; simp
theorem swoE : SWO (ltOf cmpE) where
  irrefl x := by rw [ltSm, lt_smf]; exact stoE.irr _
  trans x y z h1 h2 := by
    rw [ltSm, lt_smt] at *
    exact stoE.trans _ _ _ h1 h2
  ntrans x y z h1 h2 := by
    rw [ltSm, lt_smf] at *
    exact stoE.le_le h2 h1
def SmR (h : PH) (cs : List Value) (x : SmT) : Prop := EnR h cs x.1
def encS (x : SmT) : List Value := enC x.1
theorem smR_enc {h : PH} (cs : List Value) (x : SmT) (hr : SmR h cs x) : cs = encS x := hr.1
theorem one_encS (x : SmT) : ∀ v ∈ encS x, v.oneCell' = true := by
  intro u hu
  simp only [encS, enC, List.mem_cons, List.not_mem_nil, or_false] at hu
  rcases hu with rfl | rfl | rfl | rfl <;> rfl
set_option maxRecDepth 100000 in
set_option maxHeartbeats 1000000 in
theorem cmpE_c (x y : SmT) (w : World) : Calls Tryz.prog 213 #[.agg (encS x).toArray, .agg (encS y).toArray] w (fun e w' => e = .returned (.int .i64 (cmpE x y)) ∧ Gw w w') := by
  have h1 := fun w => less_g x.1 y.1 w x.2.bd y.2.bd
  have h2 := fun w => less_g y.1 x.1 w y.2.bd x.2.bd
  have hc : Hid (cmpE x y = if lessE x.1 y.1 then -1 else if lessE y.1 x.1 then 1 else 0) := rfl
  generalize cmpE x y = q at hc ⊢
  generalize lessE x.1 y.1 = p at *
  generalize lessE y.1 x.1 = p' at *
  obtain ⟨⟨f, ⟨n, d⟩, t⟩, hx⟩ := x
  obtain ⟨⟨f', ⟨n', d'⟩, t'⟩, hy⟩ := y
  unfold enA at *
  unfold encS enC
  dsimp only [List.toArray] at *
  replace h1 := Lib.hid h1
  replace h2 := Lib.hid h2
  clear hx hy
  have hg : Gw w ((w.alloc (.cells #[.int .i64 f, .int .i64 n, .int .i64 d, .bool t] 214)).alloc (.cells #[.int .i64 f', .int .i64 n', .int .i64 d', .bool t'] 214)) := (Gw.new _ _).then (Gw.new _ _)
  have k1 := (Proofs.YtabajghokhfmhaaGreat.Own.new w #[.int .i64 f, .int .i64 n, .int .i64 d, .bool t] 214).alloc (.cells #[.int .i64 f', .int .i64 n', .int .i64 d', .bool t'] 214)
  have k2 := Proofs.YtabajghokhfmhaaGreat.Own.new' (w.alloc (.cells #[.int .i64 f, .int .i64 n, .int .i64 d, .bool t] 214)) #[.int .i64 f', .int .i64 n', .int .i64 d', .bool t'] 214 (n := w.heap.size + 1) (by simp)
  go_enter Tryz.func213, Tryz.ntmps213
  go_upto_region 1 with (fail)
  generalize (w.alloc _).alloc _ = W at *
  obtain ⟨c1, f1⟩ := k1.facts
  obtain ⟨c2, f2⟩ := k2.facts
  have z1 := k1.lt
  have z2 := k2.lt
  go_wp2_with fail
  refine (h1.out _).mono ?_
  rintro e w1 ⟨rfl, hx1⟩
  replace k1 := k1.keep hx1.ext
  replace k2 := k2.keep hx1.ext
  replace hg := hg.then hx1
  clear c1 f1 c2 f2 z1 z2 hx1
  cases p with
  | true =>
    go_wp2_with fail
    go_ret
    exact ⟨ret_int (by rw [hc.out]; rfl), hg⟩
  | false =>
    obtain ⟨c1, f1⟩ := k1.facts
    obtain ⟨c2, f2⟩ := k2.facts
    have z1 := k1.lt
    have z2 := k2.lt
    go_wp2_with fail
    refine (h2.out _).mono ?_
    rintro e w2 ⟨rfl, hx2⟩
    replace hg := hg.then hx2
    clear c1 f1 c2 f2 z1 z2 hx2
    cases p' with
    | true =>
      go_wp2_with fail
      go_ret
      exact ⟨ret_int (by rw [hc.out]; rfl), hg⟩
    | false =>
      go_wp2_with fail
      go_ret
      exact ⟨ret_int (by rw [hc.out]; rfl), hg⟩
def SortSP (H : PH) (w : World) (v : Value) (xs : List SmT) (e : Ending) (w' : World) : Prop :=
  e = .returned (.tuple #[]) ∧ ∃ xs', xs'.Perm xs ∧ xs'.Pairwise (fun x y : SmT => lessE y.1 x.1 = false) ∧ OwnC H w' SmR 4 214 v xs' ∧ w.grownBy w' v.ownBlock
set_option maxHeartbeats 1000000 in
theorem sortE_c (H : PH) (v : Value) (xs : List SmT) (w : World) (hO : OwnC H w SmR 4 214 v xs) (hn : xs.length ≤ 1000000) :
    Calls Tryz.prog 212 #[v, .func (.func 213) #[] #[]] w (SortSP H w v xs) := by
  rcases hO with ⟨rfl, rfl⟩ | ⟨g, cap, cur, rfl, hg, h1, h2, h3, h4⟩
  · have hS := AnyF.slices_SortFunc_none (P := Tryz.prog) (ρ := sSortE_ren) { sSortE with } none 0 (.func (.func 213) #[] #[]) w
    change Calls Tryz.prog 212 _ _ _ at hS
    refine hS.mono ?_
    rintro e w' ⟨rfl, rfl⟩
    exact ⟨rfl, [], List.Perm.refl _, List.Pairwise.nil, .inl ⟨rfl, rfl⟩, ⟨rfl, rfl, rfl, Nat.le_refl _, fun _ _ _ => rfl⟩⟩
  · have hlt : g < w.heap.size := (Array.getElem?_eq_some_iff.1 hg).1
    have hmul : xs.length * 4 ≤ cap * 4 := Nat.mul_le_mul_right _ h1
    obtain ⟨r1, r2⟩ := cells_flat encS 4 smR_enc h4
    have hH : HoldsK encS 4 w g 0 xs.toArray := by
      intro j hj
      rw [size_flatK] at hj
      have hj' : j < xs.length * 4 := by simpa using hj
      rw [Nat.zero_add]
      refine ⟨?_, by simp [World.frozen?, hg]⟩
      rw [show w.cell? ⟨g, j, none⟩ = cur[j]? by simp [World.cell?, hg]]
      have e1 : cur[j]? = (cur.toList.take (xs.length * 4))[j]? := by rw [List.getElem?_take, if_pos hj']; simp
      rw [e1, r1, flatK_eq encS 4 (fun _ => rfl), id]
      have hl : j < (xs.flatMap encS).length := by rw [gflat_len encS 4 (fun _ => rfl)]; exact hj'
      simp
      rw [List.getElem?_eq_getElem hl]; rfl
    have eg : ∀ args w, (callFunc 213 args).run Tryz.prog w = .ok (.enter 213 args) w := enters_of Tryz.func213 (by kernel_rfl) rfl
    have hcon := AnyQ.slices_SortFunc sSortE 4 Tryz.isAgg214 Tryz.sizeOf214 encS (fun _ => rfl) (fun x v hv => one_encS x v (by simpa using hv)) cmpE swoE 213 #[] g 0 cap xs.toArray w eg (fun _ _ _ _ x y => cmpE_c x y _) hH hlt (by simp; omega)
    change Calls Tryz.prog 212 _ _ _ at hcon
    rw [show xs.toArray.size = xs.length by simp] at hcon
    refine hcon.mono ?_
    rintro e w' ⟨rfl, d', n, os, ⟨hp1, -, hp2⟩, hs, rfl⟩
    have hp : d'.toList.Perm xs := by
      have : d'.size = xs.length := by simpa using hp1
      have e2 : (xs.toArray.extract 0 xs.length).toList = xs := by simp
      have e3 : (d'.extract 0 xs.length).toList = d'.toList := by rw [← this]; simp
      rw [e2, e3] at hp2
      exact hp2
    have hd : d'.size = xs.length := by simpa using hp.length_eq
    obtain ⟨o1, o2⟩ := sorted_own (os := os) (n := n) encS 4 (fun _ => rfl) smR_enc hg h1 h2 h3 h4 hp
    refine ⟨rfl, d'.toList, hp, ?_, o1, o2⟩
    rw [List.pairwise_iff_getElem]
    intro i j hi hj hij
    have hj' : j < d'.size := by simpa using hj
    have := hs i j (Nat.zero_le _) hij (by omega)
    rw [ltSm, getElem!_pos d' j hj', getElem!_pos d' i (by omega)] at this
    simpa using this
end Go.Proofs.YtabajghokhfmhaaGreat
namespace Go.Proofs.YtabajghokhfmhaaGreat
def gat (l : List Itv) : List En := l.flatMap fun x => [loE x, hiE x]
theorem gat_append (l r : List Itv) : gat (l ++ r) = gat l ++ gat r := by unfold gat; rw [List.flatMap_append]
theorem gat_len (l : List Itv) : (gat l).length = 2 * l.length := by
  unfold gat
  induction l with
  | nil => rfl
  | cons x l ih => rw [List.flatMap_cons, List.length_append, ih]; simp; omega
theorem mem_gat {l : List Itv} {x : Itv} (h : x ∈ l) : loE x ∈ gat l ∧ hiE x ∈ gat l := by
  unfold gat
  simp only [List.mem_flatMap]
  exact ⟨⟨x, h, by simp⟩, ⟨x, h, by simp⟩⟩
theorem gat_sm {l : List Itv} (h : ∀ x ∈ l, goodB x = true) : ∀ e ∈ gat l, e.sm := by
  intro e he
  unfold gat at he
  obtain ⟨x, hx, h1⟩ := List.mem_flatMap.1 he
  simp only [List.mem_cons, List.not_mem_nil, or_false] at h1
  rcases h1 with rfl | rfl
  · exact goodB.lo (h x hx)
  · exact goodB.hi (h x hx)
theorem sm_trans {a b c : En} (ha : a.sm) (hb : b.sm) (hc : c.sm) (h1 : lessE a b = true) (h2 : lessE b c = true) : lessE a c = true := stoE.trans ⟨a, ha.ok⟩ ⟨b, hb.ok⟩ ⟨c, hc.ok⟩ h1 h2
theorem sm_total {a b : En} (ha : a.sm) (hb : b.sm) (h1 : lessE b a = false) (h2 : a ≠ b) : lessE a b = true := by
  rcases stoE.total ⟨a, ha.ok⟩ ⟨b, hb.ok⟩ with h | h | h
  · exact h
  · exact absurd (congrArg Subtype.val h) h2
  · have : lessE b a = true := h
    rw [h1] at this; cases this
theorem ddP_law : ∀ (l : List En) (d : Option En), (∀ e ∈ l, e.sm) → (∀ p, d = some p → p.sm ∧ ∀ x ∈ l, lessE x p = false) → l.Pairwise (fun x y => lessE y x = false) →
    (ddP d l).Pairwise (fun x y => lessE x y = true) ∧ (∀ p, d = some p → ∀ x ∈ ddP d l, lessE p x = true) ∧ (∀ x ∈ l, x ∈ ddP d l ∨ d = some x) ∧ ∀ x ∈ ddP d l, x ∈ l
  | [], d, _, _, _ => ⟨List.Pairwise.nil, fun _ _ x hx => (by cases hx), fun x hx => (by cases hx), fun x hx => hx⟩
  | x :: r, d, hs, hd, hp => by
    have hx : x.sm := hs x List.mem_cons_self
    rw [List.pairwise_cons] at hp
    obtain ⟨i1, i2, i3, i4⟩ := ddP_law r (some x) (fun e he => hs e (List.mem_cons_of_mem _ he)) (fun p hp' => by cases hp'; exact ⟨hx, hp.1⟩) hp.2
    have i2' := i2 x rfl
    by_cases h : d = some x.k
    · have e1 : ddP d (x :: r) = ddP (some x) r := by rw [ddP, if_pos h]; rfl
      rw [e1]
      refine ⟨i1, fun p hp' => ?_, fun y hy => ?_, fun y hy => List.mem_cons_of_mem _ (i4 y hy)⟩
      · rw [h] at hp'; cases hp'; exact i2'
      · rcases List.mem_cons.1 hy with rfl | hy
        · exact .inr h
        · rcases i3 y hy with h3 | h3
          · exact .inl h3
          · cases h3; exact .inr h
    · have e1 : ddP d (x :: r) = x :: ddP (some x) r := by rw [ddP, if_neg h]; rfl
      rw [e1]
      refine ⟨List.pairwise_cons.2 ⟨i2', i1⟩, fun p hp' y hy => ?_, fun y hy => ?_, fun y hy => ?_⟩
      · obtain ⟨hps, hpx⟩ := hd p hp'
        have hpx' : lessE p x = true := sm_total hps hx (hpx x List.mem_cons_self) fun e => h (by rw [hp', e]; rfl)
        rcases List.mem_cons.1 hy with rfl | hy
        · exact hpx'
        · exact sm_trans hps hx (hs y (List.mem_cons_of_mem _ (i4 y hy))) hpx' (i2' y hy)
      · rcases List.mem_cons.1 hy with rfl | hy
        · exact .inl List.mem_cons_self
        · rcases i3 y hy with h3 | h3
          · exact .inl (List.mem_cons_of_mem _ h3)
          · cases h3; exact .inl List.mem_cons_self
      · rcases List.mem_cons.1 hy with rfl | hy
        · exact List.mem_cons_self
        · exact List.mem_cons_of_mem _ (i4 y hy)
theorem sm_bot {a : En} (h : a.sm) : lessE a botE = false := by
  have h1 := ltE_bot (x := ⟨a, h.ok⟩)
  unfold ltE at h1
  rw [toT_val (En.sm.ok (.inr (.inl rfl)))] at h1
  simpa using h1
theorem sm_top {a : En} (h : a.sm) (hf : a.far ≠ 1) : lessE a topE = true := by
  unfold lessE
  have : topE.far = 1 := rfl
  rw [this, if_pos hf]
  have h1 := h.bd.2.1
  simp; omega
theorem sm_far1 {a : En} (h : a.sm) (hf : a.far = 1) : a = topE := by
  rcases h with ⟨h1, -⟩ | rfl | rfl
  · omega
  · cases hf
  · rfl
def fin (D : List En) : List En := if (D.getLast?.getD botE).far ≠ 1 then D ++ [topE] else D
theorem ends_of {ls : List (List Itv)} {ys : List En} (hg : ∀ x ∈ ls.flatten, goodB x = true) (hp : ys.Perm (botE :: gat ls.flatten)) (hs : ys.Pairwise fun x y => lessE y x = false) : Ends ls (fin (dd ys)) ∧ 0 < (dd ys).length := by
  have hsm : ∀ e ∈ ys, e.sm := by
    intro e he
    rcases List.mem_cons.1 (hp.mem_iff.1 he) with rfl | he
    · exact .inr (.inl rfl)
    · exact gat_sm hg e he
  obtain ⟨d1, -, d3, d4⟩ := ddP_law ys none hsm (fun p hp => by cases hp) hs
  have hmem : ∀ x ∈ ys, x ∈ dd ys := by
    intro x hx
    rcases d3 x hx with h | h
    · exact h
    · cases h
  have hdsm : ∀ e ∈ dd ys, e.sm := fun e he => hsm e (d4 e he)
  have hbot : botE ∈ dd ys := hmem _ (hp.mem_iff.2 List.mem_cons_self)
  replace d1 : (dd ys).Pairwise fun x y => lessE x y = true := d1
  generalize dd ys = D at *
  obtain ⟨es, rfl⟩ : ∃ es, D = botE :: es := by
    cases D with
    | nil => cases hbot
    | cons x r =>
      refine ⟨r, ?_⟩
      rcases List.mem_cons.1 hbot with h | h
      · rw [h]
      · have := (List.pairwise_cons.1 d1).1 _ h
        rw [sm_bot (hdsm x List.mem_cons_self)] at this; cases this
  have hall : ∀ l ∈ ls, ∀ x ∈ l, loE x ∈ botE :: es ∧ hiE x ∈ botE :: es := by
    intro l hl x hx
    have hf : x ∈ ls.flatten := List.mem_flatten.2 ⟨l, hl, hx⟩
    obtain ⟨h1, h2⟩ := mem_gat hf
    exact ⟨hmem _ (hp.mem_iff.2 (List.mem_cons_of_mem _ h1)), hmem _ (hp.mem_iff.2 (List.mem_cons_of_mem _ h2))⟩
  refine ⟨?_, by simp⟩
  unfold fin
  obtain ⟨init, z, hz⟩ : ∃ init z, botE :: es = init ++ [z] := ⟨(botE :: es).dropLast, (botE :: es).getLast (by simp), (List.dropLast_concat_getLast (by simp)).symm⟩
  have hl : ((botE :: es).getLast?.getD botE) = z := by rw [hz]; simp
  rw [hl]
  have hzs : z.sm := hdsm z (by rw [hz]; simp)
  split
  · rename_i hf
    have hnf : ∀ e ∈ botE :: es, e.far ≠ 1 := by
      intro e he h1
      rw [hz] at he
      rcases List.mem_append.1 he with h2 | h2
      · have h3 : lessE e z = true := by
          rw [hz] at d1
          exact (List.pairwise_append.1 d1).2.2 e h2 z (by simp)
        have hes : e.sm := hdsm e (by rw [hz]; exact List.mem_append_left _ h2)
        have := lessE_far h3
        have := hzs.bd.2.1
        omega
      · rw [List.mem_singleton.1 h2] at h1; exact hf h1
    refine ⟨⟨es, rfl⟩, ?_, ?_, ?_⟩
    · intro e he
      rcases List.mem_append.1 he with he | he
      · exact hdsm e he
      · rw [List.mem_singleton.1 he]; exact .inr (.inr rfl)
    · rw [List.pairwise_append]
      refine ⟨d1, List.pairwise_singleton _ _, fun a ha b hb => ?_⟩
      rw [List.mem_singleton.1 hb]
      exact sm_top (hdsm a ha) (hnf a ha)
    · intro l hl x hx
      obtain ⟨h1, h2⟩ := hall l hl x hx
      exact ⟨List.mem_append_left _ h1, List.mem_append_left _ h2⟩
  · rename_i hf
    have hzt : z = topE := sm_far1 hzs (by simpa using hf)
    subst hzt
    refine ⟨?_, hdsm, d1, hall⟩
    cases init with
    | nil =>
      injection hz with h1 h2
      have : botE.far = topE.far := by rw [h1]
      cases this
    | cons b init =>
      rw [List.cons_append] at hz
      injection hz with h1 h2
      exact ⟨init, by rw [h2]; rfl⟩
theorem lessR_eq (a b : Rat2) (t : Bool) : lessE ⟨0, a, t⟩ ⟨0, b, t⟩ = lessR a b := by
  unfold lessE lessR
  rw [if_neg (by simp), if_neg (by simp)]
  by_cases h : a.num * b.den = b.num * a.den
  · rw [if_neg (by simpa using h)]
    dsimp only
    rw [h]; simp
  · rw [if_pos h]
theorem lessE_ab (a b : Rat2) : lessE ⟨0, a, false⟩ ⟨0, b, true⟩ = !lessR b a := by
  unfold lessE lessR
  rw [if_neg (by simp), if_neg (by simp)]
  by_cases h : a.num * b.den = b.num * a.den
  · rw [if_neg (by simpa using h)]
    dsimp only
    rw [h]; simp
  · rw [if_pos h]
    dsimp only
    rw [Bool.eq_iff_iff]
    simp; omega
theorem lessE_ba (a b : Rat2) : lessE ⟨0, a, true⟩ ⟨0, b, false⟩ = lessR a b := by
  unfold lessE lessR
  rw [if_neg (by simp), if_neg (by simp)]
  by_cases h : a.num * b.den = b.num * a.den
  · rw [if_neg (by simpa using h)]
    dsimp only
    rw [h]; simp
  · rw [if_pos h]
theorem lessR_trans {a b c : Rat2} (ha : a.ok) (hb : b.ok) (hc : c.ok) (h1 : lessR a b = true) (h2 : lessR b c = true) : lessR a c = true := by
  rw [← lessR_eq _ _ false] at *
  exact stoE.trans ⟨⟨0, a, false⟩, .inl ⟨rfl, ha⟩⟩ ⟨⟨0, b, false⟩, .inl ⟨rfl, hb⟩⟩ ⟨⟨0, c, false⟩, .inl ⟨rfl, hc⟩⟩ h1 h2
theorem lessR_irr (a : Rat2) : lessR a a = false := by unfold lessR; simp
theorem lessR_total {a b : Rat2} (ha : a.ok) (hb : b.ok) (h : lessR a b = false) (hn : a ≠ b) : lessR b a = true := by
  unfold lessR at *
  simp at *
  rcases Int.lt_trichotomy (a.num * b.den) (b.num * a.den) with h1 | h1 | h1
  · omega
  · exact absurd (Rat2.same ha hb h1) hn
  · exact h1
end Go.Proofs.YtabajghokhfmhaaGreat
namespace Go.Proofs.YtabajghokhfmhaaGreat
theorem mem_putR {x r : Rat2} : ∀ {l : List Rat2}, x ∈ putR l r ↔ x = r ∨ x ∈ l
  | [] => by simp [putR]
  | p :: l => by
    unfold putR
    split
    · rw [List.mem_cons, mem_putR, List.mem_cons]
      constructor
      · rintro (h | h | h)
        · exact .inr (.inl h)
        · exact .inl h
        · exact .inr (.inr h)
      · rintro (h | h | h)
        · exact .inr (.inl h)
        · exact .inl h
        · exact .inr (.inr h)
    · split
      · rename_i h1 h2
        subst h2
        rw [List.mem_cons]
        constructor
        · exact .inr
        · rintro (h | h)
          · exact .inl h
          · exact h
      · simp [List.mem_cons]
def AscR (l : List Rat2) : Prop := l.Pairwise fun a b => lessR a b = true
theorem asc_putR {r : Rat2} (hr : r.ok) : ∀ {l : List Rat2}, (∀ p ∈ l, p.ok) → AscR l → AscR (putR l r)
  | [], _, _ => List.pairwise_singleton _ _
  | p :: l, ho, h => by
    obtain ⟨h1, h2⟩ := List.pairwise_cons.1 h
    unfold putR
    split
    · rename_i hl
      refine List.pairwise_cons.2 ⟨fun x hx => ?_, asc_putR hr (fun p hp => ho p (List.mem_cons_of_mem _ hp)) h2⟩
      rcases mem_putR.1 hx with rfl | hx
      · exact hl
      · exact h1 x hx
    · rename_i hl
      split
      · exact h
      · rename_i hne
        have hrp : lessR r p = true := lessR_total (ho p List.mem_cons_self) hr (by simpa using hl) hne
        refine List.pairwise_cons.2 ⟨fun x hx => ?_, h⟩
        rcases List.mem_cons.1 hx with rfl | hx
        · exact hrp
        · exact lessR_trans hr (ho p List.mem_cons_self) (ho x (List.mem_cons_of_mem _ hx)) hrp (h1 x hx)
structure Pts (l : List Itv) (ps : List Rat2) : Prop where
  sm : ∀ p ∈ ps, smallB p = true
  asc : AscR ps
  lo : ∀ x ∈ l, x.loI = false → x.lo ∈ ps
  hi : ∀ x ∈ l, x.hiI = false → x.hi ∈ ps
theorem Pts.put1 {l : List Itv} {ps : List Rat2} {r : Rat2} (h : Pts l ps) (hr : smallB r = true) : Pts l (putR ps r) where
  sm p hp := by
    rcases mem_putR.1 hp with rfl | hp
    · exact hr
    · exact h.sm p hp
  asc := asc_putR (smallB_ok hr) (fun p hp => smallB_ok (h.sm p hp)) h.asc
  lo x hx hi := mem_putR.2 (.inr (h.lo x hx hi))
  hi x hx hi := mem_putR.2 (.inr (h.hi x hx hi))
theorem Pts.snoc {l : List Itv} {ps : List Rat2} {x : Itv} (h : Pts l ps) (hx : goodB x = true) : Pts (l ++ [x]) (ptsX ps x) := by
  have h1 : Pts l (if x.loI then ps else putR ps x.lo) ∧ (x.loI = false → x.lo ∈ (if x.loI then ps else putR ps x.lo)) := by
    cases hi : x.loI with
    | true => exact ⟨by simpa using h, fun e => by cases e⟩
    | false =>
      rw [if_neg (by simp)]
      exact ⟨h.put1 (goodB.smlo hx hi), fun _ => mem_putR.2 (.inl rfl)⟩
  unfold ptsX
  dsimp only
  generalize (if x.loI then ps else putR ps x.lo) = b at *
  have h2 : Pts l (if x.hiI then b else putR b x.hi) ∧ (x.hiI = false → x.hi ∈ (if x.hiI then b else putR b x.hi)) ∧ ∀ p ∈ b, p ∈ (if x.hiI then b else putR b x.hi) := by
    cases hi : x.hiI with
    | true => exact ⟨by simpa using h1.1, (fun e => by cases e), fun p hp => by simpa using hp⟩
    | false =>
      rw [if_neg (by simp)]
      exact ⟨h1.1.put1 (goodB.smhi hx hi), fun _ => mem_putR.2 (.inl rfl), fun p hp => mem_putR.2 (.inr hp)⟩
  obtain ⟨h3, h4, h5⟩ := h2
  refine ⟨h3.sm, h3.asc, fun y hy hi => ?_, fun y hy hi => ?_⟩
  · rcases List.mem_append.1 hy with hy | hy
    · exact h3.lo y hy hi
    · rw [List.mem_singleton.1 hy] at hi ⊢; exact h5 _ (h1.2 hi)
  · rcases List.mem_append.1 hy with hy | hy
    · exact h3.hi y hy hi
    · rw [List.mem_singleton.1 hy] at hi ⊢; exact h4 hi
theorem ptsL_snoc (l : List Itv) (x : Itv) : ptsL (l ++ [x]) = ptsX (ptsL l) x := by unfold ptsL; rw [List.foldl_append]; rfl
theorem pts_of {l : List Itv} (h : ∀ x ∈ l, goodB x = true) : Pts l (ptsL l) := by
  have key : ∀ n, n ≤ l.length → Pts (l.take n) (ptsL (l.take n)) := by
    intro n
    induction n with
    | zero => intro _; exact ⟨(fun p hp => by cases hp), List.Pairwise.nil, (fun x hx => by simp at hx), fun x hx => by simp at hx⟩
    | succ n ih =>
      intro hn
      rw [List.take_succ_eq_append_getElem (by omega), ptsL_snoc]
      exact (ih (by omega)).snoc (h _ (List.getElem_mem _))
  have := key l.length (Nat.le_refl _)
  rwa [List.take_length] at this
theorem asc_starts : ∀ {ps : List Rat2}, AscR ps → (ps.flatMap fun p => [(⟨0, p, false⟩ : En), ⟨0, p, true⟩]).Pairwise fun a b => lessE a b = true
  | [], _ => List.Pairwise.nil
  | p :: ps, h => by
    obtain ⟨h1, h2⟩ := List.pairwise_cons.1 h
    rw [List.flatMap_cons, List.pairwise_append]
    refine ⟨?_, asc_starts h2, fun a ha b hb => ?_⟩
    · simp [lessE_ab, lessR_irr]
    · obtain ⟨q, hq, hb⟩ := List.mem_flatMap.1 hb
      have hpq := h1 q hq
      simp only [List.mem_cons, List.not_mem_nil, or_false] at ha hb
      have hqp : lessR q p = false := by
        unfold lessR at *
        simp at *; omega
      rcases ha with rfl | rfl <;> rcases hb with rfl | rfl
      · rw [lessR_eq]; exact hpq
      · rw [lessE_ab, hqp]; rfl
      · rw [lessE_ba]; exact hpq
      · rw [lessR_eq]; exact hpq
theorem ends_pts {ls : List (List Itv)} {ps : List Rat2} (h : Pts ls.flatten ps) : Ends ls (starts ps ++ [topE]) := by
  have hsm : ∀ e ∈ ps.flatMap fun p => [(⟨0, p, false⟩ : En), ⟨0, p, true⟩], e.sm ∧ e.far = 0 := by
    intro e he
    obtain ⟨p, hp, he⟩ := List.mem_flatMap.1 he
    simp only [List.mem_cons, List.not_mem_nil, or_false] at he
    rcases he with rfl | rfl
    · exact ⟨.inl ⟨rfl, h.sm p hp⟩, rfl⟩
    · exact ⟨.inl ⟨rfl, h.sm p hp⟩, rfl⟩
  refine ⟨⟨_, rfl⟩, ?_, ?_, ?_⟩
  · intro e he
    unfold starts at he
    rcases List.mem_append.1 he with he | he
    · rcases List.mem_cons.1 he with rfl | he
      · exact .inr (.inl rfl)
      · exact (hsm e he).1
    · rw [List.mem_singleton.1 he]; exact .inr (.inr rfl)
  · unfold starts
    rw [List.pairwise_append]
    refine ⟨List.pairwise_cons.2 ⟨fun e he => ?_, asc_starts h.asc⟩, List.pairwise_singleton _ _, fun a ha b hb => ?_⟩
    · have := (hsm e he).2
      unfold lessE
      rw [if_pos (by rw [this]; decide), this]; rfl
    · rw [List.mem_singleton.1 hb]
      rcases List.mem_cons.1 ha with rfl | ha
      · rfl
      · exact sm_top (hsm a ha).1 (by rw [(hsm a ha).2]; decide)
  · intro l hl x hx
    have hf : x ∈ ls.flatten := List.mem_flatten.2 ⟨l, hl, hx⟩
    unfold starts
    constructor
    · unfold loE
      split
      · simp
      · rename_i hi
        refine List.mem_append_left _ (List.mem_cons_of_mem _ (List.mem_flatMap.2 ⟨x.lo, h.lo x hf (by simpa using hi), ?_⟩))
        cases x.loO <;> simp
    · unfold hiE
      split
      · simp
      · rename_i hi
        refine List.mem_append_left _ (List.mem_cons_of_mem _ (List.mem_flatMap.2 ⟨x.hi, h.hi x hf (by simpa using hi), ?_⟩))
        cases x.hiO <;> simp
theorem ends_starts {ls : List (List Itv)} (h : ∀ x ∈ ls.flatten, goodB x = true) : Ends ls (starts (ptsL ls.flatten) ++ [topE]) := ends_pts (pts_of h)
end Go.Proofs.YtabajghokhfmhaaGreat
namespace Go.Proofs.YtabajghokhfmhaaGreat
open Go.RowKit
theorem formed1_mk (op n : Int) (inn : List Itv) (kids : List Fm) : formed1 (.mk op n inn kids) = if (op ≠ 2 ∧ inn ≠ []) ∨ (op ≠ 2 ∧ op ≠ 1 ∧ n ≠ 0) then false
  else if op = 0 then kids.isEmpty
  else if op = 1 then kids.isEmpty && decide (0 ≤ n) && decide (n < 64)
  else if op = 2 then kids.isEmpty && decide (0 ≤ n) && decide (n < 32) && decide (setE inn = 0)
  else if op = 3 ∨ op = 6 then decide (kids.length = 1)
  else decide (op = 4) || decide (op = 5) := rfl
theorem emp_len {α : Type} (l : List α) : l.isEmpty = ((l.length : Int) == 0) := by
  rw [Bool.eq_iff_iff, List.isEmpty_iff, ← List.length_eq_zero_iff]; simp; 
theorem len1 {α : Type} (l : List α) : decide (l.length = 1) = ((l.length : Int) == 1) := by
  rw [Bool.eq_iff_iff]; simp; omega
set_option maxHeartbeats 1000000 in
theorem formed_c (f : Fm) (cs : List Value) (w : World) (hr : FmR (ph w) cs f) : Calls Tryz.prog 93 #[.agg cs.toArray] w (RetV w (.bool (formed1 f))) := by
  obtain ⟨a3, c3, a4, c4, rfl, -, -, hil, hkl, hi, hk⟩ := hr.form
  unfold fmC
  obtain ⟨op, n, inn, kids⟩ := f
  simp only [Fm.op, Fm.n, Fm.inn, Fm.kids] at *
  clear hr
  by_cases h2 : op = 2
  · subst h2
    by_cases hk0 : kids.length = 0
    · by_cases hn0 : 0 ≤ n
      · by_cases hn1 : n < 32
        · have hv : Hid (formed1 (.mk 2 n inn kids) = (setE inn == 0)) := by
            show _ = _
            rw [formed1_mk]
            have : kids.isEmpty = true := by rw [List.isEmpty_iff]; exact List.eq_nil_of_length_eq_zero hk0
            simp [this, hn0, hn1]
            rfl
          have hc := Lib.hid hi
          clear hi hk
          have b1 : decide (0 ≤ n) = true := by simpa using hn0
          have b2 : decide (n < 32) = true := by simpa using hn1
          have b3 : ((kids.length : Int) == 0) = true := by simpa using hk0
          go_enter Tryz.func93, Tryz.ntmps93
          go_wp2_with fail
          refine RetV_at (valid_c _ inn _ (hc.out.mono mono_ItvR (Ext.ple xE))) ?_
          intro w1 hx1
          generalize setE inn = e at *
          go_wp2_with fail
          go_ret
          exact ⟨ret_bool hv.out.symm, xE⟩
        · have hv : Hid (formed1 (.mk 2 n inn kids) = false) := by
            show _ = _
            rw [formed1_mk]
            simp [hn1]
          have b1 : decide (0 ≤ n) = true := by simpa using hn0
          have b2 : decide (n < 32) = false := by simpa using hn1
          have b3 : ((kids.length : Int) == 0) = true := by simpa using hk0
          clear hi hk
          go_enter Tryz.func93, Tryz.ntmps93
          go_wp2_with fail
          go_ret
          exact ⟨ret_bool hv.out.symm, xE⟩
      · have hv : Hid (formed1 (.mk 2 n inn kids) = false) := by
          show _ = _
          rw [formed1_mk]
          simp [hn0]
        have b1 : decide (0 ≤ n) = false := by simpa using hn0
        have b3 : ((kids.length : Int) == 0) = true := by simpa using hk0
        clear hi hk
        go_enter Tryz.func93, Tryz.ntmps93
        go_wp2_with fail
        go_ret
        exact ⟨ret_bool hv.out.symm, xE⟩
    · have hv : Hid (formed1 (.mk 2 n inn kids) = false) := by
        show _ = _
        rw [formed1_mk]
        have : kids.isEmpty = false := by cases kids <;> simp_all
        simp [this]
      have b3 : ((kids.length : Int) == 0) = false := by simpa using hk0
      clear hi hk
      go_enter Tryz.func93, Tryz.ntmps93
      go_wp2_with fail
      go_ret
      exact ⟨ret_bool hv.out.symm, xE⟩
  have a2 : (op == 2) = false := by simpa using h2
  have c2' : (op != 2) = true := by simpa using h2
  by_cases hin : 0 < inn.length
  · have hv : Hid (formed1 (.mk op n inn kids) = false) := by
      show _ = _
      rw [formed1_mk]
      have : inn ≠ [] := by intro e; subst e; simp at hin
      simp [h2, this]
    have b1 : decide (0 < (inn.length : Int)) = true := by simpa using hin
    clear hi hk
    go_enter Tryz.func93, Tryz.ntmps93
    go_wp2_with fail
    go_ret
    exact ⟨ret_bool hv.out.symm, xE⟩
  have hin' : inn = [] := List.eq_nil_of_length_eq_zero (by omega)
  subst hin'
  have b1 : decide (0 < (([] : List Itv).length : Int)) = false := by simp
  by_cases h1 : op = 1
  · subst h1
    by_cases hk0 : kids.length = 0
    · have b3 : ((kids.length : Int) == 0) = true := by simpa using hk0
      by_cases hn0 : 0 ≤ n
      · have hv : Hid (formed1 (.mk 1 n [] kids) = decide (n < 64)) := by
          show _ = _
          rw [formed1_mk]
          have : kids.isEmpty = true := by rw [List.isEmpty_iff]; exact List.eq_nil_of_length_eq_zero hk0
          simp [this, hn0]
        have b2 : decide (0 ≤ n) = true := by simpa using hn0
        clear hi hk
        go_enter Tryz.func93, Tryz.ntmps93
        go_wp2_with fail
        go_ret
        exact ⟨ret_bool hv.out.symm, xE⟩
      · have hv : Hid (formed1 (.mk 1 n [] kids) = false) := by
          show _ = _
          rw [formed1_mk]
          simp [hn0]
        have b2 : decide (0 ≤ n) = false := by simpa using hn0
        clear hi hk
        go_enter Tryz.func93, Tryz.ntmps93
        go_wp2_with fail
        go_ret
        exact ⟨ret_bool hv.out.symm, xE⟩
    · have hv : Hid (formed1 (.mk 1 n [] kids) = false) := by
        show _ = _
        rw [formed1_mk]
        have : kids.isEmpty = false := by cases kids <;> simp_all
        simp [this]
      have b3 : ((kids.length : Int) == 0) = false := by simpa using hk0
      clear hi hk
      go_enter Tryz.func93, Tryz.ntmps93
      go_wp2_with fail
      go_ret
      exact ⟨ret_bool hv.out.symm, xE⟩
  have a1 : (op == 1) = false := by simpa using h1
  have c1' : (op != 1) = true := by simpa using h1
  by_cases hn : n = 0
  · subst hn
    clear hi hk
    by_cases h0 : op = 0
    · subst h0
      have hv : Hid (formed1 (.mk 0 0 [] kids) = ((kids.length : Int) == 0)) := by show _ = _; rw [formed1_mk, ← emp_len]; simp
      go_enter Tryz.func93, Tryz.ntmps93
      go_wp2_with fail
      go_ret
      exact ⟨ret_bool hv.out.symm, xE⟩
    have a0 : (op == 0) = false := by simpa using h0
    by_cases h3 : op = 3
    · subst h3
      have hv : Hid (formed1 (.mk 3 0 [] kids) = ((kids.length : Int) == 1)) := by show _ = _; rw [formed1_mk, ← len1]; simp
      go_enter Tryz.func93, Tryz.ntmps93
      go_wp2_with fail
      go_ret
      exact ⟨ret_bool hv.out.symm, xE⟩
    have a3' : (op == 3) = false := by simpa using h3
    by_cases h6 : op = 6
    · subst h6
      have hv : Hid (formed1 (.mk 6 0 [] kids) = ((kids.length : Int) == 1)) := by show _ = _; rw [formed1_mk, ← len1]; simp
      go_enter Tryz.func93, Tryz.ntmps93
      go_wp2_with fail
      go_ret
      exact ⟨ret_bool hv.out.symm, xE⟩
    have a6 : (op == 6) = false := by simpa using h6
    by_cases h4 : op = 4
    · subst h4
      have hv : Hid (formed1 (.mk 4 0 [] kids) = true) := by show _ = _; rw [formed1_mk]; simp
      go_enter Tryz.func93, Tryz.ntmps93
      go_wp2_with fail
      go_ret
      exact ⟨ret_bool hv.out.symm, xE⟩
    have a4' : (op == 4) = false := by simpa using h4
    have hv : Hid (formed1 (.mk op 0 [] kids) = (op == 5)) := by show _ = _; rw [formed1_mk, if_neg (by simp), if_neg h0, if_neg h1, if_neg h2, if_neg (by omega), decide_eq_false h4, Bool.false_or, Bool.eq_iff_iff]; simp
    go_enter Tryz.func93, Tryz.ntmps93
    go_wp2_with fail
    go_ret
    exact ⟨ret_bool hv.out.symm, xE⟩
  · have hv : Hid (formed1 (.mk op n [] kids) = false) := by
      show _ = _
      rw [formed1_mk]
      simp [h2, h1, hn]
    have b2 : (n == 0) = false := by simpa using hn
    have b4 : (n != 0) = true := by simpa using hn
    clear hi hk
    go_enter Tryz.func93, Tryz.ntmps93
    go_wp2_with fail
    go_ret
    exact ⟨ret_bool hv.out.symm, xE⟩
set_option maxHeartbeats 400000 in
theorem fdeep_c (f : Fm) : ∀ (cs : List Value) (w : World), FmR (ph w) cs f → f.deep < 1000000 →
    Calls Tryz.prog 92 #[.agg cs.toArray] w (RetV w (.int .i64 f.deep)) := by
  induction f using Fm.ind with
  | h f ih =>
    intro cs w hr hs
    obtain ⟨a3, c3, a4, c4, rfl, -, -, -, hlen, -, hp⟩ := hr.form
    unfold fmC
    rw [Fm.deep_eq] at hs
    go_enter Tryz.func92, Tryz.ntmps92
    go_wp2
    go_loopw [3, 9] (fun n i wr => ∃ k : Nat, k ≤ f.kids.length ∧ i = .int .i64 k ∧ n = .int .i64 (maxN Fm.deep (f.kids.take k) : Nat) ∧ Ext w wr) (fun _ i _ => f.kids.length - (intOf i).toNat)
    case atStart => exact ⟨0, Nat.zero_le _, rfl, by simp [maxN], xE⟩
    case round =>
      obtain ⟨k, hk, rfl, rfl, hb⟩ := hrel
      skip
      have hst := maxN_take_le Fm.deep f.kids k
      by_cases hlt : k < f.kids.length
      · have hp' := hp.mono mono_FmR hb.ple
        obtain ⟨b, o, b3, d3, b4, d4, rfl, h0, h1, h2, h3, hE, hbl⟩ := FmsR.at hp' k hlt
        unfold fmC at hE
        have H3 := Lib.hid (maxN_take Fm.deep f.kids k hlt)
        have hst2 := maxN_take_le Fm.deep f.kids (k+1)
        rw [H3.out] at hst2
        have H := Lib.hid ih
        clear ih hp hp'
        go_wp2_with fail
        refine (H.out _ (by simp) _ _ (mono_FmR _ _ _ _ (Ext.ple xE) hE) (by omega)).mono ?_
        rintro e w1 ⟨rfl, hb1⟩
        go_wp2_with fail
        go_roundw
        case rel => exact ⟨k + 1, by omega, by go_num, by rw [H3.out]; go_num, xE⟩
        case measure => simp [intOf]; omega
      · have hst2 : f.kids.take k = f.kids := List.take_of_length_le (by omega)
        have H3 := Lib.hid hst2
        clear hst2 ih hp
        go_wp2_with fail
        go_ret
        refine ⟨ret_int ?_, hb⟩
        rw [H3.out, Fm.deep_eq]; omega
end Go.Proofs.YtabajghokhfmhaaGreat
namespace Go.Proofs.YtabajghokhfmhaaGreat
open Go.RowKit Go.Shelf
attribute [local go_sem] Oper.semAt_some
theorem FmsR.atH {H : PH} {w : World} {a : Option Addr} {n cap : Nat} {xs : List Fm} (hr : FmsR H (.slice a n cap) xs) (hl : PLe H (ph w)) (k : Nat) (hk : k < xs.length) :
    ∃ b o a3 c3 a4 c4, a = some ⟨b, o, none⟩ ∧ w.cell? ⟨b, o + k * 4, none⟩ = some (.int .i64 xs[k].op) ∧ w.cell? ⟨b, o + k * 4 + 1, none⟩ = some (.int .i64 xs[k].n) ∧
      w.cell? ⟨b, o + k * 4 + 2, none⟩ = some (.slice a3 xs[k].inn.length c3) ∧ w.cell? ⟨b, o + k * 4 + 3, none⟩ = some (.slice a4 xs[k].kids.length c4) ∧
      FmR H (fmC xs[k] a3 c3 a4 c4) xs[k] ∧ b < w.heap.size := by
  obtain ⟨b, o, cs, h1, h2, h3, h4⟩ := hr.get k hk
  obtain ⟨a3, c3, a4, c4, rfl, -⟩ := h4.form
  have h : ∀ j, j < 4 → w.cell? ⟨b, o + k * 4 + j, none⟩ = some ((fmC xs[k] a3 c3 a4 c4).getD j undef) := fun j hj => by rw [cell_ph]; exact cellAt_mono hl (h3 j hj)
  exact ⟨b, o, a3, c3, a4, c4, h1, h 0 (by omega), h 1 (by omega), h 2 (by omega), h 3 (by omega), h4, cell_lt (h 0 (by omega))⟩
theorem indexFunc_J {H : PH} (fid : Nat) (cap : Array Value) (vs : Value) (xs : List Fm) (hv : FmsR H vs xs) (R : Nat → World → Prop) (Rx : World → Prop) (w : World)
    (hfn : ∀ args w, (callFunc fid args).run Tryz.prog w = .ok (.enter fid args) w)
    (hf : ∀ k (h : k < xs.length) wr cs, R k wr → FmR H cs xs[k] → Calls Tryz.prog fid (#[.agg cs.toArray] ++ cap) wr fun e w' => (e = .returned (.bool false) ∧ R (k + 1) w') ∨ (e = .returned (.bool true) ∧ Rx w'))
    (hr : ∀ k wr, R k wr → PLe H (ph wr)) (h0 : R 0 w) :
    Calls Tryz.prog 134 #[vs, .func (.func fid) #[] cap] w fun e w' => (e = .returned (.int .i64 (-1)) ∧ R xs.length w') ∨ (∃ i : Int, 0 ≤ i ∧ e = .returned (.int .i64 i) ∧ Rx w') := by
  obtain ⟨a, c, rfl, hlen, hv⟩ := hv.form
  have HF := Lib.hid hf; clear hf
  have HR := Lib.hid hr; clear hr
  go_enter Tryz.func134, Tryz.ntmps134
  go_wp2
  go_loopw [8] (fun i wr => ∃ k : Nat, k ≤ xs.length ∧ i = .int .i64 k ∧ R k wr) (fun i _ => xs.length - (intOf i).toNat)
  case atStart => exact ⟨0, Nat.zero_le _, rfl, h0⟩
  case round =>
    obtain ⟨k, hk, rfl, hR⟩ := hrel
    by_cases hlt : k < xs.length
    · obtain ⟨b, o, b3, d3, b4, d4, rfl, g0, g1, g2, g3, hE, hbl⟩ := FmsR.atH hv (HR.out _ _ hR) k hlt
      unfold fmC at hE
      go_wp2_with fail
      refine (HF.out k hlt _ _ hR hE).mono ?_
      rintro e w1 (⟨rfl, h1⟩ | ⟨rfl, h1⟩)
      · go_wp2_with fail
        go_roundw
        case rel => exact ⟨k + 1, by omega, by go_num, h1⟩
        case measure => simp [intOf]; omega
      · go_wp2_with fail
        go_ret
        exact .inr ⟨_, by omega, rfl, h1⟩
    · obtain rfl : k = xs.length := by omega
      go_wp2_with fail
      go_ret
      exact .inl ⟨rfl, hR⟩
theorem containsFunc_J {H : PH} (fid : Nat) (cap : Array Value) (vs : Value) (xs : List Fm) (hv : FmsR H vs xs) (R : Nat → World → Prop) (Rx : World → Prop) (w : World)
    (hfn : ∀ args w, (callFunc fid args).run Tryz.prog w = .ok (.enter fid args) w)
    (hf : ∀ k (h : k < xs.length) wr cs, R k wr → FmR H cs xs[k] → Calls Tryz.prog fid (#[.agg cs.toArray] ++ cap) wr fun e w' => (e = .returned (.bool false) ∧ R (k + 1) w') ∨ (e = .returned (.bool true) ∧ Rx w'))
    (hr : ∀ k wr, R k wr → PLe H (ph wr)) (h0 : R 0 w) :
    Calls Tryz.prog 67 #[vs, .func (.func fid) #[] cap] w fun e w' => (e = .returned (.bool false) ∧ R xs.length w') ∨ (e = .returned (.bool true) ∧ Rx w') := by
  have HF := Lib.hid hf; clear hf
  have HR := Lib.hid hr; clear hr
  have HFN := Lib.hid hfn; clear hfn
  go_enter Tryz.func67, Tryz.ntmps67
  go_wp2_with fail
  refine (indexFunc_J fid cap vs xs hv R Rx _ HFN.out HF.out HR.out h0).mono ?_
  rintro e w1 (⟨rfl, h1⟩ | ⟨i, hi, rfl, h1⟩)
  · go_wp2_with fail
    go_ret
    exact .inl ⟨rfl, h1⟩
  · go_wp2_with fail
    go_ret
    exact .inr ⟨rfl, h1⟩
/-! what a round keeps: the body's own box Bo and the row that it leads to may turn -/
def XB (Bo : Nat) (W : World) (b : Nat) : Prop := b = Bo ∨ ∃ j v, W.cell? ⟨Bo, j, none⟩ = some v ∧ v.ownBlock = some b
def Good (Bo : Nat) (W : World) : Prop := Bo < W.heap.size ∧ ∀ b, XB Bo W b → b < W.heap.size
def Kx (n₀ Bo : Nat) (W W' : World) : Prop := Below n₀ W W' ∧ W.heap.size ≤ W'.heap.size ∧ (∀ b c T, Own W b c T → ¬XB Bo W b → Own W' b c T) ∧ ∀ b, XB Bo W' b → XB Bo W b ∨ (W.heap.size ≤ b ∧ b < W'.heap.size)
section
variable {n₀ Bo : Nat} {A B C W W' : World}
theorem Kx.then (h : Kx n₀ Bo A B) (k : Kx n₀ Bo B C) : Kx n₀ Bo A C := by
  refine ⟨h.1.trans k.1, Nat.le_trans h.2.1 k.2.1, fun b c T hb hx => ?_, fun b hb => ?_⟩
  · have hlt := hb.lt
    refine k.2.2.1 b c T (h.2.2.1 b c T hb hx) fun hx' => ?_
    rcases h.2.2.2 b hx' with h1 | h1
    · exact hx h1
    · omega
  · have := h.2.1; have := k.2.1
    rcases k.2.2.2 b hb with h1 | h1
    · rcases h.2.2.2 b h1 with h2 | h2
      · exact .inl h2
      · exact .inr (by omega)
    · exact .inr (by omega)
theorem Good.kx (h : Good Bo W) (k : Kx n₀ Bo W W') : Good Bo W' := by
  refine ⟨Nat.lt_of_lt_of_le h.1 k.2.1, fun b hb => ?_⟩
  rcases k.2.2.2 b hb with h1 | h1
  · exact Nat.lt_of_lt_of_le (h.2 b h1) k.2.1
  · exact h1.2
theorem XB.ext (h : Ext W W') (hB : Bo < W.heap.size) {b : Nat} : XB Bo W' b ↔ XB Bo W b := by
  unfold XB
  have e : ∀ j, W'.cell? ⟨Bo, j, none⟩ = W.cell? ⟨Bo, j, none⟩ := fun j => h.cells.1 Bo j hB
  simp only [e]
theorem Kx.ext (h : Ext W W') (hB : Bo < W.heap.size) (hn : n₀ ≤ W.heap.size) : Kx n₀ Bo W W' :=
  ⟨h.mono hn, h.size, fun b c T ho _ => ho.keep h, fun b hb => .inl ((XB.ext h hB).1 hb)⟩
def Held (Bo : Nat) (W : World) (b : Nat) (c : Array Value) (T : TypeId) : Prop := Own W b c T ∧ ¬XB Bo W b
theorem Held.kx {b : Nat} {c : Array Value} {T : TypeId} (h : Held Bo W b c T) (k : Kx n₀ Bo W W') : Held Bo W' b c T := by
  refine ⟨k.2.2.1 b c T h.1 h.2, fun hx => ?_⟩
  have hlt := h.1.lt
  rcases k.2.2.2 b hx with h1 | h1
  · exact h.2 h1
  · omega
theorem Held.new (hg : Good Bo W) {b : Nat} {c : Array Value} {T : TypeId} (e : Ext W W') (hb : W.heap.size ≤ b) (ho : Own W' b c T) : Held Bo W' b c T := by
  refine ⟨ho, fun hx => ?_⟩
  have := hg.2 b ((XB.ext e hg.1).1 hx)
  omega
theorem Good.ext (h : Good Bo W) (e : Ext W W') : Good Bo W' := h.kx (Kx.ext (n₀ := 0) e h.1 (Nat.zero_le _))
theorem Kx.put {w : World} (hn : n₀ ≤ w.heap.size) (hB : Bo < w.heap.size) (W : World) (l : Nat) (o o' : Obj) (hl : w.heap.size ≤ l) (h : W.heap[l]? = some o) (h1 : o.isCells = false) (h2 : o.isWalk = false) : Kx n₀ Bo W (W.putObj l o') := by
  have hb := belowK_b (w := w) (n₀ := w.heap.size) (Nat.le_refl _) W l o o' hl h h1 h2
  have e : ∀ j, (W.putObj l o').cell? ⟨Bo, j, none⟩ = W.cell? ⟨Bo, j, none⟩ := fun j => hb.cell (p := ⟨Bo, j, none⟩) hB
  refine ⟨hb.mono hn, hb.size, fun b c T ho _ => ?_, fun b hx => .inl ?_⟩
  · unfold Own at *
    have hne : b ≠ l := by rintro rfl; rw [h] at ho; cases ho; cases h1
    rw [World.putObj_heap_other hne]; exact ho
  · unfold XB at *
    simpa only [e] using hx
end
abbrev FmA (H : PH) := { p : List Value × Fm // FmR H p.1 p.2 }
def FmA.f {H : PH} (x : FmA H) : Fm := x.1.2
def fmsOf {H : PH} (l : List (FmA H)) : List Fm := l.map FmA.f
theorem fmsOf_app {H : PH} (l m : List (FmA H)) : fmsOf (l ++ m) = fmsOf l ++ fmsOf m := List.map_append
theorem fmsOf_len {H : PH} (l : List (FmA H)) : (fmsOf l).length = l.length := List.length_map _
def ItP {H : PH} (tot : List Fm) (pre : List (FmA H)) (l : List Fm) (J Jx : List (FmA H) → World → Prop) (n₀ Bo : Nat) (W : World) (e : Ending) (W' : World) : Prop :=
  (e = .returned (.bool true) ∧ ∃ ys, fmsOf ys = l ∧ J (pre ++ ys) W' ∧ Kx n₀ Bo W W') ∨ (e = .returned (.bool false) ∧ ∃ p, fmsOf p <+: tot ∧ Jx p W')
def YieldOk {H : PH} (n l N n₀ Bo : Nat) (J Jx : List (FmA H) → World → Prop) : Prop :=
  ∀ pre x W, J pre W → pre.length < N → YieldAt Fence.wide (n - 1) Tryz.prog l #[.agg x.1.1.toArray] W fun e W' =>
      (e = .returned (.bool true) ∧ J (pre ++ [x]) W' ∧ Kx n₀ Bo W W') ∨ (e = .returned (.bool false) ∧ Jx (pre ++ [x]) W')
end Go.Proofs.YtabajghokhfmhaaGreat
