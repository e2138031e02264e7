/- As CalmI, where some operations of the region are a chain (each waits for the one before) that changes a state step by step: the phases of a system. -/
import Derived.Test.YtebhdjeognpljaaCalmI
namespace Go.Proofs.Ytebhdjeognpljaa.Ph
open Go.RowKit
set_option linter.unusedSimpArgs false
set_option linter.unusedVariables false
/-- G c: what holds when c operations of the chain are done; L: what a step keeps -/
structure Sys where
  G : Nat → World → Prop
  L : World → World → Prop
  ch : List Nat
  ext : ∀ {w w'}, Ext w w' → L w w'
  gext : ∀ {c w w'}, G c w → Ext w w' → G c w'
  size : ∀ {w w'}, L w w' → w.heap.size ≤ w'.heap.size
def chOk (ops : Array Oper) (m : Nat) (ch : List Nat) : Bool := (List.range ch.length).all fun k => match ch[k]? with
  | some i => decide (i < m) && (match ch[k + 1]? with
    | some j => (afters ops j).contains i
    | none => true)
  | none => true
theorem chOk_lt {ops : Array Oper} {m : Nat} {ch : List Nat} (h : chOk ops m ch = true) {k i : Nat} (hk : ch[k]? = some i) : i < m := by
  unfold chOk at h
  rw [List.all_eq_true] at h
  have := h k (List.mem_range.2 (List.getElem?_eq_some_iff.1 hk).1)
  simp only [hk, Bool.and_eq_true, decide_eq_true_eq] at this
  exact this.1
theorem chOk_next {ops : Array Oper} {m : Nat} {ch : List Nat} (h : chOk ops m ch = true) {k i j : Nat} (hk : ch[k]? = some i) (hj : ch[k + 1]? = some j) : i ∈ afters ops j := by
  unfold chOk at h
  rw [List.all_eq_true] at h
  have := h k (List.mem_range.2 (List.getElem?_eq_some_iff.1 hk).1)
  simp only [hk, hj, Bool.and_eq_true, decide_eq_true_eq, List.contains_iff_mem] at this
  exact this.2
/-- from world W on, what holds lasts -/
def Stable (S : Sys) (R : Prop1) : Prop := ∀ c v w w', S.G c w → R v w → S.L w w' → R v w'
def RunsI (P : Program) (D : List Tmp) (S : Sys) (i : Nat) (a : Act) (E : Env) (o : Oper) (R : Prop1) : Prop :=
  ∀ A w c, S.G c w → (∀ k, S.ch[k]? = some i → k = c) → knows A a w E o.op.operands.toList → ∀ K : Act → World → Prop, (∀ v w', S.L w w' → S.G (if i ∈ S.ch then c + 1 else c) w' → R v w' → (∀ d ∈ D, o.dst = some d → Fr w v w') → K (A.put o.dst v) w') → o.wp P A w K (fun _ _ _ => False)
def doesI (P : Program) (ops : Array Oper) (D : List Tmp) (S : Sys) (i : Nat) (a : Act) (E : Env) (o : Oper) (R : Prop1) : Prop :=
  (o.guard = none ∧ RunsI P D S i a E o R) ∨
  ∃ g b tg Rg, o.guard = some (g, b) ∧ (ops[g]?).bind (·.dst) = some tg ∧ E.lookup tg = some Rg ∧
    ((∀ v w, Rg v w → v = .bool b) ∧ RunsI P D S i a E o R ∨ (∀ v w, Rg v w → v ≠ .bool b) ∧ i ∉ S.ch ∧ ∀ w, R undef w)
/-- the walk in the order of the text -/
def walkI (P : Program) (ops : Array Oper) (D : List Tmp) (S : Sys) (a : Act) (K : Act → World → Prop) : List Oper → Env → Prop
  | [], E => ∀ w, S.G S.ch.length w → fins K w E a
  | o :: rest, E => ∃ d R, o.dst = some d ∧ d < a.tmps.size ∧ Stable S R ∧ doesI P ops D S E.length a E o R ∧ walkI P ops D S a K rest (E ++ [(d, R)])
section
variable {P : Program} {ops : Array Oper} {Q : Exit → Act → World → Prop}
/-- what the walk has shown, step by step, with the whole environment in hand -/
structure StepI (P : Program) (ops : Array Oper) (D : List Tmp) (S : Sys) (a : Act) (E : Env) (i : Nat) (d : Tmp) (R : Prop1) : Prop where
  lt : d < a.tmps.size
  st : Stable S R
  go : ∃ o, ops[i]? = some o ∧ o.dst = some d ∧ doesI P ops D S i a (E.take i) o R
theorem walkI_env {D : List Tmp} {S : Sys} {a : Act} {K : Act → World → Prop} : ∀ (l : List Oper) (E0 : Env), (∀ j o, l[j]? = some o → ops[E0.length + j]? = some o) → walkI P ops D S a K l E0 →
    ∃ E : Env, E.length = l.length ∧ (∀ i d R, E[i]? = some (d, R) → StepI P ops D S a (E0 ++ E) (E0.length + i) d R) ∧ ∀ w, S.G S.ch.length w → fins K w (E0 ++ E) a := by
  intro l
  induction l with
  | nil => intro E0 _ h; exact ⟨[], rfl, by simp, by simpa [walkI] using h⟩
  | cons o rest ih =>
    intro E0 hl h
    obtain ⟨d, R, h1, h2, h3, h4, h5⟩ := h
    obtain ⟨E, e1, e2, e3⟩ := ih (E0 ++ [(d, R)]) (fun j o' hj => by
      have := hl (j + 1) o' (by simpa using hj)
      rw [← this]; congr 1; simp; omega) h5
    refine ⟨(d, R) :: E, by simp [e1], fun i d' R' hi => ?_, by simpa using e3⟩
    cases i with
    | zero =>
      simp only [List.getElem?_cons_zero, Option.some.injEq, Prod.mk.injEq] at hi
      obtain ⟨rfl, rfl⟩ := hi
      refine ⟨h2, h3, o, hl 0 o rfl, h1, ?_⟩
      have : (E0 ++ (d, R) :: E).take (E0.length + 0) = E0 := by simp
      rw [this]; exact h4
    | succ i =>
      have := e2 i d' R' (by simpa using hi)
      rw [List.append_assoc, List.singleton_append] at this
      have e : (E0 ++ [(d, R)]).length + i = E0.length + (i + 1) := by simp; omega
      rwa [e] at this
structure InvI (ops : Array Oper) (D : List Tmp) (m : Nat) (E : Env) (S : Sys) (a : Act) (listed : Array Bool) (A : Act) (w : World) : Prop where
  size : listed.size = ops.size
  clo : ∀ i, listed.getD i false = true → ∀ j ∈ afters ops i, listed.getD j false = true
  post : ∀ i, m ≤ i → listed.getD i false = false
  ext : ∃ c, c ≤ S.ch.length ∧ S.G c w ∧ ∀ k i, S.ch[k]? = some i → (listed.getD i false = true ↔ k < c)
  defs : A.defers = a.defers
  tsz : A.tmps.size = a.tmps.size
  same : ∀ t, (∀ i, i < m → listed.getD i false = true → (ops[i]?).bind (·.dst) ≠ some t) → A.tmps[t]? = a.tmps[t]?
  has : ∀ i d R, listed.getD i false = true → E[i]? = some (d, R) → R (A.tmps.getD d undef) w
  dlt : ∀ i d, i < m → listed.getD i false = true → (ops[i]?).bind (·.dst) = some d → d ∈ D → ∀ g, A.tmps.getD d undef = .pointer (some ⟨g, 0, none⟩) → g < w.heap.size
  dne : ∀ i j d d', i < m → j < m → i ≠ j → listed.getD i false = true → listed.getD j false = true → (ops[i]?).bind (·.dst) = some d → (ops[j]?).bind (·.dst) = some d' → d ∈ D → d' ∈ D →
    ∀ g g', A.tmps.getD d undef = .pointer (some ⟨g, 0, none⟩) → A.tmps.getD d' undef = .pointer (some ⟨g', 0, none⟩) → g ≠ g'
theorem wp_region_D (m : Nat) (D : List Tmp) {id : Nat} {a : Act} {W : World} {S : Sys} (h0 : S.G 0 W.drew) (hch : chOk ops m S.ch = true) (hm : P.follows .mixedOrders = true) (hc : okI ops m = true) (hD : (D.all fun d => (List.range m).any fun i => (ops[i]?).bind (·.dst) == some d) = true)
    (h : walkI P ops D S a (fun A w => Dist D A → wpList P ops Q (ops.toList.drop m) A w) (ops.toList.take m) []) : (Code.region id ops true).wp P Q a W := by
  simp only [okI, Bool.and_eq_true, decide_eq_true_eq, List.all_eq_true, List.mem_range, Bool.or_eq_true] at hc
  obtain ⟨⟨⟨⟨hm1, hsel⟩, hlt'⟩, hpre⟩, hpost'⟩ := hc
  have hlt : ∀ i j, j ∈ afters ops i → j < i := by
    intro i j hj
    by_cases hi : i < ops.size
    · exact hlt' i hi j hj
    · obtain ⟨o, ho, -⟩ := mem_afters.1 hj
      rw [Array.getElem?_eq_none (by omega)] at ho; cases ho
  have hpost : ∀ i, m ≤ i → i < ops.size → ∀ j, j < i → need ops i i j = true := by
    intro i h1 h2 j hj
    rcases hpost' i h2 with h3 | h3
    · omega
    · exact h3 j hj
  obtain ⟨E, e1, e2, e3⟩ := walkI_env (ops := ops) (ops.toList.take m) [] (fun j o hj => by
    rw [List.getElem?_take] at hj
    split at hj
    · simpa using hj
    · cases hj) h
  simp only [List.nil_append, List.length_nil, Nat.zero_add] at e2 e3
  have hEl : E.length = m := by rw [e1]; simp; omega
  have dstE : ∀ (i : Nat) (d : Tmp) (R : Prop1), E[i]? = some (d, R) → (ops[i]?).bind (·.dst) = some d ∧ i < m := by
    intro i d R hi
    obtain ⟨o, h1, h2, -⟩ := (e2 i d R hi).go
    exact ⟨by simp [h1, h2], by rw [← hEl]; exact (List.getElem?_eq_some_iff.1 hi).1⟩
  have distinct : ∀ (i j : Nat) (d : Tmp), i < m → j < m → (ops[i]?).bind (·.dst) = some d → (ops[j]?).bind (·.dst) = some d → i = j := by
    intro i j d hi hj h1 h2
    have := hpre i hi
    unfold okPre at this
    cases ho : ops[i]? with
    | none => simp [ho] at h1
    | some o =>
      simp only [ho, Option.bind_some] at h1 this
      simp only [h1, Bool.and_eq_true, List.all_eq_true, List.mem_range, Bool.or_eq_true, beq_iff_eq, bne_iff_ne] at this
      rcases this.1 j hj with h3 | h3
      · exact h3.symm
      · exact absurd h2 h3
  have distOf : ∀ (listed : Array Bool) (A : Act) (w : World), InvI ops D m E S a listed A w → (∀ i, i < m → listed.getD i false = true) → Dist D A := by
    intro listed A w hI hall d hd d' hd' hne g g' hg hg'
    simp only [List.all_eq_true, List.any_eq_true, List.mem_range, beq_iff_eq] at hD
    obtain ⟨i, hi, h1⟩ := hD d hd
    obtain ⟨j, hj, h2⟩ := hD d' hd'
    refine hI.dne i j d d' hi hj (fun e => ?_) (hall i hi) (hall j hj) h1 h2 hd hd' g g' hg hg'
    subst e
    rw [h1] at h2
    exact hne (Option.some.inj h2)
  have full : ∀ (listed : Array Bool) (A : Act) (w : World), InvI ops D m E S a listed A w → (∀ i, i < m → listed.getD i false = true) → S.G S.ch.length w := by
    intro listed A w hI hall
    obtain ⟨c, hc1, hc2, hc3⟩ := hI.ext
    rcases Nat.lt_or_ge c S.ch.length with h | h
    · have h1 : S.ch[c]? = some S.ch[c] := List.getElem?_eq_getElem h
      have h2 := (hc3 c _ h1).1 (hall _ (chOk_lt hch h1))
      omega
    · have : c = S.ch.length := by omega
      rw [← this]; exact hc2
  refine wp_region_any hm ?_
  have main : ∀ (n : Nat) (listed : Array Bool) (A : Act) (w : World), (List.range ops.size).countP (fun i => !listed.getD i false) = n → InvI ops D m E S a listed A w → wpAny P .any ops Q n listed A w := by
    intro n
    induction n with
    | zero =>
      intro listed A w hn hI
      by_cases hmn : m < ops.size
      · exfalso
        rw [List.countP_eq_zero] at hn
        have := hn m (List.mem_range.2 hmn)
        rw [hI.post m (Nat.le_refl _)] at this
        simp at this
      · have hall : ∀ i, i < ops.size → listed.getD i false = true := by
          intro i hi
          rw [List.countP_eq_zero] at hn
          have := hn i (List.mem_range.2 hi)
          simpa using this
        have hmm : m = ops.size := by omega
        have hall' : ∀ i, i < m → listed.getD i false = true := fun i hi => hall i (by omega)
        refine wpAny_tail (m := m) hlt hpost 0 ops.size listed A w (by omega) (by omega) hI.size (fun j hj => by rw [hall j hj]; simp [hj]) ?_
        have hdist : Dist D A := distOf listed A w hI hall'
        have := fins_done E a A hI.defs hI.tsz (fun i d R hi => ⟨(e2 i d R hi).lt, hI.has i d R (hall i (by have := (dstE i d R hi).2; omega)) hi⟩) (fun t ht => hI.same t fun i hi _ hdi => by
          have hiE : i < E.length := by omega
          obtain ⟨d, R, hx'⟩ := env_get hiE
          have h5 := (dstE i d R hx').1
          rw [hdi] at h5
          cases h5
          exact ht i _ R hx' rfl) (e3 w (full listed A w hI hall'))
        have := this hdist
        rw [hmm] at this; exact this
    | succ n ih =>
      intro listed A w hn hI
      have hsz := hI.size
      by_cases hall : ∀ i, i < m → listed.getD i false = true
      · -- all of the first part are done
        have hdone := fins_done E a A hI.defs hI.tsz (fun i d R hi => ⟨(e2 i d R hi).lt, hI.has i d R (hall i (dstE i d R hi).2) hi⟩) (fun t ht => hI.same t fun i hi _ hdi => by
          have hiE : i < E.length := by omega
          obtain ⟨d, R, hx'⟩ := env_get hiE
          have h5 := (dstE i d R hx').1
          rw [hdi] at h5
          cases h5
          exact ht i _ R hx' rfl) (e3 w (full listed A w hI hall))
        have hdone := hdone (distOf listed A w hI hall)
        have hl : ∀ j, j < ops.size → listed.getD j false = decide (j < m) := by
          intro j hj
          by_cases hjm : j < m
          · rw [hall j hjm]; simp [hjm]
          · rw [hI.post j (by omega)]; simp [hjm]
        have hcount : n + 1 + m = ops.size := by
          have h1 : (List.range ops.size).countP (fun i => !listed.getD i false) = (List.range ops.size).countP (fun i => decide (m ≤ i)) := by
            refine List.countP_congr fun i hi => ?_
            rw [hl i (List.mem_range.1 hi)]
            by_cases hx : i < m <;> simp [hx] <;> omega
          have h2 : ∀ k, (List.range k).countP (fun i => decide (m ≤ i)) = k - m := by
            intro k
            induction k with
            | zero => simp
            | succ k ihk =>
              rw [List.range_succ, List.countP_append, ihk]
              by_cases hx : m ≤ k
              · simp [hx]; omega
              · simp [hx]; omega
          rw [h1, h2] at hn; omega
        exact wpAny_tail (m := m) hlt hpost (n + 1) m listed A w hcount (Nat.le_refl _) hsz hl hdone
      · refine ⟨fun h0 => ?_, fun i hi => ?_⟩
        · -- some op is ready
          exfalso
          apply hall
          intro i
          induction i using Nat.strongRecOn with
          | ind i ihi =>
            intro him
            cases hx : listed.getD i false with
            | true => rfl
            | false =>
              have : i ∈ Region.ready .any ops listed := by
                rw [ready_afters]
                refine ⟨by rw [getD_tf (by omega)]; exact hx, ⟨ops[i]'(by omega), by simp [show i < ops.size by omega]⟩, fun j hj => ?_⟩
                have := hlt i j hj
                exact ihi j this (by omega)
              rw [h0] at this; cases this
        · obtain ⟨h1, ⟨oi, h2⟩, h3⟩ := ready_afters.1 hi
          have hio : i < ops.size := (Array.getElem?_eq_some_iff.1 h2).1
          have him : i < m := by
            rcases Nat.lt_or_ge i m with h | h
            · exact h
            · exfalso
              apply hall
              intro j hj
              exact need_listed hI.clo i i j (hpost i h hio j (by omega)) h3
          rw [getD_tf (by omega)] at h1
          have hiE : i < E.length := by omega
          obtain ⟨d, R, hx'⟩ := env_get hiE
          have hst := e2 i d R hx'
          obtain ⟨o', ho', hdst, hdo⟩ := hst.go
          obtain rfl : o' = oi := by rw [h2] at ho'; exact (Option.some.inj ho').symm
          have hok := hpre i him
          simp only [okPre, h2, hdst, Bool.and_eq_true, List.all_eq_true, List.mem_range, Bool.or_eq_true, beq_iff_eq, bne_iff_ne, List.contains_iff_mem] at hok
          -- what the operands are
          have hslot : ∀ t, t ∈ o'.looksAt ops → (∀ R', (E.take i).lookup t = some R' → R' (A.tmps.getD t undef) w) ∧ ((E.take i).lookup t = none → A.tmps[t]? = a.tmps[t]?) := by
            intro t ht
            refine ⟨fun R' hR' => ?_, fun hn' => ?_⟩
            · obtain ⟨j, hj⟩ := lookup_getD hR'
              have hji : j < i := by
                have := (List.getElem?_eq_some_iff.1 hj).1
                rw [List.length_take] at this; omega
              rw [List.getElem?_take, if_pos hji] at hj
              have hdj := dstE j t R' hj
              rcases hok.2 t ht j hdj.2 with h4 | h4
              · exact absurd hdj.1 h4
              · exact hI.has j t R' (h3 j h4) hj
            · refine hI.same t fun j hj hlj hdj => ?_
              rcases hok.2 t ht j hj with h4 | h4
              · exact h4 hdj
              · have hji := hlt i j h4
                have hjE : j < E.length := by omega
                obtain ⟨d', R', hy'⟩ := env_get hjE
                have h5 := (dstE j d' R' hy').1
                rw [hdj] at h5
                cases h5
                exact lookup_none hn' j t R' (by rw [List.getElem?_take, if_pos hji]; exact hy') rfl
          have hknow : ∀ l : List Operand, (∀ x ∈ l, ∀ t, x = .tmp t → t ∈ o'.looksAt ops) → knows A a w (E.take i) l := by
            intro l
            induction l with
            | nil => intro _; trivial
            | cons x xs ihx =>
              intro hl
              refine ⟨?_, ihx fun y hy => hl y (by simp [hy])⟩
              cases x with
              | tmp t =>
                have hs := hslot t (hl _ (by simp) t rfl)
                simp only []
                cases hlk : (E.take i).lookup t with
                | some R' =>
                  simp only []
                  have := hs.1 R' hlk
                  simpa [Act.eval] using this
                | none =>
                  simp only []
                  have := hs.2 hlk
                  simp only [Act.eval, Array.getD_eq_getD_getElem?, this]
              | _ => rfl
          have hops : knows A a w (E.take i) o'.op.operands.toList := hknow _ fun x hx t ht => by
            subst ht
            exact List.mem_append_left _ (List.mem_filterMap.2 ⟨.tmp t, hx, rfl⟩)
          -- behind it
          obtain ⟨c, hc1, hc2, hc3⟩ := hI.ext
          have hpos : ∀ k, S.ch[k]? = some i → k = c := by
            intro k hk
            have h4 : ¬ k < c := fun h => by have := (hc3 k i hk).2 h; rw [h1] at this; cases this
            rcases Nat.lt_or_ge c k with h5 | h5
            · obtain ⟨i0, h6⟩ : ∃ i0, S.ch[k - 1]? = some i0 := ⟨_, List.getElem?_eq_getElem (show k - 1 < S.ch.length by have := (List.getElem?_eq_some_iff.1 hk).1; omega)⟩
              have h7 := chOk_next hch h6 (by rw [show k - 1 + 1 = k by omega]; exact hk)
              have := (hc3 _ _ h6).1 (h3 _ h7)
              omega
            · omega
          have key : ∀ v w', S.L w w' → S.G (if i ∈ S.ch then c + 1 else c) w' → R v w' → (∀ e ∈ D, o'.dst = some e → Fr w v w') → wpAny P .any ops Q n (listed.setIfInBounds i true) (A.put o'.dst v) w' := by
            intro v w' hww hGw hR hFr
            have hdA : d < A.tmps.size := by rw [hI.tsz]; exact hst.lt
            refine ih _ _ _ ?_ ?_
            · have h6 : (List.range ops.size).countP (fun k => !listed.getD k false) = (List.range ops.size).countP (fun k => !(listed.setIfInBounds i true).getD k false) + 1 := by
                have gen : ∀ (l : List Nat), l.Nodup → i ∈ l → l.countP (fun k => !listed.getD k false) = l.countP (fun k => !(listed.setIfInBounds i true).getD k false) + 1 := by
                  intro l
                  induction l with
                  | nil => intro _ h; cases h
                  | cons x xs ihl =>
                    intro hnd hmem
                    rw [List.nodup_cons] at hnd
                    rcases List.mem_cons.1 hmem with rfl | hmem
                    · have h7 : xs.countP (fun k => !listed.getD k false) = xs.countP (fun k => !(listed.setIfInBounds i true).getD k false) := by
                        refine List.countP_congr fun k hk => ?_
                        rw [getD_set_ne _ (fun e => hnd.1 (by rw [e]; exact hk))]
                      rw [List.countP_cons, List.countP_cons, h7]
                      have h8 : (listed.setIfInBounds i true).getD i false = true := by simp [Array.getD_eq_getD_getElem?, show i < listed.size by omega]
                      rw [h1, h8]; simp
                    · have hne : i ≠ x := fun e => hnd.1 (by rw [← e]; exact hmem)
                      rw [List.countP_cons, List.countP_cons, ihl hnd.2 hmem, getD_set_ne _ hne]; omega
                exact gen _ List.nodup_range (List.mem_range.2 hio)
              omega
            · refine ⟨by simpa using hI.size, fun k hk j hj => ?_, fun k hk => ?_, ?_, by rw [hdst]; exact hI.defs, by rw [hdst]; simpa [Act.put] using hI.tsz, fun t ht => ?_, fun k d' R' hk hE' => ?_, fun k d' hk hlk hdk hdD g hg => ?_, fun k l d1 d2 hk hl hkl hlk hll hdk hdl h1D h2D g g' hg hg' => ?_⟩
              · by_cases hki : i = k
                · subst hki
                  have := h3 j hj
                  exact getD_set_true this
                · rw [getD_set_ne _ hki] at hk
                  exact getD_set_true (hI.clo k hk j hj)
              · rw [getD_set_ne _ (by omega)]; exact hI.post k hk
              · have hlisted : (listed.setIfInBounds i true).getD i false = true := by simp [Array.getD_eq_getD_getElem?, show i < listed.size by omega]
                by_cases hic : i ∈ S.ch
                · rw [if_pos hic] at hGw
                  obtain ⟨k0, hk0⟩ := List.getElem?_of_mem hic
                  have hk0c := hpos k0 hk0
                  subst hk0c
                  refine ⟨k0 + 1, (List.getElem?_eq_some_iff.1 hk0).1, hGw, fun k i' hk => ?_⟩
                  by_cases hii : i = i'
                  · subst hii
                    have := hpos k hk
                    subst this
                    simp [hlisted]
                  · rw [getD_set_ne _ hii, hc3 k i' hk]
                    have : k ≠ k0 := fun e => by subst e; rw [hk0] at hk; exact hii (Option.some.inj hk)
                    omega
                · rw [if_neg hic] at hGw
                  refine ⟨c, hc1, hGw, fun k i' hk => ?_⟩
                  have hii : i ≠ i' := fun e => by subst e; exact hic (List.mem_of_getElem? hk)
                  rw [getD_set_ne _ hii, hc3 k i' hk]
              · have hdt : d ≠ t := by
                  intro e; subst e
                  exact ht i him (by simp [Array.getD_eq_getD_getElem?, show i < listed.size by omega]) (by simp [h2, hdst])
                rw [hdst]
                simp only [Act.put]
                rw [Array.getElem?_setIfInBounds_ne hdt]
                exact hI.same t fun k hk hlk => ht k hk (getD_set_true hlk)
              · by_cases hki : i = k
                · subst hki
                  rw [hx'] at hE'
                  cases hE'
                  rw [hdst]
                  simp only [Act.put]
                  have : (A.tmps.setIfInBounds d v).getD d undef = v := by simp [Array.getD_eq_getD_getElem?, hdA]
                  rw [this]; exact hR
                · rw [getD_set_ne _ hki] at hk
                  have h7 := hI.has k d' R' hk hE'
                  have hne : d ≠ d' := fun e => by
                    subst e
                    have h8 := dstE k d R' hE'
                    exact hki (distinct i k d him h8.2 (by simp [h2, hdst]) h8.1)
                  rw [hdst]
                  simp only [Act.put]
                  have : (A.tmps.setIfInBounds d v).getD d' undef = A.tmps.getD d' undef := by simp [Array.getD_eq_getD_getElem?, Array.getElem?_setIfInBounds_ne hne]
                  rw [this]
                  exact (e2 k d' R' hE').st _ _ _ _ hc2 h7 hww
              · by_cases hki : i = k
                · subst hki
                  obtain rfl : d' = d := by rw [h2, Option.bind_some, hdst] at hdk; exact (Option.some.inj hdk).symm
                  rw [hdst] at hg
                  simp only [Act.put] at hg
                  have : (A.tmps.setIfInBounds d' v).getD d' undef = v := by simp [Array.getD_eq_getD_getElem?, hdA]
                  rw [this] at hg
                  exact (hFr d' hdD hdst g hg).2
                · rw [getD_set_ne _ hki] at hlk
                  have hne : d ≠ d' := fun e => by
                    subst e
                    exact hki (distinct i k d him hk (by simp [h2, hdst]) hdk)
                  rw [hdst] at hg
                  simp only [Act.put] at hg
                  have : (A.tmps.setIfInBounds d v).getD d' undef = A.tmps.getD d' undef := by simp [Array.getD_eq_getD_getElem?, Array.getElem?_setIfInBounds_ne hne]
                  rw [this] at hg
                  have := hI.dlt k d' hk hlk hdk hdD g hg
                  have := S.size hww
                  omega
              · have slotO : ∀ k d', k < m → k ≠ i → (ops[k]?).bind (·.dst) = some d' → (A.put o'.dst v).tmps.getD d' undef = A.tmps.getD d' undef := by
                  intro k d' hk hki hdk
                  have hne : d ≠ d' := fun e => by
                    subst e
                    exact hki (distinct i k d him hk (by simp [h2, hdst]) hdk).symm
                  rw [hdst]
                  simp only [Act.put]
                  simp [Array.getD_eq_getD_getElem?, Array.getElem?_setIfInBounds_ne hne]
                have slotI : ∀ d', (ops[i]?).bind (·.dst) = some d' → (A.put o'.dst v).tmps.getD d' undef = v ∧ o'.dst = some d' := by
                  intro d' hdk
                  obtain rfl : d' = d := by rw [h2, Option.bind_some, hdst] at hdk; exact (Option.some.inj hdk).symm
                  refine ⟨?_, hdst⟩
                  rw [hdst]
                  simp only [Act.put]
                  simp [Array.getD_eq_getD_getElem?, hdA]
                by_cases hki : i = k
                · subst hki
                  have a1 := slotI d1 hdk
                  rw [a1.1] at hg
                  rw [slotO l d2 hl (Ne.symm hkl) hdl] at hg'
                  rw [getD_set_ne _ hkl] at hll
                  have b1 := hFr d1 h1D a1.2 g hg
                  have b2 := hI.dlt l d2 hl hll hdl h2D g' hg'
                  omega
                · rw [getD_set_ne _ hki] at hlk
                  rw [slotO k d1 hk (Ne.symm hki) hdk] at hg
                  by_cases hli : i = l
                  · subst hli
                    have a1 := slotI d2 hdl
                    rw [a1.1] at hg'
                    have b1 := hFr d2 h2D a1.2 g' hg'
                    have b2 := hI.dlt k d1 hk hlk hdk h1D g hg
                    omega
                  · rw [getD_set_ne _ hli] at hll
                    rw [slotO l d2 hl (Ne.symm hli) hdl] at hg'
                    exact hI.dne k l d1 d2 hk hl hkl hlk hll hdk hdl h1D h2D g g' hg hg'
          unfold wpOp
          simp only [h2]
          have runs : RunsI P D S i a (E.take i) o' R → o'.wp P A w (wpAny P .any ops Q n (listed.setIfInBounds i true)) Q := fun hr => wp_weaken (hr A w c hc2 hpos hops _ key)
          rcases hdo with ⟨hg, hr⟩ | ⟨g, b, tg, Rg, hg, htg, hlk, hcase⟩
          · rw [if_pos (by simp [Region.wanted, hg])]
            exact .inl (runs hr)
          · have hsg := (hslot tg (List.mem_append_right _ (by simp [hg, htg]))).1 Rg hlk
            obtain ⟨jg, hjg⟩ := lookup_getD hlk
            have hjg' : E[jg]? = some (tg, Rg) := by
              rw [List.getElem?_take] at hjg
              split at hjg
              · exact hjg
              · cases hjg
            have htsz : tg < A.tmps.size := by rw [hI.tsz]; exact (e2 jg tg Rg hjg').lt
            have hyl : ∀ c, A.tmps.getD tg undef = .bool c → yielded ops A.tmps g = some c := by
              intro c hcv
              have : A.tmps[tg]? = some (.bool c) := by
                rw [← hcv]; simp [Array.getD_eq_getD_getElem?, htsz]
              simp [yielded, htg, this]
            rcases hcase with ⟨h4, hr⟩ | ⟨h4, hni, h5⟩
            · rw [if_pos (by simp [Region.wanted, hg, hyl b (h4 _ _ hsg)])]
              exact .inl (runs hr)
            · rw [if_neg (by
                simp only [Region.wanted, hg, beq_iff_eq]
                intro hy
                refine h4 _ _ hsg ?_
                unfold yielded at hy
                simp only [htg, Option.bind_some] at hy
                split at hy
                · rename_i c hc
                  cases hy
                  simp [Array.getD_eq_getD_getElem?, hc]
                · cases hy)]
              exact key undef w (S.ext (Ext.rfl' w)) (by rw [if_neg hni]; exact hc2) (h5 w) (fun _ _ _ g hg => by cases hg)
  have h0' : (List.range ops.size).countP (fun i => !(Array.replicate ops.size false).getD i false) = ops.size := by
    have : (List.range ops.size).countP (fun i => !(Array.replicate ops.size false).getD i false) = (List.range ops.size).length := by
      rw [List.countP_eq_length]
      intro i hi
      have := List.mem_range.1 hi
      simp [Array.getD_eq_getD_getElem?, this]
    rw [this, List.length_range]
  have hf : ∀ i, (Array.replicate ops.size false).getD i false = false := by
    intro i
    by_cases h : i < ops.size
    · simp [Array.getD_eq_getD_getElem?, h]
    · simp [Array.getD_eq_getD_getElem?, Array.getElem?_eq_none, show ops.size ≤ i by omega]
  exact main ops.size _ a _ h0' ⟨by simp, fun i hi => absurd hi (by rw [hf]; simp), fun i _ => hf i, ⟨0, Nat.zero_le _, h0, fun k i _ => by rw [hf]; simp⟩, rfl, rfl, fun _ _ => rfl, fun i d R hi => absurd hi (by rw [hf]; simp), fun i d _ hi => absurd hi (by rw [hf]; simp), fun i j d d' _ _ _ hi => absurd hi (by rw [hf]; simp)⟩
theorem wp_region_I (m : Nat) {id : Nat} {a : Act} {W : World} {S : Sys} (h0 : S.G 0 W.drew) (hch : chOk ops m S.ch = true) (hm : P.follows .mixedOrders = true) (hc : okI ops m = true)
    (h : walkI P ops [] S a (fun A w => wpList P ops Q (ops.toList.drop m) A w) (ops.toList.take m) []) : (Code.region id ops true).wp P Q a W := by
  refine wp_region_D m [] h0 hch hm hc rfl ?_
  have : (fun A w => Dist [] A → wpList P ops Q (ops.toList.drop m) A w) = fun A w => wpList P ops Q (ops.toList.drop m) A w := by
    funext A w
    exact propext ⟨fun h => h (fun _ h => by cases h), fun h _ => h⟩
  rw [this]; exact h
theorem walkI_step {D : List Tmp} {S : Sys} {a : Act} {K : Act → World → Prop} {o : Oper} {rest : List Oper} {E : Env} {d : Tmp} (R : Prop1) (hd : o.dst = some d) (hl : d < a.tmps.size) (hg : o.guard = none) (hs : Stable S R)
    (hr : ∀ A w c, S.G c w → knows A a w E o.op.operands.toList → ∀ K : Act → World → Prop, (∀ v w', Ext w w' → R v w' → K (A.put (some d) v) w') → o.wp P A w K (fun _ _ _ => False))
    (h : walkI P ops D S a K rest (E ++ [(d, R)])) (hn : d ∉ D := by simp) (hi : E.length ∉ S.ch := by simp) : walkI P ops D S a K (o :: rest) E :=
  ⟨d, R, hd, hl, hs, .inl ⟨hg, by
    unfold RunsI; rw [hd]
    exact fun A w c h1 _ h2 K hK => hr A w c h1 h2 K fun v w' h3 h4 => hK v w' (S.ext h3) (by rw [if_neg hi]; exact S.gext h1 h3) h4 fun e he hde => by cases hde; exact absurd he hn⟩, h⟩
theorem walkI_is {D : List Tmp} {S : Sys} {a : Act} {K : Act → World → Prop} {o : Oper} {rest : List Oper} {E : Env} {d : Tmp} {u : Value} (hd : o.dst = some d) (hl : d < a.tmps.size) (hg : o.guard = none)
    (hr : ∀ A w c, S.G c w → knows A a w E o.op.operands.toList → ∀ K : Act → World → Prop, (∀ w', Ext w w' → K (A.put (some d) u) w') → o.wp P A w K (fun _ _ _ => False))
    (h : walkI P ops D S a K rest (E ++ [(d, Is u)])) (hn : d ∉ D := by simp) (hi : E.length ∉ S.ch := by simp) : walkI P ops D S a K (o :: rest) E :=
  walkI_step (Is u) hd hl hg (fun _ _ _ _ _ h _ => h) (fun A w c hw hk K hK => hr A w c hw hk K fun w' hw' => hK u w' hw' rfl) h hn hi
theorem walkI_yes {D : List Tmp} {S : Sys} {a : Act} {K : Act → World → Prop} {o : Oper} {rest : List Oper} {E : Env} {d g tg : Nat} {b : Bool} (R : Prop1) (hd : o.dst = some d) (hl : d < a.tmps.size) (hg : o.guard = some (g, b)) (htg : (ops[g]?).bind (·.dst) = some tg) (hlk : E.lookup tg = some (Is (.bool b))) (hs : Stable S R)
    (hr : ∀ A w c, S.G c w → knows A a w E o.op.operands.toList → ∀ K : Act → World → Prop, (∀ v w', Ext w w' → R v w' → K (A.put (some d) v) w') → o.wp P A w K (fun _ _ _ => False))
    (h : walkI P ops D S a K rest (E ++ [(d, R)])) (hn : d ∉ D := by simp) (hi : E.length ∉ S.ch := by simp) : walkI P ops D S a K (o :: rest) E :=
  ⟨d, R, hd, hl, hs, .inr ⟨g, b, tg, _, hg, htg, hlk, .inl ⟨fun _ _ h => h, by
    unfold RunsI; rw [hd]
    exact fun A w c h1 _ h2 K hK => hr A w c h1 h2 K fun v w' h3 h4 => hK v w' (S.ext h3) (by rw [if_neg hi]; exact S.gext h1 h3) h4 fun e he hde => by cases hde; exact absurd he hn⟩⟩, h⟩
theorem walkI_yesis {D : List Tmp} {S : Sys} {a : Act} {K : Act → World → Prop} {o : Oper} {rest : List Oper} {E : Env} {d g tg : Nat} {b : Bool} {u : Value} (hd : o.dst = some d) (hl : d < a.tmps.size) (hg : o.guard = some (g, b)) (htg : (ops[g]?).bind (·.dst) = some tg) (hlk : E.lookup tg = some (Is (.bool b)))
    (hr : ∀ A w c, S.G c w → knows A a w E o.op.operands.toList → ∀ K : Act → World → Prop, (∀ w', Ext w w' → K (A.put (some d) u) w') → o.wp P A w K (fun _ _ _ => False))
    (h : walkI P ops D S a K rest (E ++ [(d, Is u)])) (hn : d ∉ D := by simp) (hi : E.length ∉ S.ch := by simp) : walkI P ops D S a K (o :: rest) E :=
  walkI_yes (Is u) hd hl hg htg hlk (fun _ _ _ _ _ h _ => h) (fun A w c hw hk K hK => hr A w c hw hk K fun w' hw' => hK u w' hw' rfl) h hn hi
theorem walkI_no {D : List Tmp} {S : Sys} {a : Act} {K : Act → World → Prop} {o : Oper} {rest : List Oper} {E : Env} {d g tg : Nat} {b : Bool} {u : Value} (hd : o.dst = some d) (hl : d < a.tmps.size) (hg : o.guard = some (g, b)) (htg : (ops[g]?).bind (·.dst) = some tg) (hlk : E.lookup tg = some (Is u)) (hbc : u ≠ .bool b)
    (h : walkI P ops D S a K rest (E ++ [(d, Is undef)])) (hi : E.length ∉ S.ch := by simp) : walkI P ops D S a K (o :: rest) E :=
  ⟨d, Is undef, hd, hl, fun _ _ _ _ _ h _ => h, .inr ⟨g, b, tg, _, hg, htg, hlk, .inr ⟨fun _ _ h => by rw [h]; exact hbc, hi, fun _ => rfl⟩⟩, h⟩
/-- operation number c of the chain -/
theorem walkI_chain {D : List Tmp} {S : Sys} {a : Act} {K : Act → World → Prop} {o : Oper} {rest : List Oper} {E : Env} {d : Tmp} {u : Value} (c : Nat) (hc : S.ch[c]? = some E.length) (hd : o.dst = some d) (hl : d < a.tmps.size) (hg : o.guard = none)
    (hr : ∀ A w, S.G c w → knows A a w E o.op.operands.toList → ∀ K : Act → World → Prop, (∀ w', S.L w w' → S.G (c + 1) w' → K (A.put (some d) u) w') → o.wp P A w K (fun _ _ _ => False))
    (h : walkI P ops D S a K rest (E ++ [(d, Is u)])) (hn : d ∉ D := by simp) : walkI P ops D S a K (o :: rest) E :=
  ⟨d, Is u, hd, hl, fun _ _ _ _ _ h _ => h, .inl ⟨hg, by
    unfold RunsI; rw [hd]
    intro A w c' h1 hp h2 K hK
    obtain rfl := hp c hc
    refine hr A w h1 h2 K fun w' h3 h4 => hK u w' h3 ?_ rfl fun e he hde => ?_
    · rw [if_pos (List.mem_of_getElem? hc)]; exact h4
    · cases hde; exact absurd he hn⟩, h⟩
theorem walkI_nil {D : List Tmp} {S : Sys} {a : Act} {K : Act → World → Prop} {E : Env} (h : ∀ w, S.G S.ch.length w → fins K w E a) : walkI P ops D S a K [] E := h
end
end Go.Proofs.Ytebhdjeognpljaa.Ph
