/- Lemmas for CB, part 9: a drawn region: some ops in any order, then the rest in any order, and more. -/
import Derived.Deep.CutBlock
import Derived.Test.YtnpnjcaomakehaaGreatCB00
import Derived.Test.YtnpnjcaomakehaaGreatCB01
import Derived.Test.YtnpnjcaomakehaaGreatCB06
import Derived.Test.YtnpnjcaomakehaaGreatCB07
set_option linter.unusedSimpArgs false
set_option linter.unusedVariables false
namespace Go.Proofs.YtnpnjcaomakehaaGreat
def okJ (ops : Array Oper) (m : Nat) : Bool :=
  decide (m ≤ ops.size) && Region.noSelect ops && (List.range ops.size).all (fun i => (afters ops i).all fun j => decide (j < i)) &&
  (List.range m).all (okPre ops m) && (List.range ops.size).all (fun i => decide (i < m) || (List.range m).all fun j => need ops i i j)
def listedJ (ops : Array Oper) (m : Nat) : Array Bool := ((List.range ops.size).map fun j => decide (j < m)).toArray
theorem listedJ_eq {ops : Array Oper} {m : Nat} {listed : Array Bool} (hs : listed.size = ops.size) (hl : ∀ j, j < ops.size → listed.getD j false = decide (j < m)) : listed = listedJ ops m := by
  refine Array.ext (by simp [listedJ, hs]) fun j h1 h2 => ?_
  have := hl j (by omega)
  simp [listedJ]
  rw [← this]
  simp [Array.getD, h1]
section
variable {P : Program} {ops : Array Oper} {Q : Exit → Act → World → Prop}
theorem wpAny_region_J (m : Nat) {a : Act} {W : World} (hc : okJ ops m = true)
    (h : walkI P ops [] W a (fun A w => wpAny P .any ops Q (ops.size - m) (listedJ ops m) A w) (ops.toList.take m) []) : wpAny P .any ops Q ops.size (Array.replicate ops.size false) a { W with drawn := W.drawn + 1 } := by
  simp only [okJ, Bool.and_eq_true, decide_eq_true_eq, List.all_eq_true, List.mem_range, Bool.or_eq_true] at hc
  obtain ⟨⟨⟨⟨hm1, hsel⟩, hlt'⟩, hpre⟩, hpost'⟩ := hc
  have hlt : ∀ i j, j ∈ afters ops i → j < i := by
    intro i j hj
    by_cases hi : i < ops.size
    · exact hlt' i hi j hj
    · obtain ⟨o, ho, -⟩ := mem_afters.1 hj
      rw [Array.getElem?_eq_none (by omega)] at ho; cases ho
  have hpost : ∀ i, m ≤ i → i < ops.size → ∀ j, j < m → need ops i i j = true := by
    intro i h1 h2 j hj
    rcases hpost' i h2 with h3 | h3
    · omega
    · exact h3 j hj
  obtain ⟨E, e1, e2, e3⟩ := walkI_env (ops := ops) (ops.toList.take m) [] (fun j o hj => by
    rw [List.getElem?_take] at hj
    split at hj
    · simpa using hj
    · cases hj) h
  simp only [List.nil_append, List.length_nil, Nat.zero_add] at e2 e3
  have hEl : E.length = m := by rw [e1]; simp; omega
  have dstE : ∀ (i : Nat) (d : Tmp) (R : Prop1), E[i]? = some (d, R) → (ops[i]?).bind (·.dst) = some d ∧ i < m := by
    intro i d R hi
    obtain ⟨o, h1, h2, -⟩ := (e2 i d R hi).go
    exact ⟨by simp [h1, h2], by rw [← hEl]; exact (List.getElem?_eq_some_iff.1 hi).1⟩
  have distinct : ∀ (i j : Nat) (d : Tmp), i < m → j < m → (ops[i]?).bind (·.dst) = some d → (ops[j]?).bind (·.dst) = some d → i = j := by
    intro i j d hi hj h1 h2
    have := hpre i hi
    unfold okPre at this
    cases ho : ops[i]? with
    | none => simp [ho] at h1
    | some o =>
      simp only [ho, Option.bind_some] at h1 this
      simp only [h1, Bool.and_eq_true, List.all_eq_true, List.mem_range, Bool.or_eq_true, beq_iff_eq, bne_iff_ne] at this
      rcases this.1 j hj with h3 | h3
      · exact h3.symm
      · exact absurd h2 h3
  have main : ∀ (n : Nat) (listed : Array Bool) (A : Act) (w : World), (List.range ops.size).countP (fun i => !listed.getD i false) = n → InvI ops [] m E W a listed A w → wpAny P .any ops Q n listed A w := by
    intro n
    induction n with
    | zero =>
      intro listed A w hn hI
      by_cases hmn : m < ops.size
      · exfalso
        rw [List.countP_eq_zero] at hn
        have := hn m (List.mem_range.2 hmn)
        rw [hI.post m (Nat.le_refl _)] at this
        simp at this
      · have hall : ∀ i, i < ops.size → listed.getD i false = true := by
          intro i hi
          rw [List.countP_eq_zero] at hn
          have := hn i (List.mem_range.2 hi)
          simpa using this
        have hmm : m = ops.size := by omega
        have hle : listed = listedJ ops m := listedJ_eq hI.size fun j hj => by rw [hall j hj]; simp; omega
        have := fins_done E a A hI.defs hI.tsz (fun i d R hi => ⟨(e2 i d R hi).lt, hI.has i d R (hall i (by have := (dstE i d R hi).2; omega)) hi⟩) (fun t ht => hI.same t fun i hi _ hdi => by
          have hiE : i < E.length := by omega
          obtain ⟨d, R, hx'⟩ := env_get hiE
          have h5 := (dstE i d R hx').1
          rw [hdi] at h5
          cases h5
          exact ht i _ R hx' rfl) (e3 w hI.ext)
        rw [show ops.size - m = 0 by omega, ← hle] at this
        exact this
    | succ n ih =>
      intro listed A w hn hI
      have hsz := hI.size
      by_cases hall : ∀ i, i < m → listed.getD i false = true
      · -- all of the first part are done
        have hdone := fins_done E a A hI.defs hI.tsz (fun i d R hi => ⟨(e2 i d R hi).lt, hI.has i d R (hall i (dstE i d R hi).2) hi⟩) (fun t ht => hI.same t fun i hi _ hdi => by
          have hiE : i < E.length := by omega
          obtain ⟨d, R, hx'⟩ := env_get hiE
          have h5 := (dstE i d R hx').1
          rw [hdi] at h5
          cases h5
          exact ht i _ R hx' rfl) (e3 w hI.ext)
        have hl : ∀ j, j < ops.size → listed.getD j false = decide (j < m) := by
          intro j hj
          by_cases hjm : j < m
          · rw [hall j hjm]; simp [hjm]
          · rw [hI.post j (by omega)]; simp [hjm]
        have hcount : n + 1 + m = ops.size := by
          have h1 : (List.range ops.size).countP (fun i => !listed.getD i false) = (List.range ops.size).countP (fun i => decide (m ≤ i)) := by
            refine List.countP_congr fun i hi => ?_
            rw [hl i (List.mem_range.1 hi)]
            by_cases hx : i < m <;> simp [hx] <;> omega
          have h2 : ∀ k, (List.range k).countP (fun i => decide (m ≤ i)) = k - m := by
            intro k
            induction k with
            | zero => simp
            | succ k ihk =>
              rw [List.range_succ, List.countP_append, ihk]
              by_cases hx : m ≤ k
              · simp [hx]; omega
              · simp [hx]; omega
          rw [h1, h2] at hn; omega
        have hle : listed = listedJ ops m := listedJ_eq hI.size hl
        rw [show ops.size - m = n + 1 by omega, ← hle] at hdone
        exact hdone
      · refine ⟨fun h0 => ?_, fun i hi => ?_⟩
        · -- some op is ready
          exfalso
          apply hall
          intro i
          induction i using Nat.strongRecOn with
          | ind i ihi =>
            intro him
            cases hx : listed.getD i false with
            | true => rfl
            | false =>
              have : i ∈ Region.ready .any ops listed := by
                rw [ready_afters]
                refine ⟨by rw [getD_tf (by omega)]; exact hx, ⟨ops[i]'(by omega), by simp [show i < ops.size by omega]⟩, fun j hj => ?_⟩
                have := hlt i j hj
                exact ihi j this (by omega)
              rw [h0] at this; cases this
        · obtain ⟨h1, ⟨oi, h2⟩, h3⟩ := ready_afters.1 hi
          have hio : i < ops.size := (Array.getElem?_eq_some_iff.1 h2).1
          have him : i < m := by
            rcases Nat.lt_or_ge i m with h | h
            · exact h
            · exfalso
              apply hall
              intro j hj
              exact need_listed hI.clo i i j (hpost i h hio j (by omega)) h3
          rw [getD_tf (by omega)] at h1
          have hiE : i < E.length := by omega
          obtain ⟨d, R, hx'⟩ := env_get hiE
          have hst := e2 i d R hx'
          obtain ⟨o', ho', hdst, hdo⟩ := hst.go
          obtain rfl : o' = oi := by rw [h2] at ho'; exact (Option.some.inj ho').symm
          have hok := hpre i him
          simp only [okPre, h2, hdst, Bool.and_eq_true, List.all_eq_true, List.mem_range, Bool.or_eq_true, beq_iff_eq, bne_iff_ne, List.contains_iff_mem] at hok
          -- what the operands are
          have hslot : ∀ t, t ∈ o'.looksAt ops → (∀ R', (E.take i).lookup t = some R' → R' (A.tmps.getD t undef) w) ∧ ((E.take i).lookup t = none → A.tmps[t]? = a.tmps[t]?) := by
            intro t ht
            refine ⟨fun R' hR' => ?_, fun hn' => ?_⟩
            · obtain ⟨j, hj⟩ := lookup_getD hR'
              have hji : j < i := by
                have := (List.getElem?_eq_some_iff.1 hj).1
                rw [List.length_take] at this; omega
              rw [List.getElem?_take, if_pos hji] at hj
              have hdj := dstE j t R' hj
              rcases hok.2 t ht j hdj.2 with h4 | h4
              · exact absurd hdj.1 h4
              · exact hI.has j t R' (h3 j h4) hj
            · refine hI.same t fun j hj hlj hdj => ?_
              rcases hok.2 t ht j hj with h4 | h4
              · exact h4 hdj
              · have hji := hlt i j h4
                have hjE : j < E.length := by omega
                obtain ⟨d', R', hy'⟩ := env_get hjE
                have h5 := (dstE j d' R' hy').1
                rw [hdj] at h5
                cases h5
                exact lookup_none hn' j t R' (by rw [List.getElem?_take, if_pos hji]; exact hy') rfl
          have hknow : ∀ l : List Operand, (∀ x ∈ l, ∀ t, x = .tmp t → t ∈ o'.looksAt ops) → knows A a w (E.take i) l := by
            intro l
            induction l with
            | nil => intro _; trivial
            | cons x xs ihx =>
              intro hl
              refine ⟨?_, ihx fun y hy => hl y (by simp [hy])⟩
              cases x with
              | tmp t =>
                have hs := hslot t (hl _ (by simp) t rfl)
                simp only []
                cases hlk : (E.take i).lookup t with
                | some R' =>
                  simp only []
                  have := hs.1 R' hlk
                  simpa [Act.eval] using this
                | none =>
                  simp only []
                  have := hs.2 hlk
                  simp only [Act.eval, Array.getD_eq_getD_getElem?, this]
              | _ => rfl
          have hops : knows A a w (E.take i) o'.op.operands.toList := hknow _ fun x hx t ht => by
            subst ht
            exact List.mem_append_left _ (List.mem_filterMap.2 ⟨.tmp t, hx, rfl⟩)
          -- behind it
          have key : ∀ v w', Ext w w' → R v w' → (∀ e ∈ ([] : List Tmp), o'.dst = some e → Fr w v w') → wpAny P .any ops Q n (listed.setIfInBounds i true) (A.put o'.dst v) w' := by
            intro v w' hww hR hFr
            have hdA : d < A.tmps.size := by rw [hI.tsz]; exact hst.lt
            refine ih _ _ _ ?_ ?_
            · have h6 : (List.range ops.size).countP (fun k => !listed.getD k false) = (List.range ops.size).countP (fun k => !(listed.setIfInBounds i true).getD k false) + 1 := by
                have gen : ∀ (l : List Nat), l.Nodup → i ∈ l → l.countP (fun k => !listed.getD k false) = l.countP (fun k => !(listed.setIfInBounds i true).getD k false) + 1 := by
                  intro l
                  induction l with
                  | nil => intro _ h; cases h
                  | cons x xs ihl =>
                    intro hnd hmem
                    rw [List.nodup_cons] at hnd
                    rcases List.mem_cons.1 hmem with rfl | hmem
                    · have h7 : xs.countP (fun k => !listed.getD k false) = xs.countP (fun k => !(listed.setIfInBounds i true).getD k false) := by
                        refine List.countP_congr fun k hk => ?_
                        rw [getD_set_ne _ (fun e => hnd.1 (by rw [e]; exact hk))]
                      rw [List.countP_cons, List.countP_cons, h7]
                      have h8 : (listed.setIfInBounds i true).getD i false = true := by simp [Array.getD_eq_getD_getElem?, show i < listed.size by omega]
                      rw [h1, h8]; simp
                    · have hne : i ≠ x := fun e => hnd.1 (by rw [← e]; exact hmem)
                      rw [List.countP_cons, List.countP_cons, ihl hnd.2 hmem, getD_set_ne _ hne]; omega
                exact gen _ List.nodup_range (List.mem_range.2 hio)
              omega
            · refine ⟨by simpa using hI.size, fun k hk j hj => ?_, fun k hk => ?_, hI.ext.then hww, by rw [hdst]; exact hI.defs, by rw [hdst]; simpa [Act.put] using hI.tsz, fun t ht => ?_, fun k d' R' hk hE' => ?_, fun k d' hk hlk hdk hdD g hg => ?_, fun k l d1 d2 hk hl hkl hlk hll hdk hdl h1D h2D g g' hg hg' => ?_⟩
              · by_cases hki : i = k
                · subst hki
                  have := h3 j hj
                  exact getD_set_true this
                · rw [getD_set_ne _ hki] at hk
                  exact getD_set_true (hI.clo k hk j hj)
              · rw [getD_set_ne _ (by omega)]; exact hI.post k hk
              · have hdt : d ≠ t := by
                  intro e; subst e
                  exact ht i him (by simp [Array.getD_eq_getD_getElem?, show i < listed.size by omega]) (by simp [h2, hdst])
                rw [hdst]
                simp only [Act.put]
                rw [Array.getElem?_setIfInBounds_ne hdt]
                exact hI.same t fun k hk hlk => ht k hk (getD_set_true hlk)
              · by_cases hki : i = k
                · subst hki
                  rw [hx'] at hE'
                  cases hE'
                  rw [hdst]
                  simp only [Act.put]
                  have : (A.tmps.setIfInBounds d v).getD d undef = v := by simp [Array.getD_eq_getD_getElem?, hdA]
                  rw [this]; exact hR
                · rw [getD_set_ne _ hki] at hk
                  have h7 := hI.has k d' R' hk hE'
                  have hne : d ≠ d' := fun e => by
                    subst e
                    have h8 := dstE k d R' hE'
                    exact hki (distinct i k d him h8.2 (by simp [h2, hdst]) h8.1)
                  rw [hdst]
                  simp only [Act.put]
                  have : (A.tmps.setIfInBounds d v).getD d' undef = A.tmps.getD d' undef := by simp [Array.getD_eq_getD_getElem?, Array.getElem?_setIfInBounds_ne hne]
                  rw [this]
                  exact (e2 k d' R' hE').st _ _ _ hI.ext h7 hww
              · by_cases hki : i = k
                · subst hki
                  obtain rfl : d' = d := by rw [h2, Option.bind_some, hdst] at hdk; exact (Option.some.inj hdk).symm
                  rw [hdst] at hg
                  simp only [Act.put] at hg
                  have : (A.tmps.setIfInBounds d' v).getD d' undef = v := by simp [Array.getD_eq_getD_getElem?, hdA]
                  rw [this] at hg
                  exact (hFr d' hdD hdst g hg).2
                · rw [getD_set_ne _ hki] at hlk
                  have hne : d ≠ d' := fun e => by
                    subst e
                    exact hki (distinct i k d him hk (by simp [h2, hdst]) hdk)
                  rw [hdst] at hg
                  simp only [Act.put] at hg
                  have : (A.tmps.setIfInBounds d v).getD d' undef = A.tmps.getD d' undef := by simp [Array.getD_eq_getD_getElem?, Array.getElem?_setIfInBounds_ne hne]
                  rw [this] at hg
                  have := hI.dlt k d' hk hlk hdk hdD g hg
                  have := hww.size
                  omega
              · have slotO : ∀ k d', k < m → k ≠ i → (ops[k]?).bind (·.dst) = some d' → (A.put o'.dst v).tmps.getD d' undef = A.tmps.getD d' undef := by
                  intro k d' hk hki hdk
                  have hne : d ≠ d' := fun e => by
                    subst e
                    exact hki (distinct i k d him hk (by simp [h2, hdst]) hdk).symm
                  rw [hdst]
                  simp only [Act.put]
                  simp [Array.getD_eq_getD_getElem?, Array.getElem?_setIfInBounds_ne hne]
                have slotI : ∀ d', (ops[i]?).bind (·.dst) = some d' → (A.put o'.dst v).tmps.getD d' undef = v ∧ o'.dst = some d' := by
                  intro d' hdk
                  obtain rfl : d' = d := by rw [h2, Option.bind_some, hdst] at hdk; exact (Option.some.inj hdk).symm
                  refine ⟨?_, hdst⟩
                  rw [hdst]
                  simp only [Act.put]
                  simp [Array.getD_eq_getD_getElem?, hdA]
                by_cases hki : i = k
                · subst hki
                  have a1 := slotI d1 hdk
                  rw [a1.1] at hg
                  rw [slotO l d2 hl (Ne.symm hkl) hdl] at hg'
                  rw [getD_set_ne _ hkl] at hll
                  have b1 := hFr d1 h1D a1.2 g hg
                  have b2 := hI.dlt l d2 hl hll hdl h2D g' hg'
                  omega
                · rw [getD_set_ne _ hki] at hlk
                  rw [slotO k d1 hk (Ne.symm hki) hdk] at hg
                  by_cases hli : i = l
                  · subst hli
                    have a1 := slotI d2 hdl
                    rw [a1.1] at hg'
                    have b1 := hFr d2 h2D a1.2 g' hg'
                    have b2 := hI.dlt k d1 hk hlk hdk h1D g hg
                    omega
                  · rw [getD_set_ne _ hli] at hll
                    rw [slotO l d2 hl (Ne.symm hli) hdl] at hg'
                    exact hI.dne k l d1 d2 hk hl hkl hlk hll hdk hdl h1D h2D g g' hg hg'
          unfold wpOp
          simp only [h2]
          have runs : RunsI P [] W a (E.take i) o' R → o'.wp P A w (wpAny P .any ops Q n (listed.setIfInBounds i true)) Q := fun hr => wp_weaken (hr A w hI.ext hops _ key)
          rcases hdo with ⟨hg, hr⟩ | ⟨g, b, tg, Rg, hg, htg, hlk, hcase⟩
          · rw [if_pos (by simp [Region.wanted, hg])]
            exact .inl (runs hr)
          · have hsg := (hslot tg (List.mem_append_right _ (by simp [hg, htg]))).1 Rg hlk
            obtain ⟨jg, hjg⟩ := lookup_getD hlk
            have hjg' : E[jg]? = some (tg, Rg) := by
              rw [List.getElem?_take] at hjg
              split at hjg
              · exact hjg
              · cases hjg
            have htsz : tg < A.tmps.size := by rw [hI.tsz]; exact (e2 jg tg Rg hjg').lt
            have hyl : ∀ c, A.tmps.getD tg undef = .bool c → yielded ops A.tmps g = some c := by
              intro c hcv
              have : A.tmps[tg]? = some (.bool c) := by
                rw [← hcv]; simp [Array.getD_eq_getD_getElem?, htsz]
              simp [yielded, htg, this]
            rcases hcase with ⟨h4, hr⟩ | ⟨h4, h5⟩
            · rw [if_pos (by simp [Region.wanted, hg, hyl b (h4 _ _ hsg)])]
              exact .inl (runs hr)
            · rw [if_neg (by
                simp only [Region.wanted, hg, beq_iff_eq]
                intro hy
                refine h4 _ _ hsg ?_
                unfold yielded at hy
                simp only [htg, Option.bind_some] at hy
                split at hy
                · rename_i c hc
                  cases hy
                  simp [Array.getD_eq_getD_getElem?, hc]
                · cases hy)]
              exact key undef w (Ext.rfl' w) (h5 w) (fun _ _ _ g hg => by cases hg)
  have h0 : (List.range ops.size).countP (fun i => !(Array.replicate ops.size false).getD i false) = ops.size := by
    have : (List.range ops.size).countP (fun i => !(Array.replicate ops.size false).getD i false) = (List.range ops.size).length := by
      rw [List.countP_eq_length]
      intro i hi
      have := List.mem_range.1 hi
      simp [Array.getD_eq_getD_getElem?, this]
    rw [this, List.length_range]
  have hf : ∀ i, (Array.replicate ops.size false).getD i false = false := by
    intro i
    by_cases h : i < ops.size
    · simp [Array.getD_eq_getD_getElem?, h]
    · simp [Array.getD_eq_getD_getElem?, Array.getElem?_eq_none, show ops.size ≤ i by omega]
  exact main ops.size _ a _ h0 ⟨by simp, fun i hi => absurd hi (by rw [hf]; simp), fun i _ => hf i, (Ext.rfl' W).drew', rfl, rfl, fun _ _ => rfl, fun i d R hi => absurd hi (by rw [hf]; simp), fun i d _ hi => absurd hi (by rw [hf]; simp), fun i j d d' _ _ _ hi => absurd hi (by rw [hf]; simp)⟩
theorem wp_region_J (m : Nat) {id : Nat} {a : Act} {W : World} (hm : P.follows .mixedOrders = true) (hc : okJ ops m = true)
    (h : walkI P ops [] W a (fun A w => wpAny P .any ops Q (ops.size - m) (listedJ ops m) A w) (ops.toList.take m) []) : (Code.region id ops true).wp P Q a W :=
  wp_region_any hm (wpAny_region_J m hc h)
end
end Go.Proofs.YtnpnjcaomakehaaGreat
namespace Go.Proofs.YtnpnjcaomakehaaGreat.Pj
open Go.RowKit
abbrev Prop1 := Value → World → Prop
abbrev Env := List (Tmp × Prop1)
def Stable (R : Prop1) : Prop := ∀ v w w', R v w → R v w'
abbrev St := Tmp → Value
abbrev Inv := (Nat → Bool) → St → World → Prop
def sl (A : Act) : St := fun t => A.tmps.getD t undef
def upd (dn : Nat → Bool) (i : Nat) : Nat → Bool := fun j => decide (j = i) || dn j
def sput (s : St) (d : Tmp) (v : Value) : St := fun t => if t = d then v else s t
def knows (A a : Act) (w : World) (E : Env) : List Operand → Prop
  | [] => True
  | x :: xs => (match x with
      | .tmp t => (match E.lookup t with
        | some R => R (A.eval x) w
        | none => A.eval x = a.eval x)
      | _ => A.eval x = a.eval x) ∧ knows A a w E xs
def afters (ops : Array Oper) (i : Nat) : List Nat := match ops[i]? with
  | some o => (o.after.toList.filter (Region.binds .any)).map (·.on)
  | none => []
def RunsI (P : Program) (ops : Array Oper) (J : Inv) (W : World) (a : Act) (i : Nat) (E : Env) (o : Oper) (d : Tmp) (R : Prop1) : Prop :=
  ∀ A w dn, Ext W w → J dn (sl A) w → dn i = false → (∀ j ∈ afters ops i, dn j = true) → knows A a w E o.op.operands.toList → ∀ K : Act → World → Prop, (∀ v w', Ext W w' → R v w' → J (upd dn i) (sput (sl A) d v) w' → K (A.put o.dst v) w') → o.wp P A w K (fun _ _ _ => False)
def doesI (P : Program) (ops : Array Oper) (J : Inv) (W : World) (a : Act) (i : Nat) (E : Env) (o : Oper) (d : Tmp) (R : Prop1) : Prop := o.guard = none ∧ RunsI P ops J W a i E o d R
def fins (K : Act → World → Prop) (w : World) : Env → Act → Prop
  | [], a => K a w
  | (d, R) :: rest, a => ∀ v, R v w → fins K w rest (a.put (some d) v)
def walkI (P : Program) (ops : Array Oper) (J : Inv) (W : World) (a : Act) (K : Act → World → Prop) : List Oper → Env → Prop
  | [], E => ∀ w, Ext W w → fins K w E a
  | o :: rest, E => ∃ d R, o.dst = some d ∧ d < a.tmps.size ∧ Stable R ∧ doesI P ops J W a E.length E o d R ∧ walkI P ops J W a K rest (E ++ [(d, R)])
def need (ops : Array Oper) : Nat → Nat → Nat → Bool
  | 0, _, _ => false
  | f + 1, i, j => (afters ops i).any fun k => k == j || need ops f k j
def okPre (ops : Array Oper) (m i : Nat) : Bool := match ops[i]? with
  | some oi => (match oi.dst with
      | some d => (List.range m).all fun j => j == i || (ops[j]?).bind (·.dst) != some d
      | none => false) &&
    (oi.looksAt ops).all fun t => (List.range m).all fun j => (ops[j]?).bind (·.dst) != some t || (afters ops i).contains j
  | none => false
def okI (ops : Array Oper) (m : Nat) : Bool :=
  decide (m ≤ ops.size) && Region.noSelect ops && (List.range ops.size).all (fun i => (afters ops i).all fun j => decide (j < i)) &&
  (List.range m).all (okPre ops m) && (List.range ops.size).all (fun i => decide (i < m) || (List.range i).all fun j => need ops i i j)
section
variable {P : Program} {ops : Array Oper} {Q : Exit → Act → World → Prop}
structure StepI (P : Program) (ops : Array Oper) (J : Inv) (W : World) (a : Act) (E : Env) (i : Nat) (d : Tmp) (R : Prop1) : Prop where
  lt : d < a.tmps.size
  st : Stable R
  go : ∃ o, ops[i]? = some o ∧ o.dst = some d ∧ doesI P ops J W a i (E.take i) o d R
theorem walkI_env {J : Inv} {W : World} {a : Act} {K : Act → World → Prop} : ∀ (l : List Oper) (E0 : Env), (∀ j o, l[j]? = some o → ops[E0.length + j]? = some o) → walkI P ops J W a K l E0 →
    ∃ E : Env, E.length = l.length ∧ (∀ i d R, E[i]? = some (d, R) → StepI P ops J W a (E0 ++ E) (E0.length + i) d R) ∧ ∀ w, Ext W w → fins K w (E0 ++ E) a := by
  intro l
  induction l with
  | nil => intro E0 _ h; exact ⟨[], rfl, by simp, by simpa [walkI] using h⟩
  | cons o rest ih =>
    intro E0 hl h
    obtain ⟨d, R, h1, h2, h3, h4, h5⟩ := h
    obtain ⟨E, e1, e2, e3⟩ := ih (E0 ++ [(d, R)]) (fun j o' hj => by
      have := hl (j + 1) o' (by simpa using hj)
      rw [← this]; congr 1; simp; omega) h5
    refine ⟨(d, R) :: E, by simp [e1], fun i d' R' hi => ?_, by simpa using e3⟩
    cases i with
    | zero =>
      simp only [List.getElem?_cons_zero, Option.some.injEq, Prod.mk.injEq] at hi
      obtain ⟨rfl, rfl⟩ := hi
      refine ⟨h2, h3, o, hl 0 o rfl, h1, ?_⟩
      have : (E0 ++ (d, R) :: E).take (E0.length + 0) = E0 := by simp
      rw [this, Nat.add_zero]; exact h4
    | succ i =>
      have := e2 i d' R' (by simpa using hi)
      rw [List.append_assoc, List.singleton_append] at this
      have e : (E0 ++ [(d, R)]).length + i = E0.length + (i + 1) := by simp; omega
      rwa [e] at this
structure InvI (ops : Array Oper) (J : Inv) (m : Nat) (E : Env) (W : World) (a : Act) (listed : Array Bool) (A : Act) (w : World) : Prop where
  size : listed.size = ops.size
  clo : ∀ i, listed.getD i false = true → ∀ j ∈ afters ops i, listed.getD j false = true
  post : ∀ i, m ≤ i → listed.getD i false = false
  ext : Ext W w
  defs : A.defers = a.defers
  tsz : A.tmps.size = a.tmps.size
  same : ∀ t, (∀ i, i < m → listed.getD i false = true → (ops[i]?).bind (·.dst) ≠ some t) → A.tmps[t]? = a.tmps[t]?
  has : ∀ i d R, listed.getD i false = true → E[i]? = some (d, R) → R (A.tmps.getD d undef) w
  jj : J (fun j => listed.getD j false) (sl A) w
theorem need_listed {listed : Array Bool} (hc : ∀ i, listed.getD i false = true → ∀ j ∈ afters ops i, listed.getD j false = true) : ∀ (f i j : Nat), need ops f i j = true → (∀ k ∈ afters ops i, listed.getD k false = true) → listed.getD j false = true := by
  intro f
  induction f with
  | zero => intro i j h; simp [need] at h
  | succ f ih =>
    intro i j h hi
    simp only [need, List.any_eq_true, Bool.or_eq_true, beq_iff_eq] at h
    obtain ⟨k, hk, rfl | h⟩ := h
    · exact hi _ hk
    · exact ih k j h (hc k (hi k hk))
theorem mem_afters {i j : Nat} : j ∈ afters ops i ↔ ∃ o, ops[i]? = some o ∧ ∃ e ∈ o.after, Region.binds .any e = true ∧ e.on = j := by
  unfold afters
  cases h : ops[i]? with
  | none => simp
  | some o =>
    simp only [List.mem_map, List.mem_filter, Array.mem_toList_iff, Option.some.injEq]
    constructor
    · rintro ⟨e, ⟨h1, h2⟩, h3⟩; exact ⟨o, rfl, e, h1, h2, h3⟩
    · rintro ⟨_, rfl, e, h1, h2, h3⟩; exact ⟨e, ⟨h1, h2⟩, h3⟩
theorem ready_afters {i : Nat} {listed : Array Bool} : i ∈ Region.ready .any ops listed ↔ listed.getD i true = false ∧ (∃ o, ops[i]? = some o) ∧ ∀ j ∈ afters ops i, listed.getD j false = true := by
  rw [mem_ready]
  constructor
  · rintro ⟨h1, o, h2, h3⟩
    refine ⟨h1, ⟨o, h2⟩, fun j hj => ?_⟩
    obtain ⟨o', h4, e, h5, h6, rfl⟩ := mem_afters.1 hj
    rw [h2] at h4; cases h4
    exact h3 e h5 h6
  · rintro ⟨h1, ⟨o, h2⟩, h3⟩
    exact ⟨h1, o, h2, fun e he hb => h3 _ (mem_afters.2 ⟨o, h2, e, he, hb, rfl⟩)⟩
theorem getD_tf {listed : Array Bool} {i : Nat} (h : i < listed.size) : listed.getD i true = listed.getD i false := by
  simp [Array.getD_eq_getD_getElem?, h]
theorem env_get {E : Env} {i : Nat} (h : i < E.length) : ∃ d R, E[i]? = some (d, R) := ⟨E[i].1, E[i].2, by rw [List.getElem?_eq_getElem h]⟩
theorem lookup_getD {E : Env} {t : Tmp} {R : Prop1} (h : E.lookup t = some R) : ∃ i : Nat, E[i]? = some (t, R) := by
  induction E with
  | nil => simp at h
  | cons x xs ih =>
    obtain ⟨d, S⟩ := x
    rw [List.lookup_cons] at h
    cases hb : t == d with
    | true =>
      simp only [hb] at h
      cases h
      exact ⟨0, by simp [eq_of_beq hb]⟩
    | false =>
      simp only [hb] at h
      obtain ⟨i, hi⟩ := ih h
      exact ⟨i + 1, by simpa using hi⟩
theorem lookup_none {E : Env} {t : Tmp} (h : E.lookup t = none) : ∀ (i : Nat) (d : Tmp) (R : Prop1), E[i]? = some (d, R) → d ≠ t := by
  induction E with
  | nil => simp
  | cons x xs ih =>
    obtain ⟨d, S⟩ := x
    rw [List.lookup_cons] at h
    cases hb : t == d with
    | true => simp [hb] at h
    | false =>
      simp only [hb] at h
      intro i d' R hi
      cases i with
      | zero => simp at hi; obtain ⟨rfl, -⟩ := hi; intro e; subst e; simp at hb
      | succ i => exact ih h i d' R (by simpa using hi)
theorem wp_weaken {o : Oper} {A : Act} {w : World} {K : Act → World → Prop} (h : o.wp P A w K (fun _ _ _ => False)) : o.wp P A w K Q := by
  unfold Oper.wp at *
  generalize (execOp A.eval o).run P w = r at *
  cases r with
  | ok n w' =>
    cases n <;> simp only [Oper.upon] at h ⊢
    case enter f args =>
      refine Calls.mono h fun e w'' he => ?_
      cases e with
      | returned u => exact he
      | panicked c => exact he.elim
      | outgrown => obtain ⟨_, _, hf⟩ := he; exact hf.elim
    all_goals exact h
  | halt x w' => cases x <;> simp only [Oper.upon] at h
theorem wpAny_tail {m : Nat} (hlt : ∀ i j, j ∈ afters ops i → j < i) (hpost : ∀ i, m ≤ i → i < ops.size → ∀ j, j < i → need ops i i j = true) : ∀ (n i : Nat) (listed : Array Bool) (A : Act) (w : World), n + i = ops.size → m ≤ i → listed.size = ops.size →
    (∀ j, j < ops.size → listed.getD j false = decide (j < i)) → wpList P ops Q (ops.toList.drop i) A w → wpAny P .any ops Q n listed A w := by
  intro n
  induction n with
  | zero =>
    intro i listed A w hn hm hs hl h
    have hr : Region.ready .any ops listed = [] := by
      rw [List.eq_nil_iff_forall_not_mem]
      intro j hj
      obtain ⟨h1, ⟨o, h2⟩, -⟩ := ready_afters.1 hj
      have hj' : j < ops.size := (Array.getElem?_eq_some_iff.1 h2).1
      rw [getD_tf (by omega), hl j hj'] at h1
      simp at h1; omega
    rw [List.drop_of_length_le (by simp; omega)] at h
    exact ⟨hr, h⟩
  | succ n ih =>
    intro i listed A w hn hm hs hl h
    have hi : i < ops.size := by omega
    have hready : ∀ j, j ∈ Region.ready .any ops listed → j = i := by
      intro j hj
      obtain ⟨h1, ⟨o, h2⟩, h3⟩ := ready_afters.1 hj
      have hj' : j < ops.size := (Array.getElem?_eq_some_iff.1 h2).1
      rw [getD_tf (by omega), hl j hj'] at h1
      simp at h1
      rcases Nat.lt_or_ge i j with h4 | h4
      · have hcl : ∀ i', listed.getD i' false = true → ∀ j ∈ afters ops i', listed.getD j false = true := by
          intro i' hi' k hk
          have hk' := hlt i' k hk
          by_cases hb : i' < ops.size
          · rw [hl i' hb] at hi'
            rw [hl k (by omega)]
            simp at hi' ⊢; omega
          · simp [Array.getD_eq_getD_getElem?, Array.getElem?_eq_none (show listed.size ≤ i' by omega)] at hi'
        have := need_listed hcl j j i (hpost j (by omega) hj' i h4) h3
        rw [hl i hi] at this
        simp at this
      · omega
    have hii : i ∈ Region.ready .any ops listed := by
      rw [ready_afters]
      refine ⟨by rw [getD_tf (by omega), hl i hi]; simp, ⟨ops[i], by simp [hi]⟩, fun j hj => ?_⟩
      have := hlt i j hj
      rw [hl j (by omega)]; simp; exact this
    refine ⟨fun h0 => absurd hii (by rw [h0]; exact List.not_mem_nil), fun j hj => ?_⟩
    obtain rfl := hready j hj
    rw [List.drop_eq_getElem_cons (by simpa using hi)] at h
    have key : ∀ (A' : Act) (w' : World), wpList P ops Q (ops.toList.drop (j + 1)) A' w' → wpAny P .any ops Q n (listed.setIfInBounds j true) A' w' := by
      intro A' w' h'
      refine ih (j + 1) _ A' w' (by omega) (by omega) (by simpa using hs) (fun k hk => ?_) h'
      by_cases hkj : j = k
      · subst hkj; simp [Array.getD_eq_getD_getElem?, hs, hi]
      · rw [getD_set_ne _ hkj, hl k hk]
        simp only [decide_eq_decide]; omega
    unfold wpList at h
    unfold wpOp
    simp only [hi, getElem?_pos]
    simp only [Array.getElem_toList] at h
    split
    · rename_i hw
      rw [if_pos hw] at h
      exact h.imp (Oper.wp_mono key) id
    · rename_i hw
      rw [if_neg hw] at h
      exact key _ _ h
theorem fins_done {K : Act → World → Prop} {w : World} : ∀ (E : Env) (a A : Act), A.defers = a.defers → A.tmps.size = a.tmps.size → (∀ (i : Nat) (d : Tmp) (R : Prop1), E[i]? = some (d, R) → d < a.tmps.size ∧ R (A.tmps.getD d undef) w) → (∀ t, (∀ (i : Nat) (d : Tmp) (R : Prop1), E[i]? = some (d, R) → d ≠ t) → A.tmps[t]? = a.tmps[t]?) → fins K w E a → K A w := by
  intro E
  induction E with
  | nil =>
    intro a A hd hs _ ht h
    have : A = a := by
      cases A; cases a
      simp only at hd hs ht
      subst hd
      congr 1
      refine Array.ext_getElem? fun i => ht i (by simp)
    subst this; exact h
  | cons x xs ih =>
    obtain ⟨d, R⟩ := x
    intro a A hd hs hh ht h
    obtain ⟨h1, h2⟩ := hh 0 d R rfl
    refine ih (a.put (some d) (A.tmps.getD d undef)) A hd (by simpa [Act.put] using hs) (fun i d' R' hi => ?_) (fun t hx => ?_) (h _ h2)
    · have := hh (i + 1) d' R' (by simpa using hi)
      exact ⟨by simpa [Act.put] using this.1, this.2⟩
    · by_cases hdt : d = t
      · subst hdt
        simp only [Act.put]
        rw [Array.getElem?_setIfInBounds_self_of_lt h1]
        have : d < A.tmps.size := by rw [hs]; exact h1
        simp [Array.getD_eq_getD_getElem?, this]
      · rw [ht t fun i d' R' hi => ?_]
        · simp only [Act.put]; rw [Array.getElem?_setIfInBounds_ne hdt]
        · cases i with
          | zero => simp at hi; obtain ⟨rfl, -⟩ := hi; exact hdt
          | succ i => exact hx i d' R' (by simpa using hi)
theorem wpAny_region_D (m : Nat) (J : Inv) {a : Act} {W : World} (hc : okI ops m = true) (hJ0 : J (fun _ => false) (sl a) W.drew)
    (h : walkI P ops J W a (fun A w => J (fun j => decide (j < m)) (sl A) w → wpList P ops Q (ops.toList.drop m) A w) (ops.toList.take m) []) : wpAny P .any ops Q ops.size (Array.replicate ops.size false) a { W with drawn := W.drawn + 1 } := by
  simp only [okI, Bool.and_eq_true, decide_eq_true_eq, List.all_eq_true, List.mem_range, Bool.or_eq_true] at hc
  obtain ⟨⟨⟨⟨hm1, hsel⟩, hlt'⟩, hpre⟩, hpost'⟩ := hc
  have hlt : ∀ i j, j ∈ afters ops i → j < i := by
    intro i j hj
    by_cases hi : i < ops.size
    · exact hlt' i hi j hj
    · obtain ⟨o, ho, -⟩ := mem_afters.1 hj
      rw [Array.getElem?_eq_none (by omega)] at ho; cases ho
  have hpost : ∀ i, m ≤ i → i < ops.size → ∀ j, j < i → need ops i i j = true := by
    intro i h1 h2 j hj
    rcases hpost' i h2 with h3 | h3
    · omega
    · exact h3 j hj
  obtain ⟨E, e1, e2, e3⟩ := walkI_env (ops := ops) (ops.toList.take m) [] (fun j o hj => by
    rw [List.getElem?_take] at hj
    split at hj
    · simpa using hj
    · cases hj) h
  simp only [List.nil_append, List.length_nil, Nat.zero_add] at e2 e3
  have hEl : E.length = m := by rw [e1]; simp; omega
  have dstE : ∀ (i : Nat) (d : Tmp) (R : Prop1), E[i]? = some (d, R) → (ops[i]?).bind (·.dst) = some d ∧ i < m := by
    intro i d R hi
    obtain ⟨o, h1, h2, -⟩ := (e2 i d R hi).go
    exact ⟨by simp [h1, h2], by rw [← hEl]; exact (List.getElem?_eq_some_iff.1 hi).1⟩
  have distinct : ∀ (i j : Nat) (d : Tmp), i < m → j < m → (ops[i]?).bind (·.dst) = some d → (ops[j]?).bind (·.dst) = some d → i = j := by
    intro i j d hi hj h1 h2
    have := hpre i hi
    unfold okPre at this
    cases ho : ops[i]? with
    | none => simp [ho] at h1
    | some o =>
      simp only [ho, Option.bind_some] at h1 this
      simp only [h1, Bool.and_eq_true, List.all_eq_true, List.mem_range, Bool.or_eq_true, beq_iff_eq, bne_iff_ne] at this
      rcases this.1 j hj with h3 | h3
      · exact h3.symm
      · exact absurd h2 h3
  have main : ∀ (n : Nat) (listed : Array Bool) (A : Act) (w : World), (List.range ops.size).countP (fun i => !listed.getD i false) = n → InvI ops J m E W a listed A w → wpAny P .any ops Q n listed A w := by
    intro n
    induction n with
    | zero =>
      intro listed A w hn hI
      by_cases hmn : m < ops.size
      · exfalso
        rw [List.countP_eq_zero] at hn
        have := hn m (List.mem_range.2 hmn)
        rw [hI.post m (Nat.le_refl _)] at this
        simp at this
      · have hall : ∀ i, i < ops.size → listed.getD i false = true := by
          intro i hi
          rw [List.countP_eq_zero] at hn
          have := hn i (List.mem_range.2 hi)
          simpa using this
        have hmm : m = ops.size := by omega
        have hall' : ∀ i, i < m → listed.getD i false = true := fun i hi => hall i (by omega)
        refine wpAny_tail (m := m) hlt hpost 0 ops.size listed A w (by omega) (by omega) hI.size (fun j hj => by rw [hall j hj]; simp [hj]) ?_
        have hdist : J (fun j => decide (j < m)) (sl A) w := by
          have e : (fun j => listed.getD j false) = fun j => decide (j < m) := by
            funext j
            by_cases hj : j < m
            · rw [hall' j hj]; simp [hj]
            · rw [hI.post j (by omega)]; simp [hj]
          rw [← e]; exact hI.jj
        have := fins_done E a A hI.defs hI.tsz (fun i d R hi => ⟨(e2 i d R hi).lt, hI.has i d R (hall i (by have := (dstE i d R hi).2; omega)) hi⟩) (fun t ht => hI.same t fun i hi _ hdi => by
          have hiE : i < E.length := by omega
          obtain ⟨d, R, hx'⟩ := env_get hiE
          have h5 := (dstE i d R hx').1
          rw [hdi] at h5
          cases h5
          exact ht i _ R hx' rfl) (e3 w hI.ext)
        have := this hdist
        rw [hmm] at this; exact this
    | succ n ih =>
      intro listed A w hn hI
      have hsz := hI.size
      by_cases hall : ∀ i, i < m → listed.getD i false = true
      · -- all of the first part are done
        have hdone := fins_done E a A hI.defs hI.tsz (fun i d R hi => ⟨(e2 i d R hi).lt, hI.has i d R (hall i (dstE i d R hi).2) hi⟩) (fun t ht => hI.same t fun i hi _ hdi => by
          have hiE : i < E.length := by omega
          obtain ⟨d, R, hx'⟩ := env_get hiE
          have h5 := (dstE i d R hx').1
          rw [hdi] at h5
          cases h5
          exact ht i _ R hx' rfl) (e3 w hI.ext)
        have hdone := hdone (by
          have e : (fun j => listed.getD j false) = fun j => decide (j < m) := by
            funext j
            by_cases hj : j < m
            · rw [hall j hj]; simp [hj]
            · rw [hI.post j (by omega)]; simp [hj]
          rw [← e]; exact hI.jj)
        have hl : ∀ j, j < ops.size → listed.getD j false = decide (j < m) := by
          intro j hj
          by_cases hjm : j < m
          · rw [hall j hjm]; simp [hjm]
          · rw [hI.post j (by omega)]; simp [hjm]
        have hcount : n + 1 + m = ops.size := by
          have h1 : (List.range ops.size).countP (fun i => !listed.getD i false) = (List.range ops.size).countP (fun i => decide (m ≤ i)) := by
            refine List.countP_congr fun i hi => ?_
            rw [hl i (List.mem_range.1 hi)]
            by_cases hx : i < m <;> simp [hx] <;> omega
          have h2 : ∀ k, (List.range k).countP (fun i => decide (m ≤ i)) = k - m := by
            intro k
            induction k with
            | zero => simp
            | succ k ihk =>
              rw [List.range_succ, List.countP_append, ihk]
              by_cases hx : m ≤ k
              · simp [hx]; omega
              · simp [hx]; omega
          rw [h1, h2] at hn; omega
        exact wpAny_tail (m := m) hlt hpost (n + 1) m listed A w hcount (Nat.le_refl _) hsz hl hdone
      · refine ⟨fun h0 => ?_, fun i hi => ?_⟩
        · -- some op is ready
          exfalso
          apply hall
          intro i
          induction i using Nat.strongRecOn with
          | ind i ihi =>
            intro him
            cases hx : listed.getD i false with
            | true => rfl
            | false =>
              have : i ∈ Region.ready .any ops listed := by
                rw [ready_afters]
                refine ⟨by rw [getD_tf (by omega)]; exact hx, ⟨ops[i]'(by omega), by simp [show i < ops.size by omega]⟩, fun j hj => ?_⟩
                have := hlt i j hj
                exact ihi j this (by omega)
              rw [h0] at this; cases this
        · obtain ⟨h1, ⟨oi, h2⟩, h3⟩ := ready_afters.1 hi
          have hio : i < ops.size := (Array.getElem?_eq_some_iff.1 h2).1
          have him : i < m := by
            rcases Nat.lt_or_ge i m with h | h
            · exact h
            · exfalso
              apply hall
              intro j hj
              exact need_listed hI.clo i i j (hpost i h hio j (by omega)) h3
          rw [getD_tf (by omega)] at h1
          have hiE : i < E.length := by omega
          obtain ⟨d, R, hx'⟩ := env_get hiE
          have hst := e2 i d R hx'
          obtain ⟨o', ho', hdst, hdo⟩ := hst.go
          obtain rfl : o' = oi := by rw [h2] at ho'; exact (Option.some.inj ho').symm
          have hok := hpre i him
          simp only [okPre, h2, hdst, Bool.and_eq_true, List.all_eq_true, List.mem_range, Bool.or_eq_true, beq_iff_eq, bne_iff_ne, List.contains_iff_mem] at hok
          -- what the operands are
          have hslot : ∀ t, t ∈ o'.looksAt ops → (∀ R', (E.take i).lookup t = some R' → R' (A.tmps.getD t undef) w) ∧ ((E.take i).lookup t = none → A.tmps[t]? = a.tmps[t]?) := by
            intro t ht
            refine ⟨fun R' hR' => ?_, fun hn' => ?_⟩
            · obtain ⟨j, hj⟩ := lookup_getD hR'
              have hji : j < i := by
                have := (List.getElem?_eq_some_iff.1 hj).1
                rw [List.length_take] at this; omega
              rw [List.getElem?_take, if_pos hji] at hj
              have hdj := dstE j t R' hj
              rcases hok.2 t ht j hdj.2 with h4 | h4
              · exact absurd hdj.1 h4
              · exact hI.has j t R' (h3 j h4) hj
            · refine hI.same t fun j hj hlj hdj => ?_
              rcases hok.2 t ht j hj with h4 | h4
              · exact h4 hdj
              · have hji := hlt i j h4
                have hjE : j < E.length := by omega
                obtain ⟨d', R', hy'⟩ := env_get hjE
                have h5 := (dstE j d' R' hy').1
                rw [hdj] at h5
                cases h5
                exact lookup_none hn' j t R' (by rw [List.getElem?_take, if_pos hji]; exact hy') rfl
          have hknow : ∀ l : List Operand, (∀ x ∈ l, ∀ t, x = .tmp t → t ∈ o'.looksAt ops) → knows A a w (E.take i) l := by
            intro l
            induction l with
            | nil => intro _; trivial
            | cons x xs ihx =>
              intro hl
              refine ⟨?_, ihx fun y hy => hl y (by simp [hy])⟩
              cases x with
              | tmp t =>
                have hs := hslot t (hl _ (by simp) t rfl)
                simp only []
                cases hlk : (E.take i).lookup t with
                | some R' =>
                  simp only []
                  have := hs.1 R' hlk
                  simpa [Act.eval] using this
                | none =>
                  simp only []
                  have := hs.2 hlk
                  simp only [Act.eval, Array.getD_eq_getD_getElem?, this]
              | _ => rfl
          have hops : knows A a w (E.take i) o'.op.operands.toList := hknow _ fun x hx t ht => by
            subst ht
            exact List.mem_append_left _ (List.mem_filterMap.2 ⟨.tmp t, hx, rfl⟩)
          -- behind it
          have key : ∀ v w', Ext W w' → R v w' → J (upd (fun j => listed.getD j false) i) (sput (sl A) d v) w' → wpAny P .any ops Q n (listed.setIfInBounds i true) (A.put o'.dst v) w' := by
            intro v w' hww hR hjj
            have hdA : d < A.tmps.size := by rw [hI.tsz]; exact hst.lt
            refine ih _ _ _ ?_ ?_
            · have h6 : (List.range ops.size).countP (fun k => !listed.getD k false) = (List.range ops.size).countP (fun k => !(listed.setIfInBounds i true).getD k false) + 1 := by
                have gen : ∀ (l : List Nat), l.Nodup → i ∈ l → l.countP (fun k => !listed.getD k false) = l.countP (fun k => !(listed.setIfInBounds i true).getD k false) + 1 := by
                  intro l
                  induction l with
                  | nil => intro _ h; cases h
                  | cons x xs ihl =>
                    intro hnd hmem
                    rw [List.nodup_cons] at hnd
                    rcases List.mem_cons.1 hmem with rfl | hmem
                    · have h7 : xs.countP (fun k => !listed.getD k false) = xs.countP (fun k => !(listed.setIfInBounds i true).getD k false) := by
                        refine List.countP_congr fun k hk => ?_
                        rw [getD_set_ne _ (fun e => hnd.1 (by rw [e]; exact hk))]
                      rw [List.countP_cons, List.countP_cons, h7]
                      have h8 : (listed.setIfInBounds i true).getD i false = true := by simp [Array.getD_eq_getD_getElem?, show i < listed.size by omega]
                      rw [h1, h8]; simp
                    · have hne : i ≠ x := fun e => hnd.1 (by rw [← e]; exact hmem)
                      rw [List.countP_cons, List.countP_cons, ihl hnd.2 hmem, getD_set_ne _ hne]; omega
                exact gen _ List.nodup_range (List.mem_range.2 hio)
              omega
            · refine ⟨by simpa using hI.size, fun k hk j hj => ?_, fun k hk => ?_, hww, by rw [hdst]; exact hI.defs, by rw [hdst]; simpa [Act.put] using hI.tsz, fun t ht => ?_, fun k d' R' hk hE' => ?_, ?_⟩
              · by_cases hki : i = k
                · subst hki
                  have := h3 j hj
                  exact getD_set_true this
                · rw [getD_set_ne _ hki] at hk
                  exact getD_set_true (hI.clo k hk j hj)
              · rw [getD_set_ne _ (by omega)]; exact hI.post k hk
              · have hdt : d ≠ t := by
                  intro e; subst e
                  exact ht i him (by simp [Array.getD_eq_getD_getElem?, show i < listed.size by omega]) (by simp [h2, hdst])
                rw [hdst]
                simp only [Act.put]
                rw [Array.getElem?_setIfInBounds_ne hdt]
                exact hI.same t fun k hk hlk => ht k hk (getD_set_true hlk)
              · by_cases hki : i = k
                · subst hki
                  rw [hx'] at hE'
                  cases hE'
                  rw [hdst]
                  simp only [Act.put]
                  have : (A.tmps.setIfInBounds d v).getD d undef = v := by simp [Array.getD_eq_getD_getElem?, hdA]
                  rw [this]; exact hR
                · rw [getD_set_ne _ hki] at hk
                  have h7 := hI.has k d' R' hk hE'
                  have hne : d ≠ d' := fun e => by
                    subst e
                    have h8 := dstE k d R' hE'
                    exact hki (distinct i k d him h8.2 (by simp [h2, hdst]) h8.1)
                  rw [hdst]
                  simp only [Act.put]
                  have : (A.tmps.setIfInBounds d v).getD d' undef = A.tmps.getD d' undef := by simp [Array.getD_eq_getD_getElem?, Array.getElem?_setIfInBounds_ne hne]
                  rw [this]
                  exact (e2 k d' R' hE').st _ _ _ h7
              · have e1 : (fun j => (listed.setIfInBounds i true).getD j false) = upd (fun j => listed.getD j false) i := by
                  funext j
                  unfold upd
                  by_cases hji : j = i
                  · subst hji; simp [Array.getD_eq_getD_getElem?, show j < listed.size by omega]
                  · rw [getD_set_ne _ (fun e => hji e.symm)]; simp [hji]
                have e2' : sl (A.put o'.dst v) = sput (sl A) d v := by
                  funext t
                  unfold sl sput
                  rw [hdst]
                  simp only [Act.put]
                  by_cases htd : t = d
                  · subst htd; simp [Array.getD_eq_getD_getElem?, hdA]
                  · rw [if_neg htd]; simp [Array.getD_eq_getD_getElem?, Array.getElem?_setIfInBounds_ne (fun e => htd e.symm)]
                rw [e1, e2']; exact hjj
          unfold wpOp
          simp only [h2]
          obtain ⟨hg, hr⟩ := hdo
          rw [if_pos (by simp [Region.wanted, hg])]
          exact .inl (wp_weaken (hr A w _ hI.ext hI.jj h1 h3 hops _ key))
  have h0 : (List.range ops.size).countP (fun i => !(Array.replicate ops.size false).getD i false) = ops.size := by
    have : (List.range ops.size).countP (fun i => !(Array.replicate ops.size false).getD i false) = (List.range ops.size).length := by
      rw [List.countP_eq_length]
      intro i hi
      have := List.mem_range.1 hi
      simp [Array.getD_eq_getD_getElem?, this]
    rw [this, List.length_range]
  have hf : ∀ i, (Array.replicate ops.size false).getD i false = false := by
    intro i
    by_cases h : i < ops.size
    · simp [Array.getD_eq_getD_getElem?, h]
    · simp [Array.getD_eq_getD_getElem?, Array.getElem?_eq_none, show ops.size ≤ i by omega]
  have ef : (fun j => (Array.replicate ops.size false).getD j false) = fun _ => false := funext hf
  exact main ops.size _ a _ h0 ⟨by simp, fun i hi => absurd hi (by rw [hf]; simp), fun i _ => hf i, (Ext.rfl' W).drew', rfl, rfl, fun _ _ => rfl, fun i d R hi => absurd hi (by rw [hf]; simp), by rw [ef]; exact hJ0⟩
theorem wp_region_J (m : Nat) (J : Inv) {id : Nat} {a : Act} {W : World} (hm : P.follows .mixedOrders = true) (hc : okI ops m = true) (hJ0 : J (fun _ => false) (sl a) W.drew)
    (h : walkI P ops J W a (fun A w => J (fun j => decide (j < m)) (sl A) w → wpList P ops Q (ops.toList.drop m) A w) (ops.toList.take m) []) : (Code.region id ops true).wp P Q a W :=
  wp_region_any hm (wpAny_region_D m J hc hJ0 h)
abbrev Is (u : Value) : Prop1 := fun v _ => v = u
abbrev Any : Prop1 := fun _ _ => True
theorem walkI_step {J : Inv} {W : World} {a : Act} {K : Act → World → Prop} {o : Oper} {rest : List Oper} {E : Env} {d : Tmp} (hd : o.dst = some d) (hl : d < a.tmps.size) (hg : o.guard = none)
    (hr : ∀ A w dn, Ext W w → J dn (sl A) w → dn E.length = false → (∀ j ∈ afters ops E.length, dn j = true) → knows A a w E o.op.operands.toList → ∀ K : Act → World → Prop, (∀ v w', Ext W w' → J (upd dn E.length) (sput (sl A) d v) w' → K (A.put (some d) v) w') → o.wp P A w K (fun _ _ _ => False))
    (h : walkI P ops J W a K rest (E ++ [(d, Any)])) : walkI P ops J W a K (o :: rest) E :=
  ⟨d, Any, hd, hl, fun _ _ _ h => h, ⟨hg, by
    unfold RunsI; rw [hd]
    exact fun A w dn h1 h2 h3 h4 h5 K hK => hr A w dn h1 h2 h3 h4 h5 K fun v w' g1 g2 => hK v w' g1 trivial g2⟩, h⟩
theorem walkI_is {J : Inv} {W : World} {a : Act} {K : Act → World → Prop} {o : Oper} {rest : List Oper} {E : Env} {d : Tmp} {u : Value} (hd : o.dst = some d) (hl : d < a.tmps.size) (hg : o.guard = none)
    (hj : ∀ dn s w, J dn s w → J (upd dn E.length) (sput s d u) w)
    (hr : ∀ A w dn, Ext W w → J dn (sl A) w → (∀ j ∈ afters ops E.length, dn j = true) → knows A a w E o.op.operands.toList → ∀ K : Act → World → Prop, K (A.put (some d) u) w → o.wp P A w K (fun _ _ _ => False))
    (h : walkI P ops J W a K rest (E ++ [(d, Is u)])) : walkI P ops J W a K (o :: rest) E :=
  ⟨d, Is u, hd, hl, fun _ _ _ h => h, ⟨hg, by
    unfold RunsI; rw [hd]
    exact fun A w dn h1 h2 _ h4 h5 K hK => hr A w dn h1 h2 h4 h5 K (hK u w h1 rfl (hj _ _ _ h2))⟩, h⟩
theorem walkI_nil {J : Inv} {W : World} {a : Act} {K : Act → World → Prop} {E : Env} (h : ∀ w, Ext W w → fins K w E a) : walkI P ops J W a K [] E := h
end
end Go.Proofs.YtnpnjcaomakehaaGreat.Pj
namespace Go.Proofs.YtnpnjcaomakehaaGreat
open Go.RowKit
theorem run_append_E {P : Program} {w : World} {α : Type} {E : PH → List Value → α → Prop} {sz : Nat} {H : PH} {base : Nat} (t ty e : TypeId) (i : TypeInfo) (z : Value) (bytes : Nat)
    (ht : P.underlying t = some (.slice e)) (hi : P.info? e = some i) (hz : i.zero = some z) (hsz : i.size = sz) (hby : i.bytes = bytes) (hzs : z.cells.size = sz)
    {b : Nat} {vx : Value} {ys : List α} (hbb : base ≤ b) (hHb : H b = none) (hown : Own w b #[] e) (hsrc : Src w H E sz vx ys) (hl : PLe H (ph w)) (hb : base ≤ w.heap.size)
    (hbytes : ys.length * bytes ≤ 140737488355328) (hcnt : ys.length ≤ 140737488355328) :
    ∃ v' w', (Builtin.append_ #[t, t] ty #[.slice (some ⟨b, 0, none⟩) 0 0, vx]).run P w = .ok v' w' ∧ OwnS base H w' E sz e v' ys ∧ Ext w w' := by
  subst hsz; subst hby
  obtain ⟨a, cap', rfl, hcap', hsrc⟩ := hsrc
  by_cases hy : ys = []
  · subst hy
    exact ⟨_, w, run_append_zero t ty e i ht hi _ 0 0 (Nat.le_refl _) a cap', .inr ⟨b, 0, #[], rfl, hbb, hHb, hown, Nat.le_refl _, by simp [maxLen], by simp, by simp [Cells]⟩, Ext.rfl' _⟩
  · rcases hsrc with h | ⟨ad, news, rfl, hnews, hcell⟩
    · exact absurd h hy
    have hlen := hnews.length
    have hpos : 0 < ys.length := List.length_pos_iff.2 hy
    have hfresh : H w.heap.size = none := by
      cases hx : H w.heap.size with
      | none => rfl
      | some o => exact absurd (ph_lt (hl _ _ hx)) (by omega)
    have hr := run_append_grow (P := P) w t ty e i z ht hi hz ⟨b, 0, none⟩ 0 0 [] (by simp) (fun j u hu => by simp at hu) ad ys.length cap' news hlen hcell (by omega) (by omega) (growslice_fits (by omega) (by simpa using hbytes))
    have h1 := grownCap_ge w (0 + ys.length) 0 e
    have h2 := grownCap_le_maxLen w (0 + ys.length) 0 e (by simp only [maxLen]; omega)
    generalize grownCap w (0 + ys.length) 0 e = c at *
    refine ⟨_, _, hr, .inr ⟨w.heap.size, c, _, by simp, hb, hfresh, heap_alloc_new w.drew _, by omega, h2, ?_, ?_⟩, (Ext.rfl' w).drew'.alloc' _⟩
    · simp only [Array.size_append, List.size_toArray, size_zeroCells, hzs, hlen, List.length_nil, Nat.zero_add, ← Nat.add_mul]
      congr 1; omega
    · have : (([] : List Value).toArray ++ news.toArray ++ Builtin.zeroCells z.cells (c - (0 + ys.length))).toList.take (ys.length * i.size) = news := by
        simp only [Array.toList_append, List.append_assoc]
        rw [← hlen]
        exact List.take_left
      rw [this]
      exact hnews
theorem oper_append_E {P : Program} {w : World} {α : Type} {E : PH → List Value → α → Prop} {sz : Nat} {H : PH} {base : Nat} {T : TypeId} {o : Oper} {a : Act} {K : Act → World → Prop} {Q : Exit → Act → World → Prop} (s x : Operand) (t : TypeId)
    (ho : o.op = .call { callee := .builtin .append, args := #[s, x], argTypes := #[t, t] }) {z : Value} {bytes : Nat}
    (ht : P.underlying t = some (.slice T)) (hinfo : (P.info? T).map (fun i => (i.zero, i.size, i.bytes)) = some (some z, sz, bytes)) (hzs : z.cells.size = sz)
    {b : Nat} {vx : Value} {ys : List α} (hs : a.eval s = .slice (some ⟨b, 0, none⟩) 0 0) (hx : a.eval x = vx) (hbb : base ≤ b) (hHb : H b = none) (hown : Own w b #[] T) (hsrc : Src w H E sz vx ys) (hl : PLe H (ph w)) (hb : base ≤ w.heap.size)
    (hbytes : ys.length * bytes ≤ 140737488355328) (hcnt : ys.length ≤ 140737488355328)
    (hn : ∀ v' w', OwnS base H w' E sz T v' ys → Ext w w' → K (a.put o.dst v') w') : o.wp P a w K Q := by
  obtain ⟨i, hi, hz0, hz1, hz2⟩ := info_parts hinfo
  obtain ⟨v', w', hr, h2, h3⟩ := run_append_E (P := P) (w := w) t o.type T i z bytes ht hi hz0 hz1 hz2 hzs hbb hHb hown hsrc hl hb hbytes hcnt
  unfold Oper.wp execOp
  simp only [ho, resolve, invoke, builtin, Sem.run_bind, Sem.run_pure, Result.andThen_ok, List.map_toArray, List.map_cons, List.map_nil, hs, hx, hr]
  exact hn _ _ h2 h3
end Go.Proofs.YtnpnjcaomakehaaGreat
namespace Go.Proofs.YtnpnjcaomakehaaGreat
open Go.RowKit Go.Shelf
section
variable {α : Type} {E : PH → List Value → α → Prop} {sz : Nat} {H : PH} {T : TypeId} {v : Value}
theorem Cells.setAt {j : Nat} (hj : j < sz) {x x' : α} {u : Value} (h : ∀ cs, E H cs x → E H (cs.set j u) x') : ∀ {xs : List α} {c : List Value} (k : Nat), xs[k]? = some x → Cells H E sz c xs → Cells H E sz (c.set (k * sz + j) u) (xs.set k x')
  | [], _, k, hk, _ => by simp at hk
  | z :: zs, c, 0, hk, hc => by
    obtain ⟨cs, rest, rfl, h1, h2, h3⟩ := hc
    obtain rfl : z = x := by simpa using hk
    refine ⟨cs.set j u, rest, ?_, by simpa using h1, h _ h2, h3⟩
    rw [Nat.zero_mul, Nat.zero_add, List.set_append_left _ _ (by omega)]
  | z :: zs, c, k + 1, hk, hc => by
    obtain ⟨cs, rest, rfl, h1, h2, h3⟩ := hc
    refine ⟨cs, rest.set (k * sz + j) u, ?_, h1, h2, Cells.setAt hj h k (by simpa using hk) h3⟩
    rw [List.set_append_right _ _ (by rw [Nat.add_mul]; omega)]
    congr 2; rw [Nat.add_mul]; omega
theorem Mem.setAt {w0 w : World} {H0 : PH} {L : List Chunk} {hm : Mono E} {xs : List α} {x x' : α} {u : Value} (h : Mem w0 H0 L H w) (i : Nat) (hi : L[i]? = some (own hm sz T v xs)) (k j : Nat) (hj : j < sz) (hk : xs[k]? = some x) (hx : ∀ cs, E H cs x → E H (cs.set j u) x') :
    ∃ g cap, v = .slice (some ⟨g, 0, none⟩) xs.length cap ∧ w.frozen? ⟨g, k * sz + j, none⟩ = false ∧ (∃ u0, w.cell? ⟨g, k * sz + j, none⟩ = some u0) ∧ g < w.heap.size ∧
      Mem w0 H0 (L.set i (own hm sz T v (xs.set k x'))) H (w.setCell ⟨g, k * sz + j, none⟩ u) := by
  have h4 : OwnC H w E sz T v xs := h.ok i _ hi
  obtain ⟨hkl, hkx⟩ := List.getElem?_eq_some_iff.1 hk
  rcases h4 with ⟨rfl, rfl⟩ | ⟨g, cap, cur, rfl, k1, k2, k3, k4, k5⟩
  · simp at hkl
  · have hgl := (Array.getElem?_eq_some_iff.1 k1).1
    have hlt : k * sz + j < xs.length * sz := by
      have := Nat.mul_le_mul_right sz (show k + 1 ≤ xs.length from hkl); rw [Nat.add_mul] at this; omega
    have hlt2 : xs.length * sz ≤ cap * sz := Nat.mul_le_mul_right _ k2
    refine ⟨g, cap, rfl, by simp [World.frozen?, k1], ⟨cur[k * sz + j]'(by omega), ?_⟩, hgl, ?_⟩
    · rw [show w.cell? ⟨g, k * sz + j, none⟩ = cur[k * sz + j]? by simp [World.cell?, k1]]
      exact Array.getElem?_eq_getElem (by omega)
    · refine h.put i hi (c' := own hm sz T _ (xs.set k x')) (.inr ⟨g, cap, cur.setIfInBounds (k * sz + j) u, by simp, Own.set (T := T) k1 _ _, by simpa using k2, k3, by simpa using k4, ?_⟩) (fun k hk => .inl hk) (h.ex.set' (h.fr i _ hi g rfl).1 _) fun j hj hne => ?_
      · have := Cells.setAt (H := H) hj hx k hk k5
        rw [List.length_set, Array.toList_setIfInBounds, List.take_set]
        exact this
      · rw [Below.heap_setCell _ _ _ _ (fun e => hne (by rw [e]; rfl))]
end
def ClO (h : PH) (cs : List Value) (x : Cl × Option (List Value)) : Prop := match x.2 with
  | none => ClR h cs x.1
  | some c0 => cs = c0 ∧ c0.length = 5 ∧ ∀ u ∈ c0, u.oneCell' = true
theorem mono_ClO : Mono ClO := by
  rintro h h' cs ⟨x, o⟩ hl hr
  cases o with
  | none => exact mono_ClR _ _ _ _ hl hr
  | some c0 => exact hr
theorem one_ClO {h : PH} : ∀ cs x, ClO h cs x → ∀ u ∈ cs, u.oneCell' = true := by
  rintro cs ⟨x, o⟩ hr
  cases o with
  | none => exact one_ClR (h := h) _ x hr
  | some c0 => obtain ⟨rfl, -, h2⟩ := hr; exact h2
theorem ClO.set {h : PH} {cs c0 : List Value} {x : Cl} {j : Nat} {u : Value} (hu : u.oneCell' = true) (hr : ClO h cs (x, some c0)) : ClO h (cs.set j u) (x, some (c0.set j u)) := by
  obtain ⟨rfl, h1, h2⟩ := hr
  refine ⟨rfl, by simpa using h1, fun v hv => ?_⟩
  rcases List.mem_or_eq_of_mem_set hv with h3 | h3
  · exact h2 v h3
  · rw [h3]; exact hu
def OpenAt (i : Nat) (xs : List (Cl × Option (List Value))) : Prop := ∀ j x, xs[j]? = some x → j ≠ i → x.2 = none
theorem Cells.fill {H : PH} {c' : Cl} {c0 : List Value} (hc : ClR H c0 c') : ∀ {xs : List (Cl × Option (List Value))} {c : List Value} (i : Nat), OpenAt i xs → (∀ x, xs[i]? = some x → x.2 = some c0) → Cells H ClO 5 c xs → Cells H ClR 5 c ((xs.map Prod.fst).set i c')
  | [], c, i, _, _, h => h
  | (y, o) :: ys, c, 0, ho, hx, h => by
    obtain ⟨cs, rest, rfl, h1, h2, h3⟩ := h
    obtain rfl : o = some c0 := hx (y, o) rfl
    obtain ⟨rfl, -, -⟩ := h2
    refine ⟨cs, rest, rfl, h1, hc, ?_⟩
    have : ∀ {zs : List (Cl × Option (List Value))} {d : List Value}, (∀ z ∈ zs, z.2 = none) → Cells H ClO 5 d zs → Cells H ClR 5 d (zs.map Prod.fst) := by
      intro zs
      induction zs with
      | nil => intro d _ h; exact h
      | cons z zs ih =>
        rintro d hz ⟨cs', rest', rfl, g1, g2, g3⟩
        refine ⟨cs', rest', rfl, g1, ?_, ih (fun x hx => hz x (by simp [hx])) g3⟩
        obtain ⟨z, o⟩ := z
        obtain rfl : o = none := hz (z, o) (by simp)
        exact g2
    refine this (fun z hz => ?_) h3
    obtain ⟨j, hj, e⟩ := List.getElem_of_mem hz
    exact ho (j + 1) z (by simp [← e, hj]) (by simp)
  | (y, o) :: ys, c, i + 1, ho, hx, h => by
    obtain ⟨cs, rest, rfl, h1, h2, h3⟩ := h
    obtain rfl : o = none := ho 0 (y, o) rfl (by simp)
    exact ⟨cs, rest, rfl, h1, h2, Cells.fill hc i (fun j x hj hn => ho (j + 1) x (by simpa using hj) (by omega)) (fun x hj => hx x (by simpa using hj)) h3⟩
theorem Mem.fill {w0 w : World} {H0 H : PH} {L : List Chunk} {T : TypeId} {v : Value} {xs : List (Cl × Option (List Value))} {c' : Cl} {c0 : List Value} (h : Mem w0 H0 L H w) (k : Nat) (hk : L[k]? = some (Proofs.YtnpnjcaomakehaaGreat.own mono_ClO 5 T v xs)) (hc : ClR H c0 c') (i : Nat) (ho : OpenAt i xs) (hx : ∀ x, xs[i]? = some x → x.2 = some c0) :
    Mem w0 H0 (L.set k (Proofs.YtnpnjcaomakehaaGreat.own mono_ClR 5 T v ((xs.map Prod.fst).set i c'))) H w := by
  have h4 : OwnC H w ClO 5 T v xs := h.ok k _ hk
  refine h.put k hk (c' := Proofs.YtnpnjcaomakehaaGreat.own mono_ClR 5 T v ((xs.map Prod.fst).set i c')) ?_ (fun j hj => .inl hj) h.ex fun _ _ _ => rfl
  rcases h4 with ⟨rfl, rfl⟩ | ⟨g, cap, cur, rfl, k1, k2, k3, k4, k5⟩
  · exact .inl ⟨rfl, rfl⟩
  · exact .inr ⟨g, cap, cur, by simp, k1, by simpa using k2, k3, k4, by have := Cells.fill hc i ho hx k5; simpa using this⟩
def LitC (W0 : World) (rs : List Int) (f : Fm) (a3 : Option Addr) (c3 : Nat) (a4 : Option Addr) (c4 : Nat) (v : Value) (w : World) : Prop :=
  ∃ g a c, v = .slice (some ⟨g, 0, none⟩) 1 1 ∧ Own w g #[.slice a rs.length c, .int .i64 f.op, .int .i64 f.n, .slice a3 f.inn.length c3, .slice a4 f.kids.length c4] 58 ∧ OwnS W0.heap.size noH w IntR 1 3 (.slice a rs.length c) rs
theorem stab_LitC {W : World} (W0 : World) (rs : List Int) (f : Fm) (a3 : Option Addr) (c3 : Nat) (a4 : Option Addr) (c4 : Nat) : Stable W (LitC W0 rs f a3 c3 a4 c4) := fun v w w' _ ⟨g, a, c, h1, h2, h3⟩ e => ⟨g, a, c, h1, h2.keep e, h3.keep e⟩
theorem openAt_set {i : Nat} {xs : List (Cl × Option (List Value))} (h : OpenAt i xs) (y : Cl × Option (List Value)) : OpenAt i (xs.set i y) := by
  intro j x hj hn
  rw [List.getElem?_set_ne (by omega)] at hj
  exact h j x hj hn
theorem fill_set {w wx : World} {H0 H : PH} {L : List Chunk} {T : TypeId} {v : Value} {xs : List (Cl × Option (List Value))} {l : List Cl} {c c' : Cl} {c0 : List Value} (i : Nat) (hl : xs.map Prod.fst = l) (ho : OpenAt i xs) (hi : i < xs.length)
    (h : Mem w H0 (Proofs.YtnpnjcaomakehaaGreat.own mono_ClO 5 T v (xs.set i (c, some c0)) :: L) H wx) (hc : ClR H c0 c') : Mem w H0 (Proofs.YtnpnjcaomakehaaGreat.own mono_ClR 5 T v (l.set i c') :: L) H wx := by
  have := h.fill 0 rfl hc i (openAt_set ho _) (fun x hx => by rw [List.getElem?_set_self hi] at hx; cases hx; rfl)
  rw [List.map_set, List.set_set, hl] at this
  exact this
def SpWv (w : World) (H0 : PH) (ov : Value) (wx : World) : Prop := ∃ L H, Mem w H0 [own mono_ClR 5 58 ov L] H wx ∧ ∀ c ∈ L, c.body.bulk ≤ 30000
theorem SpWv.of {w wx : World} {H0 H : PH} {L : List Chunk} {ov : Value} {l : List Cl} {i : Nat} {c' : Cl} (h : Mem w H0 (Proofs.YtnpnjcaomakehaaGreat.own mono_ClR 5 58 ov (l.set i c') :: L) H wx) (hb : ∀ c ∈ l, c.body.bulk ≤ 10000 ∧ c.refs.length ≤ 100) (hc : c'.body.bulk ≤ 30000) : SpWv w H0 ov wx := by
  refine ⟨_, H, by simpa using h.pick [0] (by decide), fun c hm => ?_⟩
  rcases List.mem_or_eq_of_mem_set hm with h1 | h1
  · have := (hb c h1).1; omega
  · rw [h1]; exact hc
def lenV : Value → Nat
  | .slice _ n _ => n
  | _ => 0
theorem Mem.int1 {w0 w : World} {H0 H : PH} {L : List Chunk} (h : Mem w0 H0 L H w) (x : Int) (hx : I64 x) : ∃ H', PLe H H' ∧ Mem w0 H0 (L ++ [nop]) H' (w.alloc (.cells #[.int .i64 x] 3)) ∧ IntsR H' (.slice (some ⟨w.heap.size, 0, none⟩) 1 1) [x] := by
  have h1 := h.new #[.int .i64 x] 3
  have h2 := h1.asOwn L.length (g := w.heap.size) (cur := #[.int .i64 x]) (T := 3) (by simp) mono_IntR (sz := 1) (xs := [x]) (n := 1) (by simp) (by simp [maxLen]) rfl ⟨_, [], rfl, rfl, ⟨rfl, hx⟩, rfl⟩
  rw [List.set_append_right _ _ (Nat.le_refl _)] at h2
  simp only [Nat.sub_self, List.set_cons_zero, List.length_cons, List.length_nil, Nat.zero_add] at h2
  obtain ⟨H', g1, g2, g3⟩ := h2.freezeS L.length (hm := mono_IntR) (sz := 1) (T := 3) (v := .slice (some ⟨w.heap.size, 0, none⟩) 1 1) (xs := [x]) (by simp)
  rw [List.set_append_right _ _ (Nat.le_refl _)] at g2
  simp only [Nat.sub_self, List.set_cons_zero] at g2
  exact ⟨H', g1, g2, g3⟩
end Go.Proofs.YtnpnjcaomakehaaGreat
