/- the ends of sets, sorted, each once: a list of ends that tells all. -/
import Derived.Test.YtmbkefgmiehdiaaSpK
import Derived.Test.YtmbkefgmiehdiaaSpS
namespace Go.Proofs.Ytmbkefgmiehdiaa
set_option linter.unusedVariables false
set_option linter.unusedSimpArgs false
/-- both ends of each -/
def gat (l : List Itv) : List En := l.flatMap fun x => [loE x, hiE x]
theorem gat_append (l r : List Itv) : gat (l ++ r) = gat l ++ gat r := by unfold gat; rw [List.flatMap_append]
theorem gat_len (l : List Itv) : (gat l).length = 2 * l.length := by
  unfold gat
  induction l with
  | nil => rfl
  | cons x l ih => rw [List.flatMap_cons, List.length_append, ih]; simp; omega
theorem mem_gat {l : List Itv} {x : Itv} (h : x ∈ l) : loE x ∈ gat l ∧ hiE x ∈ gat l := by
  unfold gat
  simp only [List.mem_flatMap]
  exact ⟨⟨x, h, by simp⟩, ⟨x, h, by simp⟩⟩
theorem gat_sm {l : List Itv} (h : ∀ x ∈ l, goodB x = true) : ∀ e ∈ gat l, e.sm := by
  intro e he
  unfold gat at he
  obtain ⟨x, hx, h1⟩ := List.mem_flatMap.1 he
  simp only [List.mem_cons, List.not_mem_nil, or_false] at h1
  rcases h1 with rfl | rfl
  · exact goodB.lo (h x hx)
  · exact goodB.hi (h x hx)
theorem sm_irr {a : En} (h : a.sm) : lessE a a = false := by
  have := stoE.irr ⟨a, h.ok⟩
  unfold ltE at this
  simpa using this
theorem sm_trans {a b c : En} (ha : a.sm) (hb : b.sm) (hc : c.sm) (h1 : lessE a b = true) (h2 : lessE b c = true) : lessE a c = true := stoE.trans ⟨a, ha.ok⟩ ⟨b, hb.ok⟩ ⟨c, hc.ok⟩ h1 h2
theorem sm_total {a b : En} (ha : a.sm) (hb : b.sm) (h1 : lessE b a = false) (h2 : a ≠ b) : lessE a b = true := by
  rcases stoE.total ⟨a, ha.ok⟩ ⟨b, hb.ok⟩ with h | h | h
  · exact h
  · exact absurd (congrArg Subtype.val h) h2
  · have : lessE b a = true := h
    rw [h1] at this; cases this
theorem ddP_law : ∀ (l : List En) (d : Option En), (∀ e ∈ l, e.sm) → (∀ p, d = some p → p.sm ∧ ∀ x ∈ l, lessE x p = false) → l.Pairwise (fun x y => lessE y x = false) →
    (ddP d l).Pairwise (fun x y => lessE x y = true) ∧ (∀ p, d = some p → ∀ x ∈ ddP d l, lessE p x = true) ∧ (∀ x ∈ l, x ∈ ddP d l ∨ d = some x) ∧ ∀ x ∈ ddP d l, x ∈ l
  | [], d, _, _, _ => ⟨List.Pairwise.nil, fun _ _ x hx => (by cases hx), fun x hx => (by cases hx), fun x hx => hx⟩
  | x :: r, d, hs, hd, hp => by
    have hx : x.sm := hs x List.mem_cons_self
    rw [List.pairwise_cons] at hp
    obtain ⟨i1, i2, i3, i4⟩ := ddP_law r (some x) (fun e he => hs e (List.mem_cons_of_mem _ he)) (fun p hp' => by cases hp'; exact ⟨hx, hp.1⟩) hp.2
    have i2' := i2 x rfl
    by_cases h : d = some x.k
    · have e1 : ddP d (x :: r) = ddP (some x) r := by rw [ddP, if_pos h]; rfl
      rw [e1]
      refine ⟨i1, fun p hp' => ?_, fun y hy => ?_, fun y hy => List.mem_cons_of_mem _ (i4 y hy)⟩
      · rw [h] at hp'; cases hp'; exact i2'
      · rcases List.mem_cons.1 hy with rfl | hy
        · exact .inr h
        · rcases i3 y hy with h3 | h3
          · exact .inl h3
          · cases h3; exact .inr h
    · have e1 : ddP d (x :: r) = x :: ddP (some x) r := by rw [ddP, if_neg h]; rfl
      rw [e1]
      refine ⟨List.pairwise_cons.2 ⟨i2', i1⟩, fun p hp' y hy => ?_, fun y hy => ?_, fun y hy => ?_⟩
      · obtain ⟨hps, hpx⟩ := hd p hp'
        have hpx' : lessE p x = true := sm_total hps hx (hpx x List.mem_cons_self) fun e => h (by rw [hp', e]; rfl)
        rcases List.mem_cons.1 hy with rfl | hy
        · exact hpx'
        · exact sm_trans hps hx (hs y (List.mem_cons_of_mem _ (i4 y hy))) hpx' (i2' y hy)
      · rcases List.mem_cons.1 hy with rfl | hy
        · exact .inl List.mem_cons_self
        · rcases i3 y hy with h3 | h3
          · exact .inl (List.mem_cons_of_mem _ h3)
          · cases h3; exact .inl List.mem_cons_self
      · rcases List.mem_cons.1 hy with rfl | hy
        · exact List.mem_cons_self
        · exact List.mem_cons_of_mem _ (i4 y hy)
theorem sm_bot {a : En} (h : a.sm) : lessE a botE = false := by
  have h1 := ltE_bot (x := ⟨a, h.ok⟩)
  unfold ltE at h1
  rw [toT_val (En.sm.ok (.inr (.inl rfl)))] at h1
  simpa using h1
theorem sm_top {a : En} (h : a.sm) (hf : a.far ≠ 1) : lessE a topE = true := by
  unfold lessE
  have : topE.far = 1 := rfl
  rw [this, if_pos hf]
  have h1 := h.bd.2.1
  simp; omega
theorem sm_far1 {a : En} (h : a.sm) (hf : a.far = 1) : a = topE := by
  rcases h with ⟨h1, -⟩ | rfl | rfl
  · omega
  · cases hf
  · rfl
/-- behind the sort, the compaction and the last end -/
def fin (D : List En) : List En := if (D.getLast?.getD botE).far ≠ 1 then D ++ [topE] else D
theorem ends_of {ls : List (List Itv)} {ys : List En} (hg : ∀ x ∈ ls.flatten, goodB x = true) (hp : ys.Perm (botE :: gat ls.flatten)) (hs : ys.Pairwise fun x y => lessE y x = false) : Ends ls (fin (dd ys)) ∧ 0 < (dd ys).length := by
  have hsm : ∀ e ∈ ys, e.sm := by
    intro e he
    rcases List.mem_cons.1 (hp.mem_iff.1 he) with rfl | he
    · exact .inr (.inl rfl)
    · exact gat_sm hg e he
  obtain ⟨d1, -, d3, d4⟩ := ddP_law ys none hsm (fun p hp => by cases hp) hs
  have hmem : ∀ x ∈ ys, x ∈ dd ys := by
    intro x hx
    rcases d3 x hx with h | h
    · exact h
    · cases h
  have hdsm : ∀ e ∈ dd ys, e.sm := fun e he => hsm e (d4 e he)
  have hbot : botE ∈ dd ys := hmem _ (hp.mem_iff.2 List.mem_cons_self)
  replace d1 : (dd ys).Pairwise fun x y => lessE x y = true := d1
  generalize dd ys = D at *
  obtain ⟨es, rfl⟩ : ∃ es, D = botE :: es := by
    cases D with
    | nil => cases hbot
    | cons x r =>
      refine ⟨r, ?_⟩
      rcases List.mem_cons.1 hbot with h | h
      · rw [h]
      · have := (List.pairwise_cons.1 d1).1 _ h
        rw [sm_bot (hdsm x List.mem_cons_self)] at this; cases this
  have hall : ∀ l ∈ ls, ∀ x ∈ l, loE x ∈ botE :: es ∧ hiE x ∈ botE :: es := by
    intro l hl x hx
    have hf : x ∈ ls.flatten := List.mem_flatten.2 ⟨l, hl, hx⟩
    obtain ⟨h1, h2⟩ := mem_gat hf
    exact ⟨hmem _ (hp.mem_iff.2 (List.mem_cons_of_mem _ h1)), hmem _ (hp.mem_iff.2 (List.mem_cons_of_mem _ h2))⟩
  refine ⟨?_, by simp⟩
  unfold fin
  obtain ⟨init, z, hz⟩ : ∃ init z, botE :: es = init ++ [z] := ⟨(botE :: es).dropLast, (botE :: es).getLast (by simp), (List.dropLast_concat_getLast (by simp)).symm⟩
  have hl : ((botE :: es).getLast?.getD botE) = z := by rw [hz]; simp
  rw [hl]
  have hzs : z.sm := hdsm z (by rw [hz]; simp)
  split
  · rename_i hf
    have hnf : ∀ e ∈ botE :: es, e.far ≠ 1 := by
      intro e he h1
      rw [hz] at he
      rcases List.mem_append.1 he with h2 | h2
      · have h3 : lessE e z = true := by
          rw [hz] at d1
          exact (List.pairwise_append.1 d1).2.2 e h2 z (by simp)
        have hes : e.sm := hdsm e (by rw [hz]; exact List.mem_append_left _ h2)
        have := lessE_far h3
        have := hzs.bd.2.1
        omega
      · rw [List.mem_singleton.1 h2] at h1; exact hf h1
    refine ⟨⟨es, rfl⟩, ?_, ?_, ?_⟩
    · intro e he
      rcases List.mem_append.1 he with he | he
      · exact hdsm e he
      · rw [List.mem_singleton.1 he]; exact .inr (.inr rfl)
    · rw [List.pairwise_append]
      refine ⟨d1, List.pairwise_singleton _ _, fun a ha b hb => ?_⟩
      rw [List.mem_singleton.1 hb]
      exact sm_top (hdsm a ha) (hnf a ha)
    · intro l hl x hx
      obtain ⟨h1, h2⟩ := hall l hl x hx
      exact ⟨List.mem_append_left _ h1, List.mem_append_left _ h2⟩
  · rename_i hf
    have hzt : z = topE := sm_far1 hzs (by simpa using hf)
    subst hzt
    refine ⟨?_, hdsm, d1, hall⟩
    cases init with
    | nil =>
      injection hz with h1 h2
      have : botE.far = topE.far := by rw [h1]
      cases this
    | cons b init =>
      rw [List.cons_append] at hz
      injection hz with h1 h2
      exact ⟨init, by rw [h2]; rfl⟩
theorem lessR_eq (a b : Rat2) (t : Bool) : lessE ⟨0, a, t⟩ ⟨0, b, t⟩ = lessR a b := by
  unfold lessE lessR
  rw [if_neg (by simp), if_neg (by simp)]
  by_cases h : a.num * b.den = b.num * a.den
  · rw [if_neg (by simpa using h)]
    dsimp only
    rw [h]; simp
  · rw [if_pos h]
theorem lessE_ab (a b : Rat2) : lessE ⟨0, a, false⟩ ⟨0, b, true⟩ = !lessR b a := by
  unfold lessE lessR
  rw [if_neg (by simp), if_neg (by simp)]
  by_cases h : a.num * b.den = b.num * a.den
  · rw [if_neg (by simpa using h)]
    dsimp only
    rw [h]; simp
  · rw [if_pos h]
    dsimp only
    rw [Bool.eq_iff_iff]
    simp; omega
theorem lessE_ba (a b : Rat2) : lessE ⟨0, a, true⟩ ⟨0, b, false⟩ = lessR a b := by
  unfold lessE lessR
  rw [if_neg (by simp), if_neg (by simp)]
  by_cases h : a.num * b.den = b.num * a.den
  · rw [if_neg (by simpa using h)]
    dsimp only
    rw [h]; simp
  · rw [if_pos h]
theorem lessR_trans {a b c : Rat2} (ha : a.ok) (hb : b.ok) (hc : c.ok) (h1 : lessR a b = true) (h2 : lessR b c = true) : lessR a c = true := by
  rw [← lessR_eq _ _ false] at *
  exact stoE.trans ⟨⟨0, a, false⟩, .inl ⟨rfl, ha⟩⟩ ⟨⟨0, b, false⟩, .inl ⟨rfl, hb⟩⟩ ⟨⟨0, c, false⟩, .inl ⟨rfl, hc⟩⟩ h1 h2
theorem lessR_irr (a : Rat2) : lessR a a = false := by unfold lessR; simp
theorem lessR_total {a b : Rat2} (ha : a.ok) (hb : b.ok) (h : lessR a b = false) (hn : a ≠ b) : lessR b a = true := by
  unfold lessR at *
  simp at *
  rcases Int.lt_trichotomy (a.num * b.den) (b.num * a.den) with h1 | h1 | h1
  · omega
  · exact absurd (Rat2.same ha hb h1) hn
  · exact h1
end Go.Proofs.Ytmbkefgmiehdiaa
