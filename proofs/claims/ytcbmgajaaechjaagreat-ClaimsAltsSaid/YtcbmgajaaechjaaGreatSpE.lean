/- sets of intervals by runs: the list that a sequence of ends makes is canonical, and has just the ends of the set. -/
import Derived.Test.YtcbmgajaaechjaaGreatSPl
namespace Go.Proofs.YtcbmgajaaechjaaGreat
set_option linter.unusedVariables false
/-- the runs of true, from end to end; the first argument: where the run that is under way began -/
def runZ {α : Type} : Option α → List (α × Bool) → List (α × α)
  | _, [] => []
  | none, z :: r => if z.2 then runZ (some z.1) r else runZ none r
  | some s, z :: r => if z.2 then runZ (some s) r else (s, z.1) :: runZ none r
theorem runZ_map {α β : Type} (g : α → β) : ∀ (zs : List (α × Bool)) (f : Option α), runZ (f.map g) (zs.map fun z => (g z.1, z.2)) = (runZ f zs).map fun i => (g i.1, g i.2)
  | [], none => rfl
  | [], some s => rfl
  | (a, b) :: r, none => by
    cases b
    · exact runZ_map g r none
    · exact runZ_map g r (some a)
  | (a, b) :: r, some s => by
    cases b
    · show (g s, g a) :: runZ (Option.map g none) _ = _
      rw [runZ_map g r none]; rfl
    · exact runZ_map g r (some s)
theorem runZ_len {α : Type} : ∀ (zs : List (α × Bool)) (f : Option α), (runZ f zs).length ≤ zs.length
  | [], none => Nat.le_refl _
  | [], some s => Nat.le_refl _
  | (a, b) :: r, none => by
    have h1 := runZ_len r none
    have h2 := runZ_len r (some a)
    cases b <;> simp only [runZ, List.length_cons, Bool.false_eq_true, if_false, if_true] <;> omega
  | (a, b) :: r, some s => by
    have h1 := runZ_len r none
    have h2 := runZ_len r (some s)
    cases b <;> simp only [runZ, List.length_cons, Bool.false_eq_true, if_false, if_true] <;> omega
theorem runZ_mem {α : Type} : ∀ (zs : List (α × Bool)) (f : Option α), ∀ i ∈ runZ f zs, ((∃ z ∈ zs, z.1 = i.1) ∨ f = some i.1) ∧ ∃ z ∈ zs, z.1 = i.2
  | [], none => by intro i hi; cases hi
  | [], some s => by intro i hi; cases hi
  | (a, b) :: r, none => by
    intro i hi
    cases b
    · obtain ⟨h1, z, hz, h2⟩ := runZ_mem r none i hi
      refine ⟨.inl ?_, z, List.mem_cons_of_mem _ hz, h2⟩
      rcases h1 with ⟨z, hz, h⟩ | h
      · exact ⟨z, List.mem_cons_of_mem _ hz, h⟩
      · cases h
    · obtain ⟨h1, z, hz, h2⟩ := runZ_mem r (some a) i hi
      refine ⟨.inl ?_, z, List.mem_cons_of_mem _ hz, h2⟩
      rcases h1 with ⟨z, hz, h⟩ | h
      · exact ⟨z, List.mem_cons_of_mem _ hz, h⟩
      · cases h; exact ⟨_, List.mem_cons_self, rfl⟩
  | (a, b) :: r, some s => by
    intro i hi
    cases b
    · rcases List.mem_cons.1 hi with rfl | hi
      · exact ⟨.inr rfl, _, List.mem_cons_self, rfl⟩
      · obtain ⟨h1, z, hz, h2⟩ := runZ_mem r none i hi
        refine ⟨.inl ?_, z, List.mem_cons_of_mem _ hz, h2⟩
        rcases h1 with ⟨z, hz, h⟩ | h
        · exact ⟨z, List.mem_cons_of_mem _ hz, h⟩
        · cases h
    · obtain ⟨h1, z, hz, h2⟩ := runZ_mem r (some s) i hi
      refine ⟨?_, z, List.mem_cons_of_mem _ hz, h2⟩
      rcases h1 with ⟨z, hz, h⟩ | h
      · exact .inl ⟨z, List.mem_cons_of_mem _ hz, h⟩
      · exact .inr h
section
variable {α : Type} {lt : α → α → Prop}
/-- between neighbours the set is as the mark says; behind the last one nothing is in it -/
def Seg (lt : α → α → Prop) (P : α → Prop) : List (α × Bool) → Prop
  | [] => False
  | [z] => z.2 = false ∧ ∀ x, ¬ lt x z.1 → ¬ P x
  | a :: b :: r => lt a.1 b.1 ∧ (∀ x, ¬ lt x a.1 → lt x b.1 → (P x ↔ a.2 = true)) ∧ Seg lt P (b :: r)
theorem covE_cons {l : List (α × α)} {i : α × α} {x : α} : covE lt (i :: l) x ↔ (¬ lt x i.1 ∧ lt x i.2) ∨ covE lt l x := by
  unfold covE
  simp only [List.mem_cons, exists_eq_or_imp]
theorem CanE.cons (ho : STO lt) {i : α × α} {l : List (α × α)} (h : lt i.1 i.2) (hl : CanE lt l) (ha : ∀ j ∈ l, lt i.2 j.1) : CanE lt (i :: l) := by
  cases l with
  | nil => exact h
  | cons j r => exact ⟨h, ha j List.mem_cons_self, hl⟩
theorem runZ_can (ho : STO lt) {P : α → Prop} : ∀ (r : List (α × Bool)) (e : α × Bool), Seg lt P (e :: r) →
    (CanE lt (runZ none (e :: r)) ∧ (∀ i ∈ runZ none (e :: r), ¬ lt i.1 e.1) ∧ (e.2 = false → ∀ i ∈ runZ none (e :: r), lt e.1 i.1) ∧ ∀ x, ¬ lt x e.1 → (covE lt (runZ none (e :: r)) x ↔ P x)) ∧
    ∀ s, lt s e.1 → (∀ x, ¬ lt x s → lt x e.1 → P x) → CanE lt (runZ (some s) (e :: r)) ∧ (∀ i ∈ runZ (some s) (e :: r), ¬ lt i.1 s) ∧ ∀ x, ¬ lt x s → (covE lt (runZ (some s) (e :: r)) x ↔ P x)
  | [], e, hS => by
    obtain ⟨h1, h2⟩ := hS
    have e1 : runZ none [e] = [] := by unfold runZ; rw [h1]; rfl
    have e2 : ∀ s, runZ (some s) [e] = [(s, e.1)] := by intro s; unfold runZ; rw [h1]; rfl
    rw [e1]
    refine ⟨⟨trivial, (by intro i hi; cases hi), (by intro _ i hi; cases hi), fun x hx => ⟨?_, fun hp => absurd hp (h2 x hx)⟩⟩, fun s hs hP => ?_⟩
    · rintro ⟨i, hi, -⟩; cases hi
    · rw [e2]
      refine ⟨hs, ?_, fun x hx => ?_⟩
      · intro i hi; rw [List.mem_singleton.1 hi]; exact ho.irr _
      · rw [covE_cons]
        constructor
        · rintro (⟨h3, h4⟩ | ⟨i, hi, -⟩)
          · exact hP x h3 h4
          · cases hi
        · intro hp
          by_cases h5 : lt x e.1
          · exact .inl ⟨hx, h5⟩
          · exact absurd hp (h2 x h5)
  | b :: r, e, hS => by
    have n1 : ∀ (z : α × Bool) (q : List (α × Bool)), z.2 = true → runZ none (z :: q) = runZ (some z.1) q := by intro z q h; rw [runZ, if_pos h]
    have n2 : ∀ (z : α × Bool) (q : List (α × Bool)) (s : α), z.2 = true → runZ (some s) (z :: q) = runZ (some s) q := by intro z q s h; rw [runZ, if_pos h]
    have n3 : ∀ (z : α × Bool) (q : List (α × Bool)), z.2 = false → runZ none (z :: q) = runZ none q := by intro z q h; rw [runZ, if_neg (by rw [h]; simp)]
    have n4 : ∀ (z : α × Bool) (q : List (α × Bool)) (s : α), z.2 = false → runZ (some s) (z :: q) = (s, z.1) :: runZ none q := by intro z q s h; rw [runZ, if_neg (by rw [h]; simp)]
    obtain ⟨hab, hseg, hS'⟩ := hS
    obtain ⟨⟨i1, i2, i3, i4⟩, j⟩ := runZ_can ho r b hS'
    cases he : e.2 with
    | true =>
      have e1 : runZ none (e :: b :: r) = runZ (some e.1) (b :: r) := n1 _ _ he
      have e2 : ∀ s, runZ (some s) (e :: b :: r) = runZ (some s) (b :: r) := fun s => n2 _ _ s he
      obtain ⟨j1, j2, j3⟩ := j e.1 hab fun x h1 h2 => (hseg x h1 h2).2 he
      refine ⟨by rw [e1]; exact ⟨j1, j2, fun h => (by cases h), j3⟩, fun s hs hP => ?_⟩
      rw [e2]
      exact j s (ho.trans _ _ _ hs hab) fun x h1 h2 => by
        by_cases h3 : lt x e.1
        · exact hP x h1 h3
        · exact (hseg x h3 h2).2 he
    | false =>
      have e1 : runZ none (e :: b :: r) = runZ none (b :: r) := n3 _ _ he
      have e2 : ∀ s, runZ (some s) (e :: b :: r) = (s, e.1) :: runZ none (b :: r) := fun s => n4 _ _ s he
      have hin : ∀ x, ¬ lt x e.1 → (covE lt (runZ none (b :: r)) x ↔ P x) := by
        intro x hx
        by_cases h3 : lt x b.1
        · constructor
          · rintro ⟨i, hi, h4, -⟩
            exact absurd (ho.lt_le h3 (i2 i hi)) h4
          · intro hp
            have := (hseg x hx h3).1 hp
            rw [he] at this; cases this
        · exact i4 x h3
      have hgt : ∀ i ∈ runZ none (b :: r), lt e.1 i.1 := fun i hi => ho.lt_le hab (i2 i hi)
      refine ⟨by rw [e1]; exact ⟨i1, fun i hi => ho.asymm (hgt i hi), fun _ => hgt, hin⟩, fun s hs hP => ?_⟩
      rw [e2]
      refine ⟨CanE.cons ho hs i1 hgt, ?_, fun x hx => ?_⟩
      · intro i hi
        rcases List.mem_cons.1 hi with rfl | hi
        · exact ho.irr _
        · exact ho.asymm (ho.trans _ _ _ hs (hgt i hi))
      · rw [covE_cons]
        by_cases h3 : lt x e.1
        · constructor
          · intro _; exact hP x hx h3
          · intro _; exact .inl ⟨hx, h3⟩
        · rw [← hin x h3]
          constructor
          · rintro (⟨-, h4⟩ | h4)
            · exact absurd h4 h3
            · exact h4
          · exact .inr
/-- two sequences of ends of one set make the same list -/
theorem runZ_uniq (ho : STO lt) {P : α → Prop} {e : α} (hb : ∀ x, ¬ lt x e) {b c : Bool} {r s : List (α × Bool)} (h1 : Seg lt P ((e, b) :: r)) (h2 : Seg lt P ((e, c) :: s)) : runZ none ((e, b) :: r) = runZ none ((e, c) :: s) := by
  obtain ⟨⟨a1, -, -, a4⟩, -⟩ := runZ_can ho r (e, b) h1
  obtain ⟨⟨b1, -, -, b4⟩, -⟩ := runZ_can ho s (e, c) h2
  exact CanE.uniq ho a1 b1 fun x => by rw [a4 x (hb x), b4 x (hb x)]
/-- the marks of a set by the ends of a list: all of its ends are among them -/
theorem seg_of (ho : STO lt) {P : α → Prop} (p : α → Bool) : ∀ (es : List α) (z : α), (es ++ [z]).Pairwise lt → (∀ a ∈ es, P a ↔ p a = true) → (∀ x, ¬ lt x z → ¬ P x) → p z = false →
    (∀ a x, a ∈ es → lt a x → (∀ y ∈ es ++ [z], lt a y → lt x y) → (P x ↔ P a)) →
    Seg lt P ((es ++ [z]).map fun e => (e, p e))
  | [], z, _, _, h2, h3, _ => ⟨h3, h2⟩
  | [a], z, hp, h1, h2, h3, h4 => by
    have hab : lt a z := by simpa using hp
    refine ⟨hab, fun x hx hxz => ?_, h3, h2⟩
    rw [← h1 a List.mem_cons_self]
    rcases ho.total a x with h | h | h
    · exact h4 a x List.mem_cons_self h fun y hy hay => by
        rcases List.mem_append.1 hy with hy | hy
        · rw [List.mem_singleton.1 hy] at hay; exact absurd hay (ho.irr _)
        · rw [List.mem_singleton.1 hy]; exact hxz
    · rw [h]
    · exact absurd h hx
  | a :: b :: r, z, hp, h1, h2, h3, h4 => by
    have hp' := hp
    rw [List.cons_append, List.pairwise_cons] at hp
    obtain ⟨hall, hp⟩ := hp
    have hbr : ∀ y ∈ (b :: r) ++ [z], ¬ lt y b := by
      intro y hy hyb
      rw [List.cons_append] at hy
      rcases List.mem_cons.1 hy with rfl | hy
      · exact ho.irr _ hyb
      · rw [List.cons_append, List.pairwise_cons] at hp
        exact ho.irr _ (ho.trans _ _ _ hyb (hp.1 y hy))
    refine ⟨hall b (by simp), fun x hx hxb => ?_, seg_of ho p (b :: r) z hp (fun a ha => h1 a (List.mem_cons_of_mem _ ha)) h2 h3 fun c x hc hcx hy => h4 c x (List.mem_cons_of_mem _ hc) hcx fun y hy' hcy => ?_⟩
    · rw [← h1 a List.mem_cons_self]
      rcases ho.total a x with h | h | h
      · exact h4 a x List.mem_cons_self h fun y hy hay => by
          rw [List.cons_append] at hy
          rcases List.mem_cons.1 hy with rfl | hy
          · exact absurd hay (ho.irr _)
          · exact ho.lt_le hxb (hbr y hy)
      · rw [h]
      · exact absurd h hx
    · rw [List.cons_append] at hy'
      rcases List.mem_cons.1 hy' with rfl | hy'
      · have : lt y c := by
          apply hall
          exact List.mem_append_left _ hc
        exact absurd hcy (ho.asymm this)
      · exact hy y hy' hcy
end
end Go.Proofs.YtcbmgajaaechjaaGreat
