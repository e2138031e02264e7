/- sets of half-open intervals over a strict total order: the canonical list of a set is one alone. -/
import Derived.Test.YtcbmgajaaechjaaGreatBase
namespace Go.Proofs.YtcbmgajaaechjaaGreat
set_option linter.unusedVariables false
section
variable {α : Type} {lt : α → α → Prop}
structure STO (lt : α → α → Prop) : Prop where
  irr : ∀ a, ¬ lt a a
  trans : ∀ a b c, lt a b → lt b c → lt a c
  total : ∀ a b, lt a b ∨ a = b ∨ lt b a
theorem STO.asymm (h : STO lt) {a b : α} (x : lt a b) : ¬ lt b a := fun y => h.irr a (h.trans a b a x y)
theorem STO.le_lt (h : STO lt) {a b c : α} (x : ¬ lt b a) (y : lt b c) : lt a c := by
  rcases h.total a b with z | z | z
  · exact h.trans a b c z y
  · rw [z]; exact y
  · exact absurd z x
theorem STO.lt_le (h : STO lt) {a b c : α} (x : lt a b) (y : ¬ lt c b) : lt a c := by
  rcases h.total b c with z | z | z
  · exact h.trans a b c x z
  · rw [← z]; exact x
  · exact absurd z y
theorem STO.le_le (h : STO lt) {a b c : α} (x : ¬ lt b a) (y : ¬ lt c b) : ¬ lt c a := fun z => y (h.lt_le z x)
theorem STO.anti (h : STO lt) {a b : α} (x : ¬ lt a b) (y : ¬ lt b a) : a = b := by
  rcases h.total a b with z | z | z
  · exact absurd z x
  · exact z
  · exact absurd z y
/-- intervals in order, apart, none empty -/
def CanE (lt : α → α → Prop) : List (α × α) → Prop
  | [] => True
  | [x] => lt x.1 x.2
  | x :: y :: r => lt x.1 x.2 ∧ lt x.2 y.1 ∧ CanE lt (y :: r)
/-- what begins at e is in the set -/
def covE (lt : α → α → Prop) (l : List (α × α)) (e : α) : Prop := ∃ x ∈ l, ¬ lt e x.1 ∧ lt e x.2
theorem CanE.head {x : α × α} {r : List (α × α)} (h : CanE lt (x :: r)) : lt x.1 x.2 := by
  cases r with
  | nil => exact h
  | cons y r => exact h.1
theorem CanE.tail {x : α × α} {r : List (α × α)} (h : CanE lt (x :: r)) : CanE lt r := by
  cases r with
  | nil => trivial
  | cons y r => exact h.2.2
theorem CanE.after (ho : STO lt) : ∀ {r : List (α × α)} {x : α × α}, CanE lt (x :: r) → ∀ z ∈ r, lt x.2 z.1
  | [], _, _, z, hz => by cases hz
  | y :: r, x, h, z, hz => by
    rcases List.mem_cons.1 hz with rfl | hz
    · exact h.2.1
    · have h1 := CanE.after ho h.2.2 z hz
      exact ho.trans _ _ _ (ho.trans _ _ _ h.2.1 (CanE.head h.2.2)) h1
theorem covE_tail (ho : STO lt) {x : α × α} {r : List (α × α)} (h : CanE lt (x :: r)) (e : α) : covE lt r e ↔ covE lt (x :: r) e ∧ ¬ lt e x.2 := by
  constructor
  · rintro ⟨z, hz, h1, h2⟩
    exact ⟨⟨z, List.mem_cons_of_mem _ hz, h1, h2⟩, fun h3 => h1 (ho.trans _ _ _ h3 (CanE.after ho h z hz))⟩
  · rintro ⟨⟨z, hz, h1, h2⟩, h3⟩
    rcases List.mem_cons.1 hz with rfl | hz
    · exact absurd h2 h3
    · exact ⟨z, hz, h1, h2⟩
theorem CanE.first (ho : STO lt) {x : α × α} {r : List (α × α)} (h : CanE lt (x :: r)) {e : α} (hc : covE lt (x :: r) e) : ¬ lt e x.1 := by
  obtain ⟨z, hz, h1, h2⟩ := hc
  rcases List.mem_cons.1 hz with rfl | hz
  · exact h1
  · intro h3
    exact h1 (ho.trans _ _ _ h3 (ho.trans _ _ _ h.head (CanE.after ho h z hz)))
theorem CanE.uniq (ho : STO lt) : ∀ {l r : List (α × α)}, CanE lt l → CanE lt r → (∀ e, covE lt l e ↔ covE lt r e) → l = r
  | [], [], _, _, _ => rfl
  | [], y :: r, _, hr, h => by
    obtain ⟨z, hz, -⟩ := (h y.1).2 ⟨y, List.mem_cons_self, ho.irr _, hr.head⟩
    cases hz
  | x :: l, [], hl, _, h => by
    obtain ⟨z, hz, -⟩ := (h x.1).1 ⟨x, List.mem_cons_self, ho.irr _, hl.head⟩
    cases hz
  | x :: l, y :: r, hl, hr, h => by
    have cx : covE lt (x :: l) x.1 := ⟨x, List.mem_cons_self, ho.irr _, hl.head⟩
    have cy : covE lt (y :: r) y.1 := ⟨y, List.mem_cons_self, ho.irr _, hr.head⟩
    have e1 : x.1 = y.1 := ho.anti (hr.first ho ((h _).1 cx)) (hl.first ho ((h _).2 cy))
    have no : ∀ {u v : α × α} {p q : List (α × α)}, CanE lt (u :: p) → CanE lt (v :: q) → u.1 = v.1 → (∀ e, covE lt (v :: q) e → covE lt (u :: p) e) → ¬ lt u.2 v.2 := by
      intro u v p q hu hv huv hc hlt
      obtain ⟨z, hz, h1, h2⟩ := hc u.2 ⟨v, List.mem_cons_self, by rw [← huv]; exact ho.asymm hu.head, hlt⟩
      rcases List.mem_cons.1 hz with rfl | hz
      · exact ho.irr _ h2
      · exact h1 (CanE.after ho hu z hz)
    have e2 : x.2 = y.2 := ho.anti (no hl hr e1 fun e he => (h e).2 he) (no hr hl e1.symm fun e he => (h e).1 he)
    have e3 : x = y := Prod.ext e1 e2
    subst e3
    rw [CanE.uniq ho hl.tail hr.tail fun e => by rw [covE_tail ho hl, covE_tail ho hr, h e]]
end
end Go.Proofs.YtcbmgajaaechjaaGreat
