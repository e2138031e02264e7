/- sets by what they cover: canonical lists, covers of combF.; valid sets are the canonical lists of at most 32.; how many intervals combine makes.; how many intervals combine makes: not, one.; the algebra of sets.; within: what is in a and not in b is empty. -/
import Derived.Test.YtmbkefgmiehdiaaSpQ
import Derived.Test.YtmbkefgmiehdiaaSpWi
namespace Go.Proofs.Ytmbkefgmiehdiaa
set_option linter.unusedVariables false
set_option linter.unusedSimpArgs false
noncomputable def tl (l : List Itv) : List (EnT × EnT) := l.map fun x => (toT (loE x), toT (hiE x))
structure CanI (l : List Itv) : Prop where
  good : ∀ x ∈ l, goodB x = true
  can : CanE ltE (tl l)
theorem insB_T {x : Itv} (hx : goodB x = true) {e : En} (he : e.ok) : insB x e = true ↔ ¬ ltE (toT e) (toT (loE x)) ∧ ltE (toT e) (toT (hiE x)) := by
  rw [toT_lt he (goodB.lo hx).ok, toT_lt he (goodB.hi hx).ok]
  unfold insB
  simp
theorem covB_T {l : List Itv} (hl : ∀ x ∈ l, goodB x = true) {e : En} (he : e.ok) : covB l e = true ↔ covE ltE (tl l) (toT e) := by
  unfold covB covE tl
  rw [List.any_eq_true]
  constructor
  · rintro ⟨x, hx, h⟩
    exact ⟨_, List.mem_map.2 ⟨x, hx, rfl⟩, (insB_T (hl x hx) he).1 h⟩
  · rintro ⟨i, hi, h⟩
    obtain ⟨x, hx, rfl⟩ := List.mem_map.1 hi
    exact ⟨x, hx, (insB_T (hl x hx) he).2 h⟩
theorem tl_back {l : List Itv} (hl : ∀ x ∈ l, goodB x = true) : l = (tl l).map fun i => betw i.1.1 i.2.1 := by
  unfold tl
  rw [List.map_map]
  conv => lhs; rw [← List.map_id l]
  refine List.map_congr_left fun x hx => ?_
  have h := hl x hx
  simp only [Function.comp, id, toT_val (goodB.lo h).ok, toT_val (goodB.hi h).ok, betw_ends h]
theorem toT_self (e : EnT) : toT e.1 = e := Subtype.ext (toT_val e.2)
/-- two canonical lists that cover the same are equal -/
theorem CanI.uniq {l r : List Itv} (hl : CanI l) (hr : CanI r) (h : ∀ e : En, e.ok → covB l e = covB r e) : l = r := by
  have : tl l = tl r := CanE.uniq stoE hl.can hr.can fun e => by
    rw [← toT_self e, ← covB_T hl.good e.2, ← covB_T hr.good e.2, h _ e.2]
  rw [tl_back hl.good, tl_back hr.good, this]
theorem CanE.mem {α : Type} {lt : α → α → Prop} : ∀ {l : List (α × α)}, CanE lt l → ∀ x ∈ l, lt x.1 x.2
  | y :: l, h, x, hx => by
    rcases List.mem_cons.1 hx with rfl | hx
    · exact h.head
    · exact CanE.mem h.tail x hx
theorem comb_can {keep : List Bool → Bool} {ls : List (List Itv)} {E : List En} (h : Ends ls E) : CanI (pairs (runZ none (marks keep ls E))) ∧ ∀ e : En, e.ok → covB (pairs (runZ none (marks keep ls E))) e = (decide (e.far ≠ 1) && keep (ls.map fun l => covB l e)) := by
  obtain ⟨b, r, e1, s1⟩ := h.seg (keep := keep)
  obtain ⟨⟨hc, -, -, hP⟩, -⟩ := runZ_can stoE r _ s1
  rw [← e1] at hc hP
  have hm := runZ_map toT (marks keep ls E) none
  rw [Option.map_none] at hm
  rw [hm] at hc hP
  have hsm : ∀ i ∈ runZ none (marks keep ls E), i.1.sm ∧ i.2.sm := fun i hi => by
    obtain ⟨h1, z2, hz2, e2⟩ := runZ_mem _ none i hi
    rcases h1 with ⟨z1, hz1, e1⟩ | h1
    · obtain ⟨y1, hy1, rfl⟩ := List.mem_map.1 hz1
      obtain ⟨y2, hy2, rfl⟩ := List.mem_map.1 hz2
      rw [← e1, ← e2]
      exact ⟨h.sm _ hy1, h.sm _ hy2⟩
    · cases h1
  have hlt : ∀ i ∈ runZ none (marks keep ls E), lessE i.1 i.2 = true := fun i hi => by
    have := hc.mem _ (List.mem_map.2 ⟨i, hi, rfl⟩)
    exact (toT_lt (hsm i hi).1.ok (hsm i hi).2.ok).1 this
  have hg : ∀ x ∈ pairs (runZ none (marks keep ls E)), goodB x = true := fun x hx => by
    obtain ⟨i, hi, rfl⟩ := List.mem_map.1 hx
    exact (betw_good (hsm i hi).1 (hsm i hi).2 (hlt i hi)).1
  have ht : tl (pairs (runZ none (marks keep ls E))) = (runZ none (marks keep ls E)).map fun i => (toT i.1, toT i.2) := by
    unfold tl pairs
    rw [List.map_map]
    refine List.map_congr_left fun i hi => ?_
    obtain ⟨-, h2, h3⟩ := betw_good (hsm i hi).1 (hsm i hi).2 (hlt i hi)
    simp only [Function.comp, h2, h3]
  refine ⟨⟨hg, by rw [ht]; exact hc⟩, fun e he => ?_⟩
  rw [Bool.eq_iff_iff, covB_T hg he, ht, hP (toT e) ltE_bot]
  unfold setP
  rw [toT_val he]
  simp
end Go.Proofs.Ytmbkefgmiehdiaa
namespace Go.Proofs.Ytmbkefgmiehdiaa
set_option linter.unusedVariables false
set_option linter.unusedSimpArgs false
theorem can_of_pair : ∀ {l : List Itv}, (∀ x ∈ l, goodB x = true) → l.Pairwise (fun x y => lessE (hiE x) (loE y) = true) → CanE ltE (tl l)
  | [], _, _ => trivial
  | x :: r, hg, hp => by
    obtain ⟨h1, h2⟩ := List.pairwise_cons.1 hp
    have hx := hg x List.mem_cons_self
    have hr := can_of_pair (fun y hy => hg y (List.mem_cons_of_mem _ hy)) h2
    show CanE ltE ((toT (loE x), toT (hiE x)) :: tl r)
    refine CanE.cons stoE ((toT_lt (goodB.lo hx).ok (goodB.hi hx).ok).2 (goodB.lt hx)) hr fun j hj => ?_
    obtain ⟨y, hy, rfl⟩ := List.mem_map.1 hj
    exact (toT_lt (goodB.hi hx).ok (goodB.lo (hg y (List.mem_cons_of_mem _ hy))).ok).2 (h1 y hy)
theorem can_of_setE {l : List Itv} (h : setE l = 0) : CanI l := ⟨(setE_0 h).1, can_of_pair (setE_0 h).1 (setE_pair h)⟩
theorem setF_of_can : ∀ {l : List Itv} {p : Option Itv}, (∀ x ∈ l, goodB x = true) → CanE ltE (tl l) → (∀ q, p = some q → goodB q = true ∧ ∀ y, l.head? = some y → lessE (hiE q) (loE y) = true) → setF p l = true
  | [], p, _, _, _ => by cases p <;> rfl
  | x :: r, p, hg, hc, hp => by
    rw [setF_cons]
    have hx := hg x List.mem_cons_self
    have h1 : setF (some x) r = true := setF_of_can (fun y hy => hg y (List.mem_cons_of_mem _ hy)) hc.tail fun q hq => by
      cases hq
      refine ⟨hx, fun y hy => ?_⟩
      have hyr : y ∈ r := List.mem_of_mem_head? hy
      have := CanE.after stoE hc (toT (loE y), toT (hiE y)) (List.mem_map.2 ⟨y, hyr, rfl⟩)
      exact (toT_lt (goodB.hi hx).ok (goodB.lo (hg y (List.mem_cons_of_mem _ hyr))).ok).1 this
    rw [hx, h1]
    cases p with
    | none => rfl
    | some q => simp [(hp q rfl).2 x rfl]
theorem setE_of_can {l : List Itv} (h : CanI l) (hl : l.length ≤ 32) : setE l = 0 := by
  unfold setE
  rw [setF_of_can h.good h.can (fun q hq => by cases hq), if_neg (by simp), if_neg (by omega)]
/-- the set that combine makes: canonical, and covers what it should -/
theorem combF_can {keep : List Bool → Bool} {ls : List (List Itv)} (h : ∀ x ∈ ls.flatten, goodB x = true) : CanI (combF keep ls) := (comb_can (ends_starts h)).1
theorem combF_cov {keep : List Bool → Bool} {ls : List (List Itv)} (h : ∀ x ∈ ls.flatten, goodB x = true) {e : En} (he : e.ok) : covB (combF keep ls) e = (decide (e.far ≠ 1) && keep (ls.map fun l => covB l e)) := (comb_can (ends_starts h)).2 e he
theorem cov_far {l : List Itv} (h : ∀ x ∈ l, goodB x = true) {e : En} (he : e.far = 1) : covB l e = false := by
  unfold covB
  rw [List.any_eq_false]
  intro x hx
  unfold insB
  cases h1 : lessE e (hiE x) with
  | false => simp
  | true =>
    have := lessE_far h1
    have h2 := lessE_inf h1
    rcases goodB.hi (h x hx) with ⟨h3, -⟩ | h3 | h3
    · omega
    · rw [h3] at this; simp [botE] at this; omega
    · rw [h3] at h2; have := h2 (by rw [he]; rfl); omega
end Go.Proofs.Ytmbkefgmiehdiaa
namespace Go.Proofs.Ytmbkefgmiehdiaa
set_option linter.unusedVariables false
set_option linter.unusedSimpArgs false
/-- rising edges -/
def rise : Bool → List Bool → Nat
  | _, [] => 0
  | p, b :: r => (if b && !p then 1 else 0) + rise b r
theorem runZ_rise {α : Type} : ∀ (zs : List (α × Bool)) (f : Option α), (runZ f zs).length ≤ rise f.isSome (zs.map Prod.snd) + (if f.isSome then 1 else 0)
  | [], f => by cases f <;> simp [runZ]
  | (e, true) :: zs, none => by
    have := runZ_rise zs (some e)
    simp only [runZ, List.map_cons, rise, Option.isSome_none, Option.isSome_some, if_true] at *
    simpa [Nat.add_comm] using this
  | (e, false) :: zs, none => by
    have := runZ_rise zs none
    simpa [runZ, rise] using this
  | (e, true) :: zs, some s => by
    have := runZ_rise zs (some s)
    simpa [runZ, rise] using this
  | (e, false) :: zs, some s => by
    have := runZ_rise zs none
    simpa [runZ, rise] using this
theorem rise_or {α : Type} (f g : α → Bool) : ∀ (l : List α) (p q : Bool), rise (p || q) (l.map fun e => f e || g e) ≤ rise p (l.map f) + rise q (l.map g)
  | [], _, _ => by simp [rise]
  | e :: l, p, q => by
    have := rise_or f g l (f e) (g e)
    simp only [List.map_cons, rise]
    cases p <;> cases q <;> cases hf : f e <;> cases hg : g e <;> simp [hf, hg] at this ⊢ <;> omega
theorem rise_and {α : Type} (f g : α → Bool) : ∀ (l : List α) (p q : Bool), rise (p && q) (l.map fun e => f e && g e) ≤ rise p (l.map f) + rise q (l.map g)
  | [], _, _ => by simp [rise]
  | e :: l, p, q => by
    have := rise_and f g l (f e) (g e)
    simp only [List.map_cons, rise]
    cases p <;> cases q <;> cases hf : f e <;> cases hg : g e <;> simp [hf, hg] at this ⊢ <;> omega
theorem rise_not {α : Type} (f : α → Bool) : ∀ (l : List α) (p : Bool), rise (!p) (l.map fun e => !f e) ≤ rise p (l.map f) + (if p then 1 else 0)
  | [], _ => by simp [rise]
  | e :: l, p => by
    have := rise_not f l (f e)
    simp only [List.map_cons, rise]
    cases p <;> cases hf : f e <;> simp [hf] at this ⊢ <;> omega
theorem rise_first : ∀ (l : List Bool), rise false l ≤ rise true l + 1
  | [] => by simp [rise]
  | b :: l => by cases b <;> simp [rise] <;> omega
theorem rise_off (x : Itv) : ∀ (E : List En) (p : Bool), (∀ e ∈ E, lessE e (hiE x) = false) → rise p (E.map (insB x)) = 0
  | [], _, _ => rfl
  | e :: E, p, h => by
    have h1 : insB x e = false := by unfold insB; rw [h e List.mem_cons_self]; simp
    rw [List.map_cons, rise, h1, rise_off x E false fun y hy => h y (List.mem_cons_of_mem _ hy)]
    simp
theorem rise_in {x : Itv} (hx : goodB x = true) : ∀ (E : List En), (∀ e ∈ E, e.sm) → E.Pairwise (fun a b => lessE a b = true) → (∀ e ∈ E, lessE e (loE x) = false) → rise true (E.map (insB x)) = 0
  | [], _, _, _ => rfl
  | e :: E, hs, hp, hl => by
    obtain ⟨p1, p2⟩ := List.pairwise_cons.1 hp
    rw [List.map_cons, rise]
    cases h : insB x e with
    | true =>
      rw [rise_in hx E (fun y hy => hs y (List.mem_cons_of_mem _ hy)) p2 fun y hy => hl y (List.mem_cons_of_mem _ hy)]; rfl
    | false =>
      have h2 : lessE e (hiE x) = false := by
        unfold insB at h
        rw [hl e List.mem_cons_self] at h
        simpa using h
      rw [rise_off x E false fun y hy => by
        cases h3 : lessE y (hiE x) with
        | false => rfl
        | true =>
          have := sm_trans (hs e List.mem_cons_self) (hs y (List.mem_cons_of_mem _ hy)) (goodB.hi hx) (p1 y hy) h3
          rw [h2] at this; cases this]
      simp
theorem rise_one {x : Itv} (hx : goodB x = true) : ∀ (E : List En), (∀ e ∈ E, e.sm) → E.Pairwise (fun a b => lessE a b = true) → rise false (E.map (insB x)) ≤ 1
  | [], _, _ => by simp [rise]
  | e :: E, hs, hp => by
    obtain ⟨p1, p2⟩ := List.pairwise_cons.1 hp
    have hs' : ∀ y ∈ E, y.sm := fun y hy => hs y (List.mem_cons_of_mem _ hy)
    have ih := rise_one hx E hs' p2
    rw [List.map_cons, rise]
    cases h : insB x e with
    | false => simpa using ih
    | true =>
      have h1 : lessE e (loE x) = false := by
        unfold insB at h; rw [Bool.and_eq_true] at h; simpa using h.1
      rw [rise_in hx E hs' p2 fun y hy => by
        cases h3 : lessE y (loE x) with
        | false => rfl
        | true =>
          have := sm_trans (hs e List.mem_cons_self) (hs' y hy) (goodB.lo hx) (p1 y hy) h3
          rw [h1] at this; cases this]
      simp
theorem rise_none {α : Type} : ∀ (E : List α), rise false (E.map fun _ => false) = 0
  | [] => rfl
  | _ :: E => by rw [List.map_cons, rise, rise_none E]; simp
theorem rise_cells {E : List En} (hs : ∀ e ∈ E, e.sm) (hp : E.Pairwise fun a b => lessE a b = true) : ∀ {l : List Itv}, (∀ x ∈ l, goodB x = true) → rise false (E.map fun e => covB l e) ≤ l.length
  | [], _ => by
    have : (fun e => covB [] e) = fun _ : En => false := by funext e; rfl
    rw [this, rise_none]; exact Nat.zero_le _
  | x :: l, h => by
    have : (fun e => covB (x :: l) e) = fun e => insB x e || covB l e := by funext e; rfl
    rw [this]
    have h1 := rise_or (insB x) (covB l) E false false
    have h2 := rise_one (h x List.mem_cons_self) E hs hp
    have h3 : rise false (E.map (covB l)) ≤ l.length := rise_cells hs hp (l := l) fun y hy => h y (List.mem_cons_of_mem _ hy)
    simp only [Bool.or_false] at h1
    rw [List.length_cons]
    omega
theorem combF_len {keep : List Bool → Bool} {ls : List (List Itv)} {E : List En} (hE : E = starts (ptsL ls.flatten) ++ [topE]) : (combF keep ls).length ≤ rise false (E.map fun e => decide (e.far ≠ 1) && keep (ls.map fun l => covB l e)) := by
  unfold combF pairs
  rw [← hE, List.length_map]
  have := runZ_rise (marks keep ls E) none
  simp only [Option.isSome_none, Bool.false_eq_true, if_false, Nat.add_zero] at this
  unfold marks at this ⊢
  rw [List.map_map] at this
  exact this
theorem cov_guard {a : List Itv} (ha : ∀ x ∈ a, goodB x = true) (e : En) : (decide (e.far ≠ 1) && covB a e) = covB a e := by
  by_cases h : e.far = 1
  · simp [h, cov_far ha h]
  · simp [h]
theorem flat2 {a b : List Itv} (ha : ∀ x ∈ a, goodB x = true) (hb : ∀ x ∈ b, goodB x = true) : ∀ x ∈ [a, b].flatten, goodB x = true := by
  intro x hx
  simp only [List.flatten_cons, List.flatten_nil, List.append_nil, List.mem_append] at hx
  rcases hx with hx | hx
  · exact ha x hx
  · exact hb x hx
theorem or_len {a b : List Itv} (ha : ∀ x ∈ a, goodB x = true) (hb : ∀ x ∈ b, goodB x = true) : (combF orK [a, b]).length ≤ a.length + b.length := by
  have hE := ends_starts (flat2 ha hb)
  have h1 := combF_len (keep := orK) (ls := [a, b]) rfl
  generalize starts _ ++ [topE] = E at *
  have e1 : (fun e : En => decide (e.far ≠ 1) && orK ([a, b].map fun l => covB l e)) = fun e => covB a e || covB b e := by
    funext e
    rw [← cov_guard ha e, ← cov_guard hb e]
    cases decide (e.far ≠ 1) <;> simp [orK]
  rw [e1] at h1
  have h2 := rise_or (covB a) (covB b) E false false
  have h3 : rise false (E.map (covB a)) ≤ a.length := rise_cells hE.sm hE.asc ha
  have h4 : rise false (E.map (covB b)) ≤ b.length := rise_cells hE.sm hE.asc hb
  simp only [Bool.or_false] at h2
  omega
theorem and_len {a b : List Itv} (ha : ∀ x ∈ a, goodB x = true) (hb : ∀ x ∈ b, goodB x = true) : (combF andK [a, b]).length ≤ a.length + b.length := by
  have hE := ends_starts (flat2 ha hb)
  have h1 := combF_len (keep := andK) (ls := [a, b]) rfl
  generalize starts _ ++ [topE] = E at *
  have e1 : (fun e : En => decide (e.far ≠ 1) && andK ([a, b].map fun l => covB l e)) = fun e => covB a e && covB b e := by
    funext e
    rw [← cov_guard ha e, ← cov_guard hb e]
    cases decide (e.far ≠ 1) <;> simp [andK]
  rw [e1] at h1
  have h2 := rise_and (covB a) (covB b) E false false
  have h3 : rise false (E.map (covB a)) ≤ a.length := rise_cells hE.sm hE.asc ha
  have h4 : rise false (E.map (covB b)) ≤ b.length := rise_cells hE.sm hE.asc hb
  simp only [Bool.and_false] at h2
  omega
end Go.Proofs.Ytmbkefgmiehdiaa
namespace Go.Proofs.Ytmbkefgmiehdiaa
set_option linter.unusedVariables false
set_option linter.unusedSimpArgs false
theorem flat1 {a : List Itv} (ha : ∀ x ∈ a, goodB x = true) : ∀ x ∈ [a].flatten, goodB x = true := by
  intro x hx
  simp only [List.flatten_cons, List.flatten_nil, List.append_nil] at hx
  exact ha x hx
theorem fst_len {a : List Itv} (ha : ∀ x ∈ a, goodB x = true) : (combF fstK [a]).length ≤ a.length := by
  have hE := ends_starts (flat1 ha)
  have h1 := combF_len (keep := fstK) (ls := [a]) rfl
  generalize starts _ ++ [topE] = E at *
  have e1 : (fun e : En => decide (e.far ≠ 1) && fstK ([a].map fun l => covB l e)) = fun e => covB a e := by
    funext e
    rw [← cov_guard ha e]
    cases decide (e.far ≠ 1) <;> simp [fstK]
  rw [e1] at h1
  have h3 : rise false (E.map (covB a)) ≤ a.length := rise_cells hE.sm hE.asc ha
  have h4 : rise false (E.map fun e => covB a e) ≤ a.length := h3
  omega
theorem rise_far : ∀ (E : List En), (∀ e ∈ E, e.sm) → E.Pairwise (fun a b => lessE a b = true) → rise false (E.map fun e => decide (e.far = 1)) ≤ 1
  | [], _, _ => by simp [rise]
  | e :: E, hs, hp => by
    obtain ⟨p1, p2⟩ := List.pairwise_cons.1 hp
    have ih := rise_far E (fun y hy => hs y (List.mem_cons_of_mem _ hy)) p2
    rw [List.map_cons, rise]
    by_cases h : e.far = 1
    · cases E with
      | nil => simp [h, rise]
      | cons y r =>
        have h1 := p1 y List.mem_cons_self
        have h2 := lessE_far h1
        have h3 := lessE_inf h1
        rcases hs y (List.mem_cons_of_mem _ List.mem_cons_self) with ⟨h4, -⟩ | h4 | h4
        · omega
        · rw [h4] at h2; simp [botE] at h2; omega
        · rw [h4] at h3; have := h3 (by rw [h]; rfl); omega
    · simpa [h] using ih
theorem not_len {a : List Itv} (ha : ∀ x ∈ a, goodB x = true) : (combF notK [a]).length ≤ a.length + 2 := by
  have hE := ends_starts (flat1 ha)
  have h1 := combF_len (keep := notK) (ls := [a]) rfl
  generalize starts _ ++ [topE] = E at *
  have e1 : (fun e : En => decide (e.far ≠ 1) && notK ([a].map fun l => covB l e)) = fun e => !(covB a e || decide (e.far = 1)) := by
    funext e
    by_cases h : e.far = 1 <;> simp [notK, h]
  rw [e1] at h1
  have h2 := rise_not (fun e => covB a e || decide (e.far = 1)) E false
  have h5 := rise_first (E.map fun e => !(covB a e || decide (e.far = 1)))
  have h6 := rise_or (covB a) (fun e => decide (e.far = 1)) E false false
  have h3 : rise false (E.map (covB a)) ≤ a.length := rise_cells hE.sm hE.asc ha
  have h4 := rise_far E hE.sm hE.asc
  simp only [Bool.or_false, Bool.not_false, Bool.false_eq_true, if_false, Nat.add_zero] at h2 h6
  omega
end Go.Proofs.Ytmbkefgmiehdiaa
namespace Go.Proofs.Ytmbkefgmiehdiaa
set_option linter.unusedVariables false
set_option linter.unusedSimpArgs false
theorem two_or {a b : List Itv} (ha : setE a = 0) (hb : setE b = 0) (hl : a.length + b.length ≤ 32) : twoS orK a b = (combF orK [a, b], 0) ∧ setE (combF orK [a, b]) = 0 ∧ (combF orK [a, b]).length ≤ a.length + b.length := by
  have h1 := or_len (setE_0 ha).1 (setE_0 hb).1
  refine ⟨?_, setE_of_can (combF_can (flat2 (setE_0 ha).1 (setE_0 hb).1)) (by omega), h1⟩
  unfold twoS fewE
  rw [setsE_2]
  simp [ha, hb, show ¬ 32 < (combF orK [a, b]).length by omega]
theorem two_and {a b : List Itv} (ha : setE a = 0) (hb : setE b = 0) (hl : a.length + b.length ≤ 32) : twoS andK a b = (combF andK [a, b], 0) ∧ setE (combF andK [a, b]) = 0 ∧ (combF andK [a, b]).length ≤ a.length + b.length := by
  have h1 := and_len (setE_0 ha).1 (setE_0 hb).1
  refine ⟨?_, setE_of_can (combF_can (flat2 (setE_0 ha).1 (setE_0 hb).1)) (by omega), h1⟩
  unfold twoS fewE
  rw [setsE_2]
  simp [ha, hb, show ¬ 32 < (combF andK [a, b]).length by omega]
theorem one_not {a : List Itv} (ha : setE a = 0) (hl : a.length ≤ 30) : notS a = (combF notK [a], 0) ∧ setE (combF notK [a]) = 0 ∧ (combF notK [a]).length ≤ a.length + 2 := by
  have h1 := not_len (setE_0 ha).1
  refine ⟨?_, setE_of_can (combF_can (flat1 (setE_0 ha).1)) (by omega), h1⟩
  unfold notS fewE
  simp [ha, show ¬ 32 < (combF notK [a]).length by omega]
theorem or_cov {a b : List Itv} (ha : setE a = 0) (hb : setE b = 0) {e : En} (he : e.ok) : covB (combF orK [a, b]) e = (covB a e || covB b e) := by
  rw [combF_cov (flat2 (setE_0 ha).1 (setE_0 hb).1) he, ← cov_guard (setE_0 ha).1 e, ← cov_guard (setE_0 hb).1 e]
  cases decide (e.far ≠ 1) <;> simp [orK]
theorem and_cov {a b : List Itv} (ha : setE a = 0) (hb : setE b = 0) {e : En} (he : e.ok) : covB (combF andK [a, b]) e = (covB a e && covB b e) := by
  rw [combF_cov (flat2 (setE_0 ha).1 (setE_0 hb).1) he, ← cov_guard (setE_0 ha).1 e, ← cov_guard (setE_0 hb).1 e]
  cases decide (e.far ≠ 1) <;> simp [andK]
theorem not_cov {a : List Itv} (ha : setE a = 0) {e : En} (he : e.ok) : covB (combF notK [a]) e = (decide (e.far ≠ 1) && !covB a e) := by
  rw [combF_cov (flat1 (setE_0 ha).1) he]
  simp [notK]
theorem set_ext {a b : List Itv} (ha : setE a = 0) (hb : setE b = 0) (h : ∀ e : En, e.ok → covB a e = covB b e) : a = b := (can_of_setE ha).uniq (can_of_setE hb) h
theorem cov_g {a : List Itv} (ha : setE a = 0) {e : En} (h : e.far = 1) : covB a e = false := cov_far (setE_0 ha).1 h
section
variable {a b c : List Itv} (ha : setE a = 0) (hb : setE b = 0) (hc : setE c = 0) (la : a.length ≤ 4) (lb : b.length ≤ 4) (lc : c.length ≤ 4)
include ha hb la lb
theorem alg_or : combF orK [b, a] = combF orK [a, b] :=
  set_ext (two_or hb ha (by omega)).2.1 (two_or ha hb (by omega)).2.1 fun e he => by rw [or_cov hb ha he, or_cov ha hb he, Bool.or_comm]
theorem alg_and : combF andK [b, a] = combF andK [a, b] :=
  set_ext (two_and hb ha (by omega)).2.1 (two_and ha hb (by omega)).2.1 fun e he => by rw [and_cov hb ha he, and_cov ha hb he, Bool.and_comm]
theorem alg_morgan : combF notK [combF orK [a, b]] = combF andK [combF notK [a], combF notK [b]] := by
  obtain ⟨-, h1, l1⟩ := two_or ha hb (by omega)
  obtain ⟨-, h2, l2⟩ := one_not ha (by omega)
  obtain ⟨-, h3, l3⟩ := one_not hb (by omega)
  refine set_ext (one_not h1 (by omega)).2.1 (two_and h2 h3 (by omega)).2.1 fun e he => ?_
  rw [not_cov h1 he, or_cov ha hb he, and_cov h2 h3 he, not_cov ha he, not_cov hb he]
  cases decide (e.far ≠ 1) <;> simp
include hc lc
theorem alg_assoc : combF orK [combF orK [a, b], c] = combF orK [a, combF orK [b, c]] := by
  obtain ⟨-, h1, l1⟩ := two_or ha hb (by omega)
  obtain ⟨-, h2, l2⟩ := two_or hb hc (by omega)
  refine set_ext (two_or h1 hc (by omega)).2.1 (two_or ha h2 (by omega)).2.1 fun e he => ?_
  rw [or_cov h1 hc he, or_cov ha hb he, or_cov ha h2 he, or_cov hb hc he, Bool.or_assoc]
end
theorem alg_not {a : List Itv} (ha : setE a = 0) (la : a.length ≤ 4) : combF notK [combF notK [a]] = a := by
  obtain ⟨-, h1, l1⟩ := one_not ha (by omega)
  refine set_ext (one_not h1 (by omega)).2.1 ha fun e he => ?_
  rw [not_cov h1 he, not_cov ha he]
  by_cases h : e.far = 1
  · rw [cov_g ha h]; simp [h]
  · simp [h]
end Go.Proofs.Ytmbkefgmiehdiaa
namespace Go.Proofs.Ytmbkefgmiehdiaa
set_option linter.unusedVariables false
set_option linter.unusedSimpArgs false
theorem cov_empty {l : List Itv} (h : setE l = 0) (hc : ∀ e : En, e.ok → covB l e = false) : l = [] := by
  refine set_ext h (by decide) fun e he => ?_
  rw [hc e he]; rfl
theorem alg_within {a b : List Itv} (ha : setE a = 0) (hb : setE b = 0) (la : a.length ≤ 4) (lb : b.length ≤ 4) : (withS a b) = (decide ((combF andK [a, combF notK [b]]).length = 0), 0) := by
  obtain ⟨-, h1, l1⟩ := one_not hb (by omega)
  obtain ⟨-, h2, l2⟩ := two_and ha h1 (by omega)
  have hE := ends_starts (flat2 (setE_0 ha).1 (setE_0 hb).1)
  have hw := within_law ha hb
  unfold withS
  rw [setsE_2]
  simp only [ha, hb, ne_eq, not_true_eq_false, if_false, if_true]
  rw [← hw]
  congr 1
  rw [Bool.eq_iff_iff, decide_eq_true_iff, List.length_eq_zero_iff, List.all_eq_true]
  constructor
  · intro h
    have h' : a.all (wthB b) = true := by rw [← hw]; exact List.all_eq_true.2 h
    refine cov_empty h2 fun e he => ?_
    rw [and_cov ha h1 he, not_cov hb he]
    cases hca : covB a e with
    | false => rfl
    | true =>
      have : covB b e = true := by
        obtain ⟨x, hx, hxe⟩ := List.any_eq_true.1 hca
        obtain ⟨y, hy, hyx⟩ := List.any_eq_true.1 (List.all_eq_true.1 h' x hx)
        refine List.any_eq_true.2 ⟨y, hy, ?_⟩
        have gx := (setE_0 ha).1 x hx
        have gy := (setE_0 hb).1 y hy
        unfold insB at hxe ⊢
        simp only [Bool.and_eq_true, Bool.not_eq_true'] at hxe hyx ⊢
        refine ⟨?_, stoE.lt_le (a := ⟨e, he⟩) (b := ⟨hiE x, (goodB.hi gx).ok⟩) (c := ⟨hiE y, (goodB.hi gy).ok⟩) hxe.2 (by unfold ltE; rw [hyx.2]; simp)⟩
        cases h5 : lessE e (loE y) with
        | false => rfl
        | true =>
          have : lessE e (loE x) = true := stoE.lt_le (a := ⟨e, he⟩) (b := ⟨loE y, (goodB.lo gy).ok⟩) (c := ⟨loE x, (goodB.lo gx).ok⟩) h5 (by unfold ltE; rw [hyx.1]; simp)
          rw [hxe.1] at this; cases this
      simp [this]
  · intro h e he
    have hs := (hE.sm e (List.mem_append_left _ he)).ok
    have hcv := and_cov ha h1 hs
    rw [h, not_cov hb hs] at hcv
    by_cases hf : e.far = 1
    · rw [cov_g ha hf]; rfl
    · have : covB [] e = false := rfl
      rw [this] at hcv
      cases h3 : covB a e <;> cases h4 : covB b e <;> simp [h3, h4, hf] at hcv ⊢
end Go.Proofs.Ytmbkefgmiehdiaa
