/- The order of things, as plain data; the encoding is injective.; the stable sort: what its steps do to lists (plain). Elements bear a number of their own (their place at the beginning), so that the order is strict and total.; the normal form of a thing, as plain data.; new boxes in a drawn region; a block as a slice.; Compare of both sides. -/
import Derived.Test.YtnhcplmcddlgnaaGreatTN00
import Derived.Test.YtnhcplmcddlgnaaGreatTN02
import Derived.Test.YtnhcplmcddlgnaaGreatTN03
namespace Go.Proofs.YtnhcplmcddlgnaaGreat
set_option linter.unusedSimpArgs false
set_option linter.unusedVariables false
def cmpI (a b : Int) : Int := if a < b then -1 else if b < a then 1 else 0
def cmpL {α : Type} (f : α → α → Int) : List α → List α → Int
  | [], [] => 0
  | [], _ :: _ => -1
  | _ :: _, [] => 1
  | x :: xs, y :: ys => if f x y = 0 then cmpL f xs ys else f x y
def thenI (a b : Int) : Int := if a = 0 then b else a
def cmpV (x y : Val) : Int := cmpL cmpI [x.attr, x.n.num, x.n.den] [y.attr, y.n.num, y.n.den]
mutual
def cmpT : Thing → Thing → Int
  | .mk c v p, .mk c' v' p' => thenI (cmpL cmpI c c') (thenI (cmpL cmpV v v') (cmpTs p p'))
def cmpTs : List Thing → List Thing → Int
  | [], [] => 0
  | [], _ :: _ => -1
  | _ :: _, [] => 1
  | x :: xs, y :: ys => if cmpT x y = 0 then cmpTs xs ys else cmpT x y
end
theorem cmpTs_eq : ∀ xs ys : List Thing, cmpTs xs ys = cmpL cmpT xs ys
  | [], [] => rfl
  | [], _ :: _ => rfl
  | _ :: _, [] => rfl
  | x :: xs, y :: ys => by simp [cmpTs, cmpL, cmpTs_eq xs ys]
theorem cmpT_eq (t s : Thing) : cmpT t s = thenI (cmpL cmpI t.cls s.cls) (thenI (cmpL cmpV t.vals s.vals) (cmpL cmpT t.parts s.parts)) := by
  cases t; cases s; simp only [cmpT, cmpTs_eq, Thing.cls, Thing.vals, Thing.parts]
/-- a good order, at x -/
structure Ord {α : Type} (f : α → α → Int) (x : α) : Prop where
  rng : ∀ y, f x y = -1 ∨ f x y = 0 ∨ f x y = 1
  opp : ∀ y, f y x = - f x y
  eq : ∀ y, f x y = 0 ↔ x = y
  tr : ∀ y z, f x y ≤ 0 → f y z ≤ 0 → f x z ≤ 0
theorem cmpI_ord (x : Int) : Ord cmpI x := by
  constructor <;> intros <;> unfold cmpI at * <;> (repeat' split) <;> (try split at *) <;> (try split at *) <;> omega
theorem cmpL_ord {α : Type} {f : α → α → Int} : ∀ {xs : List α}, (∀ x ∈ xs, Ord f x) → Ord (cmpL f) xs
  | [], _ => by
    constructor
    · intro y; cases y <;> simp [cmpL]
    · intro y; cases y <;> simp [cmpL]
    · intro y; cases y <;> simp [cmpL]
    · intro y z h1 h2
      cases y <;> cases z <;> simp [cmpL] at *
  | x :: xs, h => by
    have hx := h x (by simp)
    have ih := cmpL_ord (xs := xs) fun y hy => h y (by simp [hy])
    constructor
    · intro y
      cases y with
      | nil => simp [cmpL]
      | cons y ys =>
        simp only [cmpL]
        split
        · exact ih.rng ys
        · exact hx.rng y
    · intro y
      cases y with
      | nil => simp [cmpL]
      | cons y ys =>
        have h1 := hx.opp y
        simp only [cmpL]
        by_cases h2 : f x y = 0
        · rw [if_pos h2, if_pos (by omega)]; exact ih.opp ys
        · rw [if_neg h2, if_neg (by omega)]; exact h1
    · intro y
      cases y with
      | nil => simp [cmpL]
      | cons y ys =>
        simp only [cmpL]
        by_cases h2 : f x y = 0
        · rw [if_pos h2, ih.eq ys, (hx.eq y).1 h2]; simp
        · rw [if_neg h2]
          constructor
          · intro h3; exact absurd h3 h2
          · intro h3; cases h3; exact absurd ((hx.eq x).2 rfl) h2
    · intro y z h1 h2
      cases y with
      | nil => simp [cmpL] at h1
      | cons y ys =>
        cases z with
        | nil => simp [cmpL] at h2
        | cons z zs =>
          simp only [cmpL] at *
          by_cases h3 : f x y = 0
          · obtain rfl := (hx.eq y).1 h3
            rw [if_pos h3] at h1
            by_cases h4 : f x z = 0
            · rw [if_pos h4] at h2 ⊢
              exact ih.tr ys zs h1 h2
            · rw [if_neg h4] at h2 ⊢; exact h2
          · rw [if_neg h3] at h1
            have h5 : f y z ≤ 0 := by
              by_cases h4 : f y z = 0
              · omega
              · rw [if_neg h4] at h2; exact h2
            have h6 := hx.tr y z h1 h5
            by_cases h7 : f x z = 0
            · obtain rfl := (hx.eq z).1 h7
              have := hx.opp y
              omega
            · rw [if_neg h7]; exact h6
theorem cmpV_ord (x : Val) : Ord cmpV x := by
  have h := cmpL_ord (f := cmpI) (xs := [x.attr, x.n.num, x.n.den]) fun y _ => cmpI_ord y
  refine ⟨fun y => h.rng _, fun y => h.opp _, fun y => ?_, fun y z => h.tr _ _⟩
  have := h.eq [y.attr, y.n.num, y.n.den]
  unfold cmpV
  rw [this]
  obtain ⟨a, b, c⟩ := x
  obtain ⟨a', b', c'⟩ := y
  simp
theorem thenI_ord {α β : Type} {f : α → α → Int} {g : β → β → Int} {x : α} {y : β} (hf : Ord f x) (hg : Ord g y) : Ord (fun (p q : α × β) => thenI (f p.1 q.1) (g p.2 q.2)) (x, y) := by
  constructor
  · rintro ⟨a, b⟩
    simp only [thenI]; split
    · exact hg.rng b
    · exact hf.rng a
  · rintro ⟨a, b⟩
    have h1 := hf.opp a
    simp only [thenI]
    by_cases h2 : f x a = 0
    · rw [if_pos h2, if_pos (by omega)]; exact hg.opp b
    · rw [if_neg h2, if_neg (by omega)]; exact h1
  · rintro ⟨a, b⟩
    simp only [thenI, Prod.mk.injEq]
    by_cases h2 : f x a = 0
    · rw [if_pos h2, hg.eq b]; simp [(hf.eq a).1 h2]
    · rw [if_neg h2]
      constructor
      · intro h3; exact absurd h3 h2
      · rintro ⟨rfl, _⟩; exact absurd ((hf.eq x).2 rfl) h2
  · rintro ⟨a, b⟩ ⟨c, d⟩ h1 h2
    simp only [thenI] at *
    by_cases h3 : f x a = 0
    · obtain rfl := (hf.eq a).1 h3
      rw [if_pos h3] at h1
      by_cases h4 : f x c = 0
      · rw [if_pos h4] at h2 ⊢; exact hg.tr b d h1 h2
      · rw [if_neg h4] at h2 ⊢; exact h2
    · rw [if_neg h3] at h1
      have h5 : f a c ≤ 0 := by
        by_cases h4 : f a c = 0
        · omega
        · rw [if_neg h4] at h2; exact h2
      have h6 := hf.tr a c h1 h5
      by_cases h7 : f x c = 0
      · obtain rfl := (hf.eq c).1 h7
        have := hf.opp a
        omega
      · rw [if_neg h7]; exact h6
theorem cmpT_ord (t : Thing) : Ord cmpT t := by
  induction t using Thing.ind with
  | h t ih =>
    have h := thenI_ord (cmpL_ord (f := cmpI) (xs := t.cls) fun y _ => cmpI_ord y) (thenI_ord (cmpL_ord (f := cmpV) (xs := t.vals) fun y _ => cmpV_ord y) (cmpL_ord (xs := t.parts) ih))
    have e : ∀ s u : Thing, cmpT s u = thenI (cmpL cmpI s.cls u.cls) (thenI (cmpL cmpV s.vals u.vals) (cmpL cmpT s.parts u.parts)) := cmpT_eq
    refine ⟨fun s => by rw [e]; exact h.rng (s.cls, s.vals, s.parts), fun s => by rw [e, e]; exact h.opp (s.cls, s.vals, s.parts), fun s => ?_, fun s u h1 h2 => ?_⟩
    · rw [e]
      have := h.eq (s.cls, s.vals, s.parts)
      rw [this]
      cases t; cases s
      simp [Thing.cls, Thing.vals, Thing.parts]
    · rw [e] at h1 h2 ⊢
      exact h.tr (s.cls, s.vals, s.parts) (u.cls, u.vals, u.parts) h1 h2
def VOk (v : Val) : Prop := I64 v.attr ∧ I64 v.n.num ∧ I64 v.n.den
mutual
/-- all numbers of a thing fit, and so do its lengths -/
def Thing.ok : Thing → Prop
  | .mk c v p => (∀ x ∈ c, I64 x) ∧ (∀ x ∈ v, VOk x) ∧ I64 v.length ∧ I64 p.length ∧ oks p
def oks : List Thing → Prop
  | [] => True
  | x :: xs => x.ok ∧ oks xs
end
theorem oks_iff : ∀ {l : List Thing}, oks l ↔ ∀ p ∈ l, p.ok
  | [] => by simp [oks]
  | x :: xs => by simp [oks, oks_iff]
theorem Thing.ok_iff (t : Thing) : t.ok ↔ (∀ x ∈ t.cls, I64 x) ∧ (∀ x ∈ t.vals, VOk x) ∧ I64 t.vals.length ∧ I64 t.parts.length ∧ ∀ p ∈ t.parts, p.ok := by
  cases t; simp only [Thing.ok, Thing.cls, Thing.vals, Thing.parts, oks_iff]
theorem ThingR.ok {t : Thing} : ∀ {H : PH} {cs : List Value}, ThingR H cs t → t.ok := by
  induction t using Thing.ind with
  | h t ih =>
    intro H cs hr
    obtain ⟨a1, c1, a2, c2, a3, c3, rfl, l1, l2, l3, hc, hv, hp⟩ := hr.form
    rw [Thing.ok_iff]
    refine ⟨IntsR.all hc, fun x hx => ?_, i64_nat l2, i64_nat l3, fun p hpm => ?_⟩
    · obtain ⟨cs, h⟩ := SliceRep.all hv x hx
      exact h.2
    · obtain ⟨cs, h⟩ := SliceRep.all hp p hpm
      exact ih p hpm h
end Go.Proofs.YtnhcplmcddlgnaaGreat
namespace Go.Proofs.YtnhcplmcddlgnaaGreat
set_option linter.unusedSimpArgs false
set_option linter.unusedVariables false
/-- a comparison that orders: 'less' is a strict weak order -/
structure Ordr {α : Type} (c : α → α → Int) : Prop where
  asym : ∀ x y, c x y < 0 → ¬ c y x < 0
  neg : ∀ x y z, ¬ c x y < 0 → ¬ c y z < 0 → ¬ c x z < 0
section
variable {α : Type} {c : α → α → Int}
/-- less, or equal and earlier -/
def lx (c : α → α → Int) (p q : α × Nat) : Prop := c p.1 q.1 < 0 ∨ (¬ c q.1 p.1 < 0 ∧ p.2 < q.2)
theorem lx_trans (hc : Ordr c) {p q r : α × Nat} (h : lx c p q) (h2 : lx c q r) : lx c p r := by
  rcases h with h | ⟨h, t⟩ <;> rcases h2 with h2 | ⟨h2, t2⟩
  · left; exact Decidable.byContradiction fun h3 => hc.neg _ _ _ h3 (hc.asym _ _ h2) h
  · left; exact Decidable.byContradiction fun h3 => hc.neg _ _ _ h3 h2 h
  · left; exact Decidable.byContradiction fun h3 => hc.neg _ _ _ h h3 h2
  · right; exact ⟨hc.neg _ _ _ h2 h, by omega⟩
theorem lx_asym (hc : Ordr c) {p q : α × Nat} (h : lx c p q) : ¬ lx c q p := by
  rintro h2
  rcases h with h | ⟨h, t⟩ <;> rcases h2 with h2 | ⟨h2, t2⟩
  · exact hc.asym _ _ h h2
  · exact h2 h
  · exact h h2
  · omega
/-- what is asked of a later element and an earlier one -/
theorem lx_later {p q : α × Nat} (h : p.2 < q.2) : lx c q p ↔ c q.1 p.1 < 0 := by
  unfold lx
  exact ⟨fun h2 => by rcases h2 with h2 | ⟨-, h2⟩; exact h2; omega, .inl⟩
theorem lx_not {p q : α × Nat} (h : p.2 < q.2) (h2 : ¬ c q.1 p.1 < 0) : lx c p q := .inr ⟨h2, h⟩
/-- in order -/
def InO (c : α → α → Int) (l : List (α × Nat)) : Prop := l.Pairwise (lx c)
/-- all of the first stood before all of the second -/
def Bef (l m : List (α × Nat)) : Prop := ∀ x ∈ l, ∀ y ∈ m, x.2 < y.2
theorem Bef.sub {l m l' m' : List (α × Nat)} (h : Bef l m) (h1 : ∀ x ∈ l', x ∈ l) (h2 : ∀ y ∈ m', y ∈ m) : Bef l' m' := fun x hx y hy => h x (h1 x hx) y (h2 y hy)
theorem InO.app {l m : List (α × Nat)} (h : InO c l) (h2 : InO c m) (h3 : ∀ x ∈ l, ∀ y ∈ m, lx c x y) : InO c (l ++ m) := List.pairwise_append.2 ⟨h, h2, h3⟩
theorem InO.le (hc : Ordr c) {l : List (α × Nat)} (h : InO c l) {i j : Nat} (hj : j < l.length) (hij : i < j) : lx c l[i] l[j] := (List.pairwise_iff_getElem.1 h) i j (by omega) hj hij
/-- in order lists of the same elements are the same -/
theorem InO.uniq (hc : Ordr c) : ∀ {l m : List (α × Nat)}, InO c l → InO c m → l.Perm m → l = m
  | [], m, _, _, hp => (List.nil_perm.1 hp).symm
  | x :: l, [], _, _, hp => by have := hp.length_eq; simp at this
  | x :: l, y :: m, h, h2, hp => by
    have hxy : x = y := by
      have h3 : x ∈ y :: m := hp.mem_iff.1 (by simp)
      have h4 : y ∈ x :: l := hp.mem_iff.2 (by simp)
      rcases List.mem_cons.1 h3 with e | h3
      · exact e
      · rcases List.mem_cons.1 h4 with e | h4
        · exact e.symm
        · exact absurd ((List.pairwise_cons.1 h2).1 x h3) (lx_asym hc ((List.pairwise_cons.1 h).1 y h4))
    subst hxy
    rw [InO.uniq hc (List.pairwise_cons.1 h).2 (List.pairwise_cons.1 h2).2 (List.perm_cons x |>.1 hp)]
/-- the two halves of a rotation in symMerge -/
theorem InO.cross (hc : Ordr c) {A1 A2 B1 B2 : List (α × Nat)} (hA : InO c (A1 ++ A2)) (hB : InO c (B1 ++ B2))
    (h1 : ∀ x y, A1.getLast? = some x → B2.head? = some y → lx c x y) (h2 : ∀ x y, B1.getLast? = some x → A2.head? = some y → lx c x y) :
    ∀ x ∈ A1 ++ B1, ∀ y ∈ A2 ++ B2, lx c x y := by
  obtain ⟨a1, a2, a3⟩ := List.pairwise_append.1 hA
  obtain ⟨b1, b2, b3⟩ := List.pairwise_append.1 hB
  have last : ∀ {l : List (α × Nat)}, InO c l → ∀ x ∈ l, ∃ z, l.getLast? = some z ∧ (x = z ∨ lx c x z) := by
    intro l hl x hx
    obtain ⟨i, hi, rfl⟩ := List.getElem_of_mem hx
    refine ⟨l[l.length - 1], by rw [List.getLast?_eq_getElem?, List.getElem?_eq_getElem], ?_⟩
    rcases Nat.lt_or_ge i (l.length - 1) with h | h
    · exact .inr (hl.le hc (by omega) h)
    · left; congr 1; omega
  have first : ∀ {l : List (α × Nat)}, InO c l → ∀ x ∈ l, ∃ z, l.head? = some z ∧ (x = z ∨ lx c z x) := by
    intro l hl x hx
    obtain ⟨i, hi, rfl⟩ := List.getElem_of_mem hx
    refine ⟨l[0], by rw [List.head?_eq_getElem?, List.getElem?_eq_getElem], ?_⟩
    rcases Nat.eq_zero_or_pos i with h | h
    · left; simp only [h]
    · exact .inr (hl.le hc hi h)
  intro x hx y hy
  rcases List.mem_append.1 hx with hx | hx <;> rcases List.mem_append.1 hy with hy | hy
  · exact a3 x hx y hy
  · obtain ⟨u, hu, hu2⟩ := last a1 x hx
    obtain ⟨v, hv, hv2⟩ := first b2 y hy
    have h := h1 u v hu hv
    rcases hu2 with rfl | hu2 <;> rcases hv2 with rfl | hv2
    · exact h
    · exact lx_trans hc h hv2
    · exact lx_trans hc hu2 h
    · exact lx_trans hc (lx_trans hc hu2 h) hv2
  · obtain ⟨u, hu, hu2⟩ := last b1 x hx
    obtain ⟨v, hv, hv2⟩ := first a2 y hy
    have h := h2 u v hu hv
    rcases hu2 with rfl | hu2 <;> rcases hv2 with rfl | hv2
    · exact h
    · exact lx_trans hc h hv2
    · exact lx_trans hc hu2 h
    · exact lx_trans hc (lx_trans hc hu2 h) hv2
  · exact b3 x hx y hy
/-- an element is put into a list in order -/
theorem InO.insert (hc : Ordr c) {L R : List (α × Nat)} {x : α × Nat} (h : InO c (L ++ R)) (h1 : ∀ y ∈ L, lx c y x) (h2 : ∀ y ∈ R, lx c x y) : InO c (L ++ x :: R) := by
  obtain ⟨a1, a2, a3⟩ := List.pairwise_append.1 h
  refine List.pairwise_append.2 ⟨a1, List.pairwise_cons.2 ⟨h2, a2⟩, fun u hu v hv => ?_⟩
  rcases List.mem_cons.1 hv with rfl | hv
  · exact h1 u hu
  · exact a3 u hu v hv
/-- an element is put behind all that are not greater, up to the first one that is -/
def insR (c : α → α → Int) (x : α) : List α → List α
  | [] => [x]
  | y :: l => if c x y < 0 then x :: y :: l else y :: insR c x l
/-- the stable sort, element by element -/
def stS (c : α → α → Int) (xs : List α) : List α := xs.foldl (fun l x => insR c x l) []
def insT (c : α → α → Int) (x : α × Nat) : List (α × Nat) → List (α × Nat)
  | [] => [x]
  | y :: l => if c x.1 y.1 < 0 then x :: y :: l else y :: insT c x l
theorem insT_fst (x : α × Nat) : ∀ l : List (α × Nat), (insT c x l).map Prod.fst = insR c x.1 (l.map Prod.fst)
  | [] => rfl
  | y :: l => by
    rw [List.map_cons]
    unfold insT insR
    split
    · next h => rw [List.map_cons, List.map_cons]
    · next h => rw [List.map_cons, insT_fst x l]
theorem insT_perm (x : α × Nat) : ∀ l : List (α × Nat), (insT c x l).Perm (x :: l)
  | [] => List.Perm.refl _
  | y :: l => by
    unfold insT
    split
    · exact List.Perm.refl _
    · exact (List.Perm.cons y (insT_perm x l)).trans (List.Perm.swap x y l)
theorem insT_in (hc : Ordr c) (x : α × Nat) : ∀ l : List (α × Nat), InO c l → (∀ y ∈ l, y.2 < x.2) → InO c (insT c x l)
  | [], _, _ => List.pairwise_singleton _ _
  | y :: l, h, ht => by
    obtain ⟨h1, h2⟩ := List.pairwise_cons.1 h
    unfold insT
    split
    · next hlt => exact List.pairwise_cons.2 ⟨fun z hz => by
        rcases List.mem_cons.1 hz with rfl | hz
        · exact .inl hlt
        · exact lx_trans hc (.inl hlt) (h1 z hz), h⟩
    · next hlt =>
      refine List.pairwise_cons.2 ⟨fun z hz => ?_, insT_in hc x l h2 fun z hz => ht z (List.mem_cons_of_mem _ hz)⟩
      rcases List.mem_cons.1 ((insT_perm x l).mem_iff.1 hz) with rfl | hz
      · exact lx_not (ht y (by simp)) hlt
      · exact h1 z hz
def stT (c : α → α → Int) (ts : List (α × Nat)) (acc : List (α × Nat)) : List (α × Nat) := ts.foldl (fun l x => insT c x l) acc
theorem stT_fst : ∀ (ts acc : List (α × Nat)), (stT c ts acc).map Prod.fst = (ts.map Prod.fst).foldl (fun l x => insR c x l) (acc.map Prod.fst)
  | [], _ => rfl
  | x :: ts, acc => by
    show (stT c ts (insT c x acc)).map Prod.fst = _
    rw [stT_fst ts (insT c x acc), insT_fst]; rfl
theorem stT_in (hc : Ordr c) : ∀ (ts acc : List (α × Nat)), InO c acc → (acc ++ ts).Pairwise (fun p q => p.2 < q.2) ∨ (∀ p ∈ acc, ∀ q ∈ ts, p.2 < q.2) ∧ ts.Pairwise (fun p q => p.2 < q.2) → InO c (stT c ts acc) ∧ (stT c ts acc).Perm (acc ++ ts)
  | [], acc, h, _ => ⟨h, by rw [List.append_nil]; exact List.Perm.refl _⟩
  | x :: ts, acc, h, ht => by
    have ht : (∀ p ∈ acc, ∀ q ∈ x :: ts, p.2 < q.2) ∧ (x :: ts).Pairwise (fun p q => p.2 < q.2) := by
      rcases ht with ht | ht
      · obtain ⟨-, a2, a3⟩ := List.pairwise_append.1 ht
        exact ⟨a3, a2⟩
      · exact ht
    obtain ⟨t1, t2⟩ := ht
    obtain ⟨t3, t4⟩ := List.pairwise_cons.1 t2
    obtain ⟨k1, k2⟩ := stT_in hc ts (insT c x acc) (insT_in hc x acc h fun y hy => t1 y hy x (by simp)) (.inr ⟨fun p hp q hq => by
      rcases List.mem_cons.1 ((insT_perm x acc).mem_iff.1 hp) with rfl | hp
      · exact t3 q hq
      · exact t1 p hp q (List.mem_cons_of_mem _ hq), t4⟩)
    refine ⟨k1, k2.trans ?_⟩
    exact ((insT_perm x acc).append_right ts).trans (List.perm_middle (a := x) (l₁ := acc) (l₂ := ts)).symm
/-- elements with their places -/
def tag (xs : List α) : List (α × Nat) := xs.zipIdx
theorem tag_fst (xs : List α) : (tag xs).map Prod.fst = xs := by unfold tag; exact List.zipIdx_map_fst 0 xs
theorem tag_up (xs : List α) : (tag xs).Pairwise (fun p q => p.2 < q.2) := by
  rw [List.pairwise_iff_getElem]
  intro i j hi hj h
  simp only [tag, List.getElem_zipIdx]; omega
/-- what is in order and has the same elements is the sorted list -/
theorem stS_of (hc : Ordr c) {xs : List α} {ts : List (α × Nat)} (h : InO c ts) (hp : ts.Perm (tag xs)) : ts.map Prod.fst = stS c xs := by
  obtain ⟨k1, k2⟩ := stT_in hc (tag xs) [] List.Pairwise.nil (.inl (tag_up xs))
  have := InO.uniq hc h k1 (hp.trans (by simpa using k2.symm))
  rw [this, stT_fst, tag_fst]; rfl
/-- two elements change places -/
theorem swap_mid {β : Type} (A B C : List β) (x y : β) : ((A ++ x :: B ++ y :: C).set A.length y).set (A.length + 1 + B.length) x = A ++ y :: B ++ x :: C := by
  rw [List.append_assoc, List.set_append_right _ _ (Nat.le_refl _), Nat.sub_self, List.cons_append, List.set_cons_zero, List.set_append_right _ _ (by omega)]
  rw [show A.length + 1 + B.length - A.length = B.length + 1 by omega, List.set_cons_succ, List.set_append_right _ _ (Nat.le_refl _), Nat.sub_self, List.set_cons_zero]
  simp
theorem swap_mid' {β : Type} (A B C : List β) (x y : β) : ((A ++ x :: B ++ y :: C).set (A.length + 1 + B.length) x).set A.length y = A ++ y :: B ++ x :: C := by
  rw [List.set_comm _ _ (by omega), swap_mid]
end
end Go.Proofs.YtnhcplmcddlgnaaGreat
namespace Go.Proofs.YtnhcplmcddlgnaaGreat
set_option linter.unusedSimpArgs false
set_option linter.unusedVariables false
theorem Ordr.of {α : Type} {f : α → α → Int} (h : ∀ x, Ord f x) : Ordr f where
  asym x y h1 h2 := by have := (h x).opp y; omega
  neg x y z h1 h2 h3 := by
    have a1 := (h x).opp y
    have a2 := (h y).opp z
    have a3 := (h x).opp z
    have := (h z).tr y x (by omega) (by omega)
    omega
/-- lists in a strict order with the same members are the same -/
theorem pw_uniq {α : Type} {r : α → α → Prop} (hr : ∀ a b, r a b → ¬ r b a) : ∀ {l m : List α}, l.Pairwise r → m.Pairwise r → (∀ x, x ∈ l ↔ x ∈ m) → l = m
  | [], [], _, _, _ => rfl
  | [], y :: m, _, _, h => by have := (h y).2 (by simp); cases this
  | x :: l, [], _, _, h => by have := (h x).1 (by simp); cases this
  | x :: l, y :: m, hl, hm, h => by
    obtain ⟨l1, l2⟩ := List.pairwise_cons.1 hl
    obtain ⟨m1, m2⟩ := List.pairwise_cons.1 hm
    have hxy : x = y := by
      rcases List.mem_cons.1 ((h x).1 (by simp)) with e | h1
      · exact e
      · rcases List.mem_cons.1 ((h y).2 (by simp)) with e | h2
        · exact e.symm
        · exact absurd (m1 x h1) (hr _ _ (l1 y h2))
    subst hxy
    rw [pw_uniq hr l2 m2 fun z => ⟨fun hz => by
      rcases List.mem_cons.1 ((h z).1 (List.mem_cons_of_mem _ hz)) with rfl | h1
      · exact absurd (l1 z hz) (fun h2 => hr _ _ h2 h2)
      · exact h1, fun hz => by
      rcases List.mem_cons.1 ((h z).2 (List.mem_cons_of_mem _ hz)) with rfl | h1
      · exact absurd (m1 z hz) (fun h2 => hr _ _ h2 h2)
      · exact h1⟩]
/-- a number is put into an increasing list, unless it is there -/
def putI (n : Int) : List Int → List Int
  | [] => [n]
  | x :: l => if x < n then x :: putI n l else if x = n then x :: l else n :: x :: l
def clsN (l : List Int) : List Int := l.foldl (fun acc n => putI n acc) []
theorem putI_mem (n z : Int) : ∀ l : List Int, z ∈ putI n l ↔ z = n ∨ z ∈ l
  | [] => by simp [putI]
  | x :: l => by
    unfold putI
    split
    · simp only [List.mem_cons, putI_mem n z l]
      constructor
      · rintro (h | h | h) <;> simp [h]
      · rintro (h | h | h) <;> simp [h]
    · split
      · next h => subst h; simp
      · simp
theorem putI_asc (n : Int) : ∀ l : List Int, l.Pairwise (· < ·) → (putI n l).Pairwise (· < ·)
  | [], _ => List.pairwise_singleton _ _
  | x :: l, h => by
    obtain ⟨h1, h2⟩ := List.pairwise_cons.1 h
    unfold putI
    split
    · next hx => exact List.pairwise_cons.2 ⟨fun z hz => by
        rcases (putI_mem n z l).1 hz with rfl | hz
        · exact hx
        · exact h1 z hz, putI_asc n l h2⟩
    · split
      · exact h
      · exact List.pairwise_cons.2 ⟨fun z hz => by
          rcases List.mem_cons.1 hz with rfl | hz
          · omega
          · have := h1 z hz; omega, h⟩
theorem clsF_law : ∀ (l acc : List Int), acc.Pairwise (· < ·) → (l.foldl (fun acc n => putI n acc) acc).Pairwise (· < ·) ∧ ∀ z, z ∈ l.foldl (fun acc n => putI n acc) acc ↔ z ∈ acc ∨ z ∈ l
  | [], acc, h => ⟨h, fun z => by simp⟩
  | x :: l, acc, h => by
    obtain ⟨k1, k2⟩ := clsF_law l (putI x acc) (putI_asc x acc h)
    refine ⟨k1, fun z => ?_⟩
    rw [List.foldl_cons, k2, putI_mem, List.mem_cons]
    constructor
    · rintro ((h | h) | h) <;> simp [h]
    · rintro (h | h | h) <;> simp [h]
theorem clsN_asc (l : List Int) : (clsN l).Pairwise (· < ·) := (clsF_law l [] List.Pairwise.nil).1
theorem clsN_mem (l : List Int) (z : Int) : z ∈ clsN l ↔ z ∈ l := by rw [clsN, (clsF_law l [] List.Pairwise.nil).2]; simp
/-- increasing, with the same members -/
theorem clsN_of {l m : List Int} (h : m.Pairwise (· < ·)) (hm : ∀ z, z ∈ m ↔ z ∈ l) : m = clsN l :=
  pw_uniq (r := (· < ·)) (fun a b h1 h2 => by omega) h (clsN_asc l) fun z => (hm z).trans (clsN_mem l z).symm
/-- a value is put into a list in the order of attributes; none: another one of its attribute stands there -/
def putV (v : Val) : List Val → Option (List Val)
  | [] => some [v]
  | x :: l => if x.attr < v.attr then (putV v l).map (x :: ·) else if x.attr = v.attr then (if x = v then some (x :: l) else none) else some (v :: x :: l)
def valsF : List Val → List Val → Option (List Val)
  | [], acc => some acc
  | v :: l, acc => match putV v acc with | none => none | some a => valsF l a
def valsN (l : List Val) : Option (List Val) := valsF l []
def AscV (l : List Val) : Prop := l.Pairwise fun x y => x.attr < y.attr
theorem putV_law (v : Val) : ∀ l : List Val, AscV l → match putV v l with
    | none => ∃ x ∈ l, x.attr = v.attr ∧ x ≠ v
    | some m => AscV m ∧ (∀ z, z ∈ m ↔ z = v ∨ z ∈ l) ∧ ∀ x ∈ l, x.attr = v.attr → x = v
  | [], _ => ⟨List.pairwise_singleton _ _, fun z => by simp, fun x hx => by cases hx⟩
  | x :: l, h => by
    obtain ⟨h1, h2⟩ := List.pairwise_cons.1 h
    have ih := putV_law v l h2
    unfold putV
    by_cases hx : x.attr < v.attr
    · rw [if_pos hx]
      cases hp : putV v l with
      | none =>
        rw [hp] at ih
        obtain ⟨y, hy, e⟩ := ih
        exact ⟨y, List.mem_cons_of_mem _ hy, e⟩
      | some m =>
        rw [hp] at ih
        obtain ⟨i1, i2, i3⟩ := ih
        refine ⟨List.pairwise_cons.2 ⟨fun z hz => ?_, i1⟩, fun z => ?_, fun y hy e => ?_⟩
        · rcases (i2 z).1 hz with rfl | hz
          · exact hx
          · exact h1 z hz
        · simp only [List.mem_cons, i2]
          constructor
          · rintro (h | h | h) <;> simp [h]
          · rintro (h | h | h) <;> simp [h]
        · rcases List.mem_cons.1 hy with rfl | hy
          · omega
          · exact i3 y hy e
    · rw [if_neg hx]
      by_cases he : x.attr = v.attr
      · rw [if_pos he]
        by_cases hv : x = v
        · rw [if_pos hv]
          refine ⟨h, fun z => ?_, fun y hy e => ?_⟩
          · subst hv; simp
          · rcases List.mem_cons.1 hy with rfl | hy
            · exact hv
            · have := h1 y hy; omega
        · rw [if_neg hv]
          exact ⟨x, by simp, he, hv⟩
      · rw [if_neg he]
        refine ⟨List.pairwise_cons.2 ⟨fun z hz => ?_, h⟩, fun z => by simp, fun y hy e => ?_⟩
        · rcases List.mem_cons.1 hz with rfl | hz
          · omega
          · have := h1 z hz; omega
        · rcases List.mem_cons.1 hy with rfl | hy
          · exact absurd e he
          · have := h1 y hy; omega
/-- at most one value of each attribute -/
def OneV (l : List Val) : Prop := ∀ x ∈ l, ∀ y ∈ l, x.attr = y.attr → x = y
theorem AscV.one {l : List Val} (h : AscV l) : OneV l := by
  intro x hx y hy e
  obtain ⟨i, hi, rfl⟩ := List.getElem_of_mem hx
  obtain ⟨j, hj, rfl⟩ := List.getElem_of_mem hy
  have hp := List.pairwise_iff_getElem.1 h
  rcases Nat.lt_trichotomy i j with h1 | h1 | h1
  · have := hp i j hi hj h1; omega
  · subst h1; rfl
  · have := hp j i hj hi h1; omega
theorem valsF_law : ∀ (l acc : List Val), AscV acc → match valsF l acc with
    | none => ¬ OneV (acc ++ l)
    | some m => AscV m ∧ (∀ z, z ∈ m ↔ z ∈ acc ∨ z ∈ l) ∧ OneV (acc ++ l)
  | [], acc, h => ⟨h, fun z => by simp, by simpa using h.one⟩
  | v :: l, acc, h => by
    have hp := putV_law v acc h
    unfold valsF
    cases hq : putV v acc with
    | none =>
      rw [hq] at hp
      obtain ⟨x, hx, e, hne⟩ := hp
      exact fun h1 => hne (h1 x (by simp [hx]) v (by simp) e)
    | some a =>
      rw [hq] at hp
      obtain ⟨p1, p2, p3⟩ := hp
      have ih := valsF_law l a p1
      have hmem : ∀ z, z ∈ a ++ l ↔ z ∈ acc ++ v :: l := fun z => by
        simp only [List.mem_append, List.mem_cons, p2]
        constructor
        · rintro ((h | h) | h) <;> simp [h]
        · rintro (h | h | h) <;> simp [h]
      have hone : OneV (a ++ l) ↔ OneV (acc ++ v :: l) := ⟨fun h x hx y hy => h x ((hmem x).2 hx) y ((hmem y).2 hy), fun h x hx y hy => h x ((hmem x).1 hx) y ((hmem y).1 hy)⟩
      show match valsF l a with | none => _ | some m => _
      cases hr : valsF l a with
      | none => rw [hr] at ih; exact fun h1 => ih (hone.2 h1)
      | some m =>
        rw [hr] at ih
        obtain ⟨i1, i2, i3⟩ := ih
        refine ⟨i1, fun z => ?_, hone.1 i3⟩
        rw [i2, p2, List.mem_cons]
        constructor
        · rintro ((h | h) | h) <;> simp [h]
        · rintro (h | h | h) <;> simp [h]
theorem valsN_none {l : List Val} (h : valsN l = none) : ¬ OneV l := by
  have := valsF_law l [] List.Pairwise.nil
  unfold valsN at h
  rw [h] at this; simpa using this
theorem valsN_some {l m : List Val} (h : valsN l = some m) : AscV m ∧ (∀ z, z ∈ m ↔ z ∈ l) ∧ OneV l := by
  have := valsF_law l [] List.Pairwise.nil
  unfold valsN at h
  rw [h] at this; simpa using this
theorem valsN_of {l m : List Val} (h : AscV m) (hm : ∀ z, z ∈ m ↔ z ∈ l) : valsN l = some m := by
  cases h1 : valsN l with
  | none => exact absurd (fun x hx y hy e => h.one x ((hm x).2 hx) y ((hm y).2 hy) e) (valsN_none h1)
  | some k =>
    obtain ⟨k1, k2, -⟩ := valsN_some h1
    rw [pw_uniq (r := fun x y : Val => x.attr < y.attr) (fun a b h1 h2 => by omega) k1 h fun z => (k2 z).trans (hm z).symm]
theorem valsN_no {l : List Val} (h : ¬ OneV l) : valsN l = none := by
  cases h1 : valsN l with
  | none => rfl
  | some k => exact absurd (valsN_some h1).2.2 h
end Go.Proofs.YtnhcplmcddlgnaaGreat
namespace Go.Proofs.YtnhcplmcddlgnaaGreat
open Go.RowKit
set_option linter.unusedVariables false
def NewBox (W : World) (c : Array Value) (T : TypeId) : Prop1 := fun v w => ∃ g, v = .pointer (some ⟨g, 0, none⟩) ∧ Own w g c T ∧ W.heap.size ≤ g
theorem stab_NewBox {W : World} (W0 : World) (c : Array Value) (T : TypeId) : Stable W (NewBox W0 c T) := fun v w w' _ ⟨g, h1, h2, h3⟩ e => ⟨g, h1, h2.keep e, h3⟩
theorem sliceArr {α : Type} {E : PH → List Value → α → Prop} {sz : Nat} {w : World} {b n : Nat} {cur : Array Value} {T : TypeId} {xs : List α} (hO : Own w b cur T) (hc : Cells (ph w) E sz cur.toList xs) (hn : n = xs.length) (hm : n ≤ maxLen) :
    SliceRep E sz (ph w) (.slice (some ⟨b, 0, none⟩) n n) xs := by
  subst hn
  refine ⟨_, _, rfl, Nat.le_refl _, hm, .inr ⟨b, 0, rfl, hc.row (fun _ _ h => h) fun j u hu => ?_⟩⟩
  rw [← cell_ph, Nat.zero_add, hO.facts.1]
  simpa using hu
end Go.Proofs.YtnhcplmcddlgnaaGreat
namespace Go.Proofs.YtnhcplmcddlgnaaGreat
open Go.RowKit
set_option linter.unusedSimpArgs false
set_option linter.unusedVariables false
theorem isNaN_c (n : Int) (w : World) : Calls Tryz.prog 75 #[.int .i64 n] w (RetV w (.bool false)) := by
  go_enter Tryz.func75, Tryz.ntmps75
  go_wp2_with fail
  go_ret
  exact ⟨rfl, (by with_reducible repeat (first | assumption | exact Ext.rfl' _ | exact Ext.new _ _ | refine Ext.alloc' ?_ _ | refine Ext.drew' ?_ | refine Ext.drewN' ?_ _ | (refine Ext.set' ?_ ?_ _; rotate_left; focus (first | omega | (simp; done) | (simp; omega))) | (refine Ext.then (b := ?_) ?_ ?_; rotate_left; rotate_left; assumption)))⟩
theorem cmpI_lt {a b : Int} (h : a < b) : cmpI a b = -1 := by unfold cmpI; rw [if_pos h]
theorem cmpI_gt {a b : Int} (h : b < a) : cmpI a b = 1 := by unfold cmpI; rw [if_neg (by omega), if_pos h]
theorem cmpI_eq {a b : Int} (h1 : ¬ a < b) (h2 : ¬ b < a) : cmpI a b = 0 := by unfold cmpI; rw [if_neg h1, if_neg h2]
theorem cmpI_c (a b : Int) (w : World) : Calls Tryz.prog 58 #[.int .i64 a, .int .i64 b] w (RetV w (.int .i64 (cmpI a b))) := by
  go_enter Tryz.func58, Tryz.ntmps58
  go_wp2_with fail
  refine RetV_at (isNaN_c a _) ?_
  intro w1 hb1
  go_wp2_with fail
  refine RetV_at (isNaN_c b _) ?_
  intro w2 hb2
  by_cases h1 : a < b
  · go_wp2_with fail
    go_ret
    exact ⟨ret_int (cmpI_lt (by omega)).symm, (by with_reducible repeat (first | assumption | exact Ext.rfl' _ | exact Ext.new _ _ | refine Ext.alloc' ?_ _ | refine Ext.drew' ?_ | refine Ext.drewN' ?_ _ | (refine Ext.set' ?_ ?_ _; rotate_left; focus (first | omega | (simp; done) | (simp; omega))) | (refine Ext.then (b := ?_) ?_ ?_; rotate_left; rotate_left; assumption)))⟩
  · by_cases h2 : b < a
    · go_wp2_with fail
      go_ret
      exact ⟨ret_int (cmpI_gt (by omega)).symm, (by with_reducible repeat (first | assumption | exact Ext.rfl' _ | exact Ext.new _ _ | refine Ext.alloc' ?_ _ | refine Ext.drew' ?_ | refine Ext.drewN' ?_ _ | (refine Ext.set' ?_ ?_ _; rotate_left; focus (first | omega | (simp; done) | (simp; omega))) | (refine Ext.then (b := ?_) ?_ ?_; rotate_left; rotate_left; assumption)))⟩
    · go_wp2_with fail
      go_ret
      exact ⟨ret_int (cmpI_eq (by omega) (by omega)).symm, (by with_reducible repeat (first | assumption | exact Ext.rfl' _ | exact Ext.new _ _ | refine Ext.alloc' ?_ _ | refine Ext.drew' ?_ | refine Ext.drewN' ?_ _ | (refine Ext.set' ?_ ?_ _; rotate_left; focus (first | omega | (simp; done) | (simp; omega))) | (refine Ext.then (b := ?_) ?_ ?_; rotate_left; rotate_left; assumption)))⟩
theorem order_c (a b : Int) (w : World) : Calls Tryz.prog 49 #[.int .i64 a, .int .i64 b] w (RetV w (.int .i64 (cmpI a b))) := by
  by_cases h1 : a < b
  · go_enter Tryz.func49, Tryz.ntmps49
    go_wp2_with fail
    go_ret
    exact ⟨ret_int (cmpI_lt (by omega)).symm, (by with_reducible repeat (first | assumption | exact Ext.rfl' _ | exact Ext.new _ _ | refine Ext.alloc' ?_ _ | refine Ext.drew' ?_ | refine Ext.drewN' ?_ _ | (refine Ext.set' ?_ ?_ _; rotate_left; focus (first | omega | (simp; done) | (simp; omega))) | (refine Ext.then (b := ?_) ?_ ?_; rotate_left; rotate_left; assumption)))⟩
  · by_cases h2 : b < a
    · go_enter Tryz.func49, Tryz.ntmps49
      go_wp2_with fail
      go_ret
      exact ⟨ret_int (cmpI_gt (by omega)).symm, (by with_reducible repeat (first | assumption | exact Ext.rfl' _ | exact Ext.new _ _ | refine Ext.alloc' ?_ _ | refine Ext.drew' ?_ | refine Ext.drewN' ?_ _ | (refine Ext.set' ?_ ?_ _; rotate_left; focus (first | omega | (simp; done) | (simp; omega))) | (refine Ext.then (b := ?_) ?_ ?_; rotate_left; rotate_left; assumption)))⟩
    · go_enter Tryz.func49, Tryz.ntmps49
      go_wp2_with fail
      go_ret
      exact ⟨ret_int (cmpI_eq (by omega) (by omega)).symm, (by with_reducible repeat (first | assumption | exact Ext.rfl' _ | exact Ext.new _ _ | refine Ext.alloc' ?_ _ | refine Ext.drew' ?_ | refine Ext.drewN' ?_ _ | (refine Ext.set' ?_ ?_ _; rotate_left; focus (first | omega | (simp; done) | (simp; omega))) | (refine Ext.then (b := ?_) ?_ ?_; rotate_left; rotate_left; assumption)))⟩
def zeroUpto {α : Type} (f : α → α → Int) (xs ys : List α) (k : Nat) : Prop := ∀ j (h : j < xs.length) (h' : j < ys.length), j < k → f xs[j] ys[j] = 0
theorem zeroUpto_succ {α : Type} {f : α → α → Int} {xs ys : List α} {k : Nat} (h : zeroUpto f xs ys k) (h1 : k < xs.length) (h2 : k < ys.length) (hk : f xs[k] ys[k] = 0) : zeroUpto f xs ys (k + 1) := by
  intro j a b hj
  by_cases e : j < k
  · exact h j a b e
  · obtain rfl : j = k := by omega
    exact hk
theorem cmpL_at {α : Type} {f : α → α → Int} : ∀ {xs ys : List α} {k : Nat} (h1 : k < xs.length) (h2 : k < ys.length), zeroUpto f xs ys k → f xs[k] ys[k] ≠ 0 → cmpL f xs ys = f xs[k] ys[k]
  | x :: xs, y :: ys, 0, _, _, _, h => by simp only [cmpL]; rw [if_neg (by simpa using h)]; rfl
  | x :: xs, y :: ys, k + 1, h1, h2, hz, h => by
    have h0 := hz 0 (by simp) (by simp) (by omega)
    simp only [cmpL]
    rw [if_pos (by simpa using h0)]
    exact cmpL_at (k := k) (by simpa using h1) (by simpa using h2) (fun j a b hj => hz (j + 1) (by simpa using a) (by simpa using b) (by omega)) (by simpa using h)
theorem cmpL_end {α : Type} {f : α → α → Int} : ∀ {xs ys : List α}, (∀ j (h : j < xs.length) (h' : j < ys.length), f xs[j] ys[j] = 0) → cmpL f xs ys = cmpI xs.length ys.length
  | [], [], _ => rfl
  | [], _ :: _, _ => by simp only [cmpL, cmpI, List.length_nil, List.length_cons]; rw [if_pos (by omega)]
  | _ :: _, [], _ => by simp only [cmpL, cmpI, List.length_nil, List.length_cons]; rw [if_neg (by omega), if_pos (by omega)]
  | x :: xs, y :: ys, hz => by
    have h0 := hz 0 (by simp) (by simp)
    simp only [cmpL]
    rw [if_pos (by simpa using h0), cmpL_end fun j a b => hz (j + 1) (by simpa using a) (by simpa using b)]
    simp only [cmpI, List.length_cons]
    split <;> split <;> (try split) <;> (try split) <;> omega
theorem cmpL_done {α : Type} {f : α → α → Int} {xs ys : List α} {k : Nat} (h : zeroUpto f xs ys k) (hk : ¬ k < xs.length ∨ ¬ k < ys.length) : cmpL f xs ys = cmpI xs.length ys.length :=
  cmpL_end fun j a b => h j a b (by omega)
set_option maxHeartbeats 1000000 in
theorem compareLists_int (f : Int → Int → Int) (fid : Nat) (vs ws : Value) (xs ys : List Int) (w : World) (hr : IntsR (ph w) vs xs) (hs : IntsR (ph w) ws ys)
    (hfn : ∀ args w, (callFunc fid args).run Tryz.prog w = .ok (.enter fid args) w)
    (hf : ∀ w', Ext w w' → ∀ x ∈ xs, ∀ y ∈ ys, ∀ cs ds, IntR (ph w') cs x → IntR (ph w') ds y → Calls Tryz.prog fid #[.int .i64 x, .int .i64 y] w' (RetV w' (.int .i64 (f x y)))) :
    Calls Tryz.prog 57 #[vs, ws, .func (.func fid) #[] #[]] w (RetV w (.int .i64 (cmpL f xs ys))) := by
  obtain ⟨a, c, rfl, hlen, hr⟩ := hr.form
  obtain ⟨a', c', rfl, hlen', hs⟩ := hs.form
  have HF := Lib.hid hf; clear hf
  have hcD := Lib.hid (fun k h => cmpL_done (f := f) (xs := xs) (ys := ys) (k := k) h)
  go_enter Tryz.func57, Tryz.ntmps57
  go_wp2_with fail
  all_goals
    go_loopw [14] (fun i wr => ∃ k : Nat, k ≤ xs.length ∧ k ≤ ys.length ∧ i = .int .i64 k ∧ Hid (zeroUpto f xs ys k) ∧ Ext w wr) (fun i _ => xs.length - (intOf i).toNat)
    case atStart => exact ⟨0, Nat.zero_le _, Nat.zero_le _, rfl, Lib.hid (fun j _ _ h => by omega), (by with_reducible repeat (first | assumption | exact Ext.rfl' _ | exact Ext.new _ _ | refine Ext.alloc' ?_ _ | refine Ext.drew' ?_ | refine Ext.drewN' ?_ _ | (refine Ext.set' ?_ ?_ _; rotate_left; focus (first | omega | (simp; done) | (simp; omega))) | (refine Ext.then (b := ?_) ?_ ?_; rotate_left; rotate_left; assumption)))⟩
    case round =>
      obtain ⟨k, hk, hk', rfl, HZ, hb⟩ := hrel
      by_cases hlt : k < xs.length ∧ k < ys.length
      · obtain ⟨hx, hy⟩ := hlt
        have hr' := hr.mono mono_IntR hb.ple
        have hs' := hs.mono mono_IntR hb.ple
        obtain ⟨b, o, rfl, h0, hi, hbl⟩ := IntsR.at hr' k hx; obtain ⟨b', o', rfl, h0', hi', hbl'⟩ := IntsR.at hs' k hy; have hE : IntR (ph wr) [.int .i64 xs[k]] xs[k] := ⟨rfl, hi⟩; have hE' : IntR (ph wr) [.int .i64 ys[k]] ys[k] := ⟨rfl, hi'⟩
        have hatx := Lib.hid (List.getElem_mem hx)
        have haty := Lib.hid (List.getElem_mem hy)
        have hsucc := Lib.hid (fun h => zeroUpto_succ HZ.out hx hy h)
        have hat := Lib.hid (fun h => cmpL_at hx hy HZ.out h)
        generalize xs[k] = x at *
        generalize ys[k] = y at *
        clear hr' hs' hr hs
        go_wp2_with fail
        (refine wp_region_I 10 (by kernel_rfl) (by kernel_rfl) ?_; simp only [List.toList_toArray, List.take_succ_cons, List.take_zero, List.drop_succ_cons, List.drop_zero])
        (repeat (first | (refine walkI_no rfl (by simp) rfl rfl rfl ?_ ?_; (focus (simp [undef]; done)); (try simp only [List.nil_append, List.cons_append])) | (refine walkI_is (u := ?_) rfl (by simp) rfl ?_ ?_; rotate_left; (focus (intro A w' hS hA K hK; (simp only [List.map_cons, List.map_nil, knows, Is, Op.operands, Call.operands, List.lookup_cons, List.lookup_nil, Nat.reduceBEq, Bool.false_eq_true, if_false, if_true, Act.eval, Array.getD_eq_getD_getElem?, List.getElem?_toArray, List.getElem?_cons_succ, List.getElem?_cons_zero, Option.getD_some, and_true, true_and, List.append_toArray, List.nil_append, List.cons_append, List.toList_toArray, Array.toList_append, Option.toArray, List.append_nil] at hA); first | (obtain ⟨hSc, hSf, hSs⟩ := hS.cells; go_simp; refine RetV_at (HF.out _ (by with_reducible repeat (first | assumption | exact Ext.rfl' _ | exact Ext.new _ _ | refine Ext.alloc' ?_ _ | refine Ext.drew' ?_ | refine Ext.drewN' ?_ _ | (refine Ext.set' ?_ ?_ _; rotate_left; focus (first | omega | (simp; done) | (simp; omega))) | (refine Ext.then (b := ?_) ?_ ?_; rotate_left; rotate_left; assumption))) x hatx.out y haty.out _ _ (by first | exact hE | exact mono_IntR _ _ _ _ hS.ple hE) (by first | exact hE' | exact mono_IntR _ _ _ _ hS.ple hE')) ?_; intro w'' hbx; exact hK _ hbx) | (obtain ⟨hSc, hSf, hSs⟩ := hS.cells; go_simp; exact hK _ (by first | exact Ext.rfl' _ | exact Ext.new _ _ | assumption)))); (try simp only [List.nil_append, List.cons_append])) | (refine walkI_yesis (u := ?_) rfl (by simp) rfl rfl rfl ?_ ?_; rotate_left; (focus (intro A w' hS hA K hK; (simp only [List.map_cons, List.map_nil, knows, Is, Op.operands, Call.operands, List.lookup_cons, List.lookup_nil, Nat.reduceBEq, Bool.false_eq_true, if_false, if_true, Act.eval, Array.getD_eq_getD_getElem?, List.getElem?_toArray, List.getElem?_cons_succ, List.getElem?_cons_zero, Option.getD_some, and_true, true_and, List.append_toArray, List.nil_append, List.cons_append, List.toList_toArray, Array.toList_append, Option.toArray, List.append_nil] at hA); first | (obtain ⟨hSc, hSf, hSs⟩ := hS.cells; go_simp; refine RetV_at (HF.out _ (by with_reducible repeat (first | assumption | exact Ext.rfl' _ | exact Ext.new _ _ | refine Ext.alloc' ?_ _ | refine Ext.drew' ?_ | refine Ext.drewN' ?_ _ | (refine Ext.set' ?_ ?_ _; rotate_left; focus (first | omega | (simp; done) | (simp; omega))) | (refine Ext.then (b := ?_) ?_ ?_; rotate_left; rotate_left; assumption))) x hatx.out y haty.out _ _ (by first | exact hE | exact mono_IntR _ _ _ _ hS.ple hE) (by first | exact hE' | exact mono_IntR _ _ _ _ hS.ple hE')) ?_; intro w'' hbx; exact hK _ hbx) | (obtain ⟨hSc, hSf, hSs⟩ := hS.cells; go_simp; exact hK _ (by first | exact Ext.rfl' _ | exact Ext.new _ _ | assumption)))); (try simp only [List.nil_append, List.cons_append]))))
        (refine walkI_nil ?_; simp only [List.nil_append, List.cons_append, fins, Is, forall_eq, Act.put, List.setIfInBounds_toArray, List.set_cons_zero, List.set_cons_succ])
        intro w2 hb2
        replace hb : Ext w w2 := (by with_reducible repeat (first | assumption | exact Ext.rfl' _ | exact Ext.new _ _ | refine Ext.alloc' ?_ _ | refine Ext.drew' ?_ | refine Ext.drewN' ?_ _ | (refine Ext.set' ?_ ?_ _; rotate_left; focus (first | omega | (simp; done) | (simp; omega))) | (refine Ext.then (b := ?_) ?_ ?_; rotate_left; rotate_left; assumption)))
        by_cases hz : f x y = 0
        · have hzb : (f x y == 0) = true := by simpa using hz
          replace hz := Lib.hid hz
          generalize f x y = z at *
          go_wp2_with fail
          go_roundw
          case rel => exact ⟨k + 1, by omega, by omega, by go_num, Lib.hid (hsucc.out hz.out), (by with_reducible repeat (first | assumption | exact Ext.rfl' _ | exact Ext.new _ _ | refine Ext.alloc' ?_ _ | refine Ext.drew' ?_ | refine Ext.drewN' ?_ _ | (refine Ext.set' ?_ ?_ _; rotate_left; focus (first | omega | (simp; done) | (simp; omega))) | (refine Ext.then (b := ?_) ?_ ?_; rotate_left; rotate_left; assumption)))⟩
          case measure => simp [intOf]; omega
        · have hzb : (f x y == 0) = false := by simpa using hz
          replace hz := Lib.hid hz
          generalize f x y = z at *
          go_wp2_with fail
          go_ret
          exact ⟨ret_int (hat.out hz.out).symm, hb⟩
      · clear hr hs
        have hd := Lib.hid (hcD.out k HZ.out (by omega))
        go_wp2_with fail
        refine RetV_at (cmpI_c _ _ _) ?_
        intro w2 hb2
        rw [← hd.out]
        generalize cmpL f xs ys = z at *
        go_wp2_with fail
        go_ret
        exact ⟨rfl, (by with_reducible repeat (first | assumption | exact Ext.rfl' _ | exact Ext.new _ _ | refine Ext.alloc' ?_ _ | refine Ext.drew' ?_ | refine Ext.drewN' ?_ _ | (refine Ext.set' ?_ ?_ _; rotate_left; focus (first | omega | (simp; done) | (simp; omega))) | (refine Ext.then (b := ?_) ?_ ?_; rotate_left; rotate_left; assumption)))⟩
set_option maxHeartbeats 1000000 in
theorem compareLists_val (f : Val → Val → Int) (fid : Nat) (vs ws : Value) (xs ys : List Val) (w : World) (hr : ValsR (ph w) vs xs) (hs : ValsR (ph w) ws ys)
    (hfn : ∀ args w, (callFunc fid args).run Tryz.prog w = .ok (.enter fid args) w)
    (hf : ∀ w', Ext w w' → ∀ x ∈ xs, ∀ y ∈ ys, ∀ cs ds, ValR (ph w') cs x → ValR (ph w') ds y → Calls Tryz.prog fid #[.agg cs.toArray, .agg ds.toArray] w' (RetV w' (.int .i64 (f x y)))) :
    Calls Tryz.prog 59 #[vs, ws, .func (.func fid) #[] #[]] w (RetV w (.int .i64 (cmpL f xs ys))) := by
  obtain ⟨a, c, rfl, hlen, hr⟩ := hr.form
  obtain ⟨a', c', rfl, hlen', hs⟩ := hs.form
  have HF := Lib.hid hf; clear hf
  have hcD := Lib.hid (fun k h => cmpL_done (f := f) (xs := xs) (ys := ys) (k := k) h)
  go_enter Tryz.func59, Tryz.ntmps59
  go_wp2_with fail
  all_goals
    go_loopw [14] (fun i wr => ∃ k : Nat, k ≤ xs.length ∧ k ≤ ys.length ∧ i = .int .i64 k ∧ Hid (zeroUpto f xs ys k) ∧ Ext w wr) (fun i _ => xs.length - (intOf i).toNat)
    case atStart => exact ⟨0, Nat.zero_le _, Nat.zero_le _, rfl, Lib.hid (fun j _ _ h => by omega), (by with_reducible repeat (first | assumption | exact Ext.rfl' _ | exact Ext.new _ _ | refine Ext.alloc' ?_ _ | refine Ext.drew' ?_ | refine Ext.drewN' ?_ _ | (refine Ext.set' ?_ ?_ _; rotate_left; focus (first | omega | (simp; done) | (simp; omega))) | (refine Ext.then (b := ?_) ?_ ?_; rotate_left; rotate_left; assumption)))⟩
    case round =>
      obtain ⟨k, hk, hk', rfl, HZ, hb⟩ := hrel
      by_cases hlt : k < xs.length ∧ k < ys.length
      · obtain ⟨hx, hy⟩ := hlt
        have hr' := hr.mono mono_ValR hb.ple
        have hs' := hs.mono mono_ValR hb.ple
        obtain ⟨b, o, rfl, h0, h1, h2, i0, i1, i2, hbl⟩ := ValsR.at hr' k hx; obtain ⟨b', o', rfl, h0', h1', h2', i0', i1', i2', hbl'⟩ := ValsR.at hs' k hy; have hE : ValR (ph wr) [.int .i64 xs[k].attr, .int .i64 xs[k].n.num, .int .i64 xs[k].n.den] xs[k] := ⟨rfl, i0, i1, i2⟩; have hE' : ValR (ph wr) [.int .i64 ys[k].attr, .int .i64 ys[k].n.num, .int .i64 ys[k].n.den] ys[k] := ⟨rfl, i0', i1', i2'⟩
        have hatx := Lib.hid (List.getElem_mem hx)
        have haty := Lib.hid (List.getElem_mem hy)
        have hsucc := Lib.hid (fun h => zeroUpto_succ HZ.out hx hy h)
        have hat := Lib.hid (fun h => cmpL_at hx hy HZ.out h)
        generalize xs[k] = x at *
        generalize ys[k] = y at *
        clear hr' hs' hr hs
        go_wp2_with fail
        (refine wp_region_I 10 (by kernel_rfl) (by kernel_rfl) ?_; simp only [List.toList_toArray, List.take_succ_cons, List.take_zero, List.drop_succ_cons, List.drop_zero])
        (repeat (first | (refine walkI_no rfl (by simp) rfl rfl rfl ?_ ?_; (focus (simp [undef]; done)); (try simp only [List.nil_append, List.cons_append])) | (refine walkI_is (u := ?_) rfl (by simp) rfl ?_ ?_; rotate_left; (focus (intro A w' hS hA K hK; (simp only [List.map_cons, List.map_nil, knows, Is, Op.operands, Call.operands, List.lookup_cons, List.lookup_nil, Nat.reduceBEq, Bool.false_eq_true, if_false, if_true, Act.eval, Array.getD_eq_getD_getElem?, List.getElem?_toArray, List.getElem?_cons_succ, List.getElem?_cons_zero, Option.getD_some, and_true, true_and, List.append_toArray, List.nil_append, List.cons_append, List.toList_toArray, Array.toList_append, Option.toArray, List.append_nil] at hA); first | (obtain ⟨hSc, hSf, hSs⟩ := hS.cells; go_simp; refine RetV_at (HF.out _ (by with_reducible repeat (first | assumption | exact Ext.rfl' _ | exact Ext.new _ _ | refine Ext.alloc' ?_ _ | refine Ext.drew' ?_ | refine Ext.drewN' ?_ _ | (refine Ext.set' ?_ ?_ _; rotate_left; focus (first | omega | (simp; done) | (simp; omega))) | (refine Ext.then (b := ?_) ?_ ?_; rotate_left; rotate_left; assumption))) x hatx.out y haty.out _ _ (by first | exact hE | exact mono_ValR _ _ _ _ hS.ple hE) (by first | exact hE' | exact mono_ValR _ _ _ _ hS.ple hE')) ?_; intro w'' hbx; exact hK _ hbx) | (obtain ⟨hSc, hSf, hSs⟩ := hS.cells; go_simp; exact hK _ (by first | exact Ext.rfl' _ | exact Ext.new _ _ | assumption)))); (try simp only [List.nil_append, List.cons_append])) | (refine walkI_yesis (u := ?_) rfl (by simp) rfl rfl rfl ?_ ?_; rotate_left; (focus (intro A w' hS hA K hK; (simp only [List.map_cons, List.map_nil, knows, Is, Op.operands, Call.operands, List.lookup_cons, List.lookup_nil, Nat.reduceBEq, Bool.false_eq_true, if_false, if_true, Act.eval, Array.getD_eq_getD_getElem?, List.getElem?_toArray, List.getElem?_cons_succ, List.getElem?_cons_zero, Option.getD_some, and_true, true_and, List.append_toArray, List.nil_append, List.cons_append, List.toList_toArray, Array.toList_append, Option.toArray, List.append_nil] at hA); first | (obtain ⟨hSc, hSf, hSs⟩ := hS.cells; go_simp; refine RetV_at (HF.out _ (by with_reducible repeat (first | assumption | exact Ext.rfl' _ | exact Ext.new _ _ | refine Ext.alloc' ?_ _ | refine Ext.drew' ?_ | refine Ext.drewN' ?_ _ | (refine Ext.set' ?_ ?_ _; rotate_left; focus (first | omega | (simp; done) | (simp; omega))) | (refine Ext.then (b := ?_) ?_ ?_; rotate_left; rotate_left; assumption))) x hatx.out y haty.out _ _ (by first | exact hE | exact mono_ValR _ _ _ _ hS.ple hE) (by first | exact hE' | exact mono_ValR _ _ _ _ hS.ple hE')) ?_; intro w'' hbx; exact hK _ hbx) | (obtain ⟨hSc, hSf, hSs⟩ := hS.cells; go_simp; exact hK _ (by first | exact Ext.rfl' _ | exact Ext.new _ _ | assumption)))); (try simp only [List.nil_append, List.cons_append]))))
        (refine walkI_nil ?_; simp only [List.nil_append, List.cons_append, fins, Is, forall_eq, Act.put, List.setIfInBounds_toArray, List.set_cons_zero, List.set_cons_succ])
        intro w2 hb2
        replace hb : Ext w w2 := (by with_reducible repeat (first | assumption | exact Ext.rfl' _ | exact Ext.new _ _ | refine Ext.alloc' ?_ _ | refine Ext.drew' ?_ | refine Ext.drewN' ?_ _ | (refine Ext.set' ?_ ?_ _; rotate_left; focus (first | omega | (simp; done) | (simp; omega))) | (refine Ext.then (b := ?_) ?_ ?_; rotate_left; rotate_left; assumption)))
        by_cases hz : f x y = 0
        · have hzb : (f x y == 0) = true := by simpa using hz
          replace hz := Lib.hid hz
          generalize f x y = z at *
          go_wp2_with fail
          go_roundw
          case rel => exact ⟨k + 1, by omega, by omega, by go_num, Lib.hid (hsucc.out hz.out), (by with_reducible repeat (first | assumption | exact Ext.rfl' _ | exact Ext.new _ _ | refine Ext.alloc' ?_ _ | refine Ext.drew' ?_ | refine Ext.drewN' ?_ _ | (refine Ext.set' ?_ ?_ _; rotate_left; focus (first | omega | (simp; done) | (simp; omega))) | (refine Ext.then (b := ?_) ?_ ?_; rotate_left; rotate_left; assumption)))⟩
          case measure => simp [intOf]; omega
        · have hzb : (f x y == 0) = false := by simpa using hz
          replace hz := Lib.hid hz
          generalize f x y = z at *
          go_wp2_with fail
          go_ret
          exact ⟨ret_int (hat.out hz.out).symm, hb⟩
      · clear hr hs
        have hd := Lib.hid (hcD.out k HZ.out (by omega))
        go_wp2_with fail
        refine RetV_at (cmpI_c _ _ _) ?_
        intro w2 hb2
        rw [← hd.out]
        generalize cmpL f xs ys = z at *
        go_wp2_with fail
        go_ret
        exact ⟨rfl, (by with_reducible repeat (first | assumption | exact Ext.rfl' _ | exact Ext.new _ _ | refine Ext.alloc' ?_ _ | refine Ext.drew' ?_ | refine Ext.drewN' ?_ _ | (refine Ext.set' ?_ ?_ _; rotate_left; focus (first | omega | (simp; done) | (simp; omega))) | (refine Ext.then (b := ?_) ?_ ?_; rotate_left; rotate_left; assumption)))⟩
set_option maxHeartbeats 1000000 in
theorem compareLists_thing (f : Thing → Thing → Int) (fid : Nat) (vs ws : Value) (xs ys : List Thing) (w : World) (hr : ThingsR (ph w) vs xs) (hs : ThingsR (ph w) ws ys)
    (hfn : ∀ args w, (callFunc fid args).run Tryz.prog w = .ok (.enter fid args) w)
    (hf : ∀ w', Ext w w' → ∀ x ∈ xs, ∀ y ∈ ys, ∀ cs ds, ThingR (ph w') cs x → ThingR (ph w') ds y → Calls Tryz.prog fid #[.agg cs.toArray, .agg ds.toArray] w' (RetV w' (.int .i64 (f x y)))) :
    Calls Tryz.prog 60 #[vs, ws, .func (.func fid) #[] #[]] w (RetV w (.int .i64 (cmpL f xs ys))) := by
  obtain ⟨a, c, rfl, hlen, hr⟩ := hr.form
  obtain ⟨a', c', rfl, hlen', hs⟩ := hs.form
  have HF := Lib.hid hf; clear hf
  have hcD := Lib.hid (fun k h => cmpL_done (f := f) (xs := xs) (ys := ys) (k := k) h)
  go_enter Tryz.func60, Tryz.ntmps60
  go_wp2_with fail
  all_goals
    go_loopw [14] (fun i wr => ∃ k : Nat, k ≤ xs.length ∧ k ≤ ys.length ∧ i = .int .i64 k ∧ Hid (zeroUpto f xs ys k) ∧ Ext w wr) (fun i _ => xs.length - (intOf i).toNat)
    case atStart => exact ⟨0, Nat.zero_le _, Nat.zero_le _, rfl, Lib.hid (fun j _ _ h => by omega), (by with_reducible repeat (first | assumption | exact Ext.rfl' _ | exact Ext.new _ _ | refine Ext.alloc' ?_ _ | refine Ext.drew' ?_ | refine Ext.drewN' ?_ _ | (refine Ext.set' ?_ ?_ _; rotate_left; focus (first | omega | (simp; done) | (simp; omega))) | (refine Ext.then (b := ?_) ?_ ?_; rotate_left; rotate_left; assumption)))⟩
    case round =>
      obtain ⟨k, hk, hk', rfl, HZ, hb⟩ := hrel
      by_cases hlt : k < xs.length ∧ k < ys.length
      · obtain ⟨hx, hy⟩ := hlt
        have hr' := hr.mono mono_ThingR hb.ple
        have hs' := hs.mono mono_ThingR hb.ple
        obtain ⟨b, o, b1, d1, b2, d2, b3, d3, rfl, h0, h1, h2, hE, hbl⟩ := ThingsR.at hr' k hx; obtain ⟨b', o', b1', d1', b2', d2', b3', d3', rfl, h0', h1', h2', hE', hbl'⟩ := ThingsR.at hs' k hy
        have hatx := Lib.hid (List.getElem_mem hx)
        have haty := Lib.hid (List.getElem_mem hy)
        have hsucc := Lib.hid (fun h => zeroUpto_succ HZ.out hx hy h)
        have hat := Lib.hid (fun h => cmpL_at hx hy HZ.out h)
        generalize xs[k] = x at *
        generalize ys[k] = y at *
        clear hr' hs' hr hs
        go_wp2_with fail
        (refine wp_region_I 10 (by kernel_rfl) (by kernel_rfl) ?_; simp only [List.toList_toArray, List.take_succ_cons, List.take_zero, List.drop_succ_cons, List.drop_zero])
        (repeat (first | (refine walkI_no rfl (by simp) rfl rfl rfl ?_ ?_; (focus (simp [undef]; done)); (try simp only [List.nil_append, List.cons_append])) | (refine walkI_is (u := ?_) rfl (by simp) rfl ?_ ?_; rotate_left; (focus (intro A w' hS hA K hK; (simp only [List.map_cons, List.map_nil, knows, Is, Op.operands, Call.operands, List.lookup_cons, List.lookup_nil, Nat.reduceBEq, Bool.false_eq_true, if_false, if_true, Act.eval, Array.getD_eq_getD_getElem?, List.getElem?_toArray, List.getElem?_cons_succ, List.getElem?_cons_zero, Option.getD_some, and_true, true_and, List.append_toArray, List.nil_append, List.cons_append, List.toList_toArray, Array.toList_append, Option.toArray, List.append_nil] at hA); first | (obtain ⟨hSc, hSf, hSs⟩ := hS.cells; go_simp; refine RetV_at (HF.out _ (by with_reducible repeat (first | assumption | exact Ext.rfl' _ | exact Ext.new _ _ | refine Ext.alloc' ?_ _ | refine Ext.drew' ?_ | refine Ext.drewN' ?_ _ | (refine Ext.set' ?_ ?_ _; rotate_left; focus (first | omega | (simp; done) | (simp; omega))) | (refine Ext.then (b := ?_) ?_ ?_; rotate_left; rotate_left; assumption))) x hatx.out y haty.out _ _ (by first | exact hE | exact mono_ThingR _ _ _ _ hS.ple hE) (by first | exact hE' | exact mono_ThingR _ _ _ _ hS.ple hE')) ?_; intro w'' hbx; exact hK _ hbx) | (obtain ⟨hSc, hSf, hSs⟩ := hS.cells; go_simp; exact hK _ (by first | exact Ext.rfl' _ | exact Ext.new _ _ | assumption)))); (try simp only [List.nil_append, List.cons_append])) | (refine walkI_yesis (u := ?_) rfl (by simp) rfl rfl rfl ?_ ?_; rotate_left; (focus (intro A w' hS hA K hK; (simp only [List.map_cons, List.map_nil, knows, Is, Op.operands, Call.operands, List.lookup_cons, List.lookup_nil, Nat.reduceBEq, Bool.false_eq_true, if_false, if_true, Act.eval, Array.getD_eq_getD_getElem?, List.getElem?_toArray, List.getElem?_cons_succ, List.getElem?_cons_zero, Option.getD_some, and_true, true_and, List.append_toArray, List.nil_append, List.cons_append, List.toList_toArray, Array.toList_append, Option.toArray, List.append_nil] at hA); first | (obtain ⟨hSc, hSf, hSs⟩ := hS.cells; go_simp; refine RetV_at (HF.out _ (by with_reducible repeat (first | assumption | exact Ext.rfl' _ | exact Ext.new _ _ | refine Ext.alloc' ?_ _ | refine Ext.drew' ?_ | refine Ext.drewN' ?_ _ | (refine Ext.set' ?_ ?_ _; rotate_left; focus (first | omega | (simp; done) | (simp; omega))) | (refine Ext.then (b := ?_) ?_ ?_; rotate_left; rotate_left; assumption))) x hatx.out y haty.out _ _ (by first | exact hE | exact mono_ThingR _ _ _ _ hS.ple hE) (by first | exact hE' | exact mono_ThingR _ _ _ _ hS.ple hE')) ?_; intro w'' hbx; exact hK _ hbx) | (obtain ⟨hSc, hSf, hSs⟩ := hS.cells; go_simp; exact hK _ (by first | exact Ext.rfl' _ | exact Ext.new _ _ | assumption)))); (try simp only [List.nil_append, List.cons_append]))))
        (refine walkI_nil ?_; simp only [List.nil_append, List.cons_append, fins, Is, forall_eq, Act.put, List.setIfInBounds_toArray, List.set_cons_zero, List.set_cons_succ])
        intro w2 hb2
        replace hb : Ext w w2 := (by with_reducible repeat (first | assumption | exact Ext.rfl' _ | exact Ext.new _ _ | refine Ext.alloc' ?_ _ | refine Ext.drew' ?_ | refine Ext.drewN' ?_ _ | (refine Ext.set' ?_ ?_ _; rotate_left; focus (first | omega | (simp; done) | (simp; omega))) | (refine Ext.then (b := ?_) ?_ ?_; rotate_left; rotate_left; assumption)))
        by_cases hz : f x y = 0
        · have hzb : (f x y == 0) = true := by simpa using hz
          replace hz := Lib.hid hz
          generalize f x y = z at *
          go_wp2_with fail
          go_roundw
          case rel => exact ⟨k + 1, by omega, by omega, by go_num, Lib.hid (hsucc.out hz.out), (by with_reducible repeat (first | assumption | exact Ext.rfl' _ | exact Ext.new _ _ | refine Ext.alloc' ?_ _ | refine Ext.drew' ?_ | refine Ext.drewN' ?_ _ | (refine Ext.set' ?_ ?_ _; rotate_left; focus (first | omega | (simp; done) | (simp; omega))) | (refine Ext.then (b := ?_) ?_ ?_; rotate_left; rotate_left; assumption)))⟩
          case measure => simp [intOf]; omega
        · have hzb : (f x y == 0) = false := by simpa using hz
          replace hz := Lib.hid hz
          generalize f x y = z at *
          go_wp2_with fail
          go_ret
          exact ⟨ret_int (hat.out hz.out).symm, hb⟩
      · clear hr hs
        have hd := Lib.hid (hcD.out k HZ.out (by omega))
        go_wp2_with fail
        refine RetV_at (cmpI_c _ _ _) ?_
        intro w2 hb2
        rw [← hd.out]
        generalize cmpL f xs ys = z at *
        go_wp2_with fail
        go_ret
        exact ⟨rfl, (by with_reducible repeat (first | assumption | exact Ext.rfl' _ | exact Ext.new _ _ | refine Ext.alloc' ?_ _ | refine Ext.drew' ?_ | refine Ext.drewN' ?_ _ | (refine Ext.set' ?_ ?_ _; rotate_left; focus (first | omega | (simp; done) | (simp; omega))) | (refine Ext.then (b := ?_) ?_ ?_; rotate_left; rotate_left; assumption)))⟩
set_option maxHeartbeats 1000000 in
theorem slicesCompare_c (vs ws : Value) (xs ys : List Int) (w : World) (hr : IntsR (ph w) vs xs) (hs : IntsR (ph w) ws ys) :
    Calls Tryz.prog 68 #[vs, ws] w (RetV w (.int .i64 (cmpL cmpI xs ys))) := by
  obtain ⟨a, c, rfl, hlen, hr⟩ := hr.form
  obtain ⟨a', c', rfl, hlen', hs⟩ := hs.form
  have hcD := Lib.hid (fun k h => cmpL_done (f := cmpI) (xs := xs) (ys := ys) (k := k) h)
  go_enter Tryz.func68, Tryz.ntmps68
  go_wp2_with fail
  go_loopw [11] (fun i wr => ∃ k : Nat, k ≤ xs.length ∧ k ≤ ys.length ∧ i = .int .i64 k ∧ Hid (zeroUpto cmpI xs ys k) ∧ Ext w wr) (fun i _ => xs.length - (intOf i).toNat)
  case atStart => exact ⟨0, Nat.zero_le _, Nat.zero_le _, rfl, Lib.hid (fun j _ _ h => by omega), (by with_reducible repeat (first | assumption | exact Ext.rfl' _ | exact Ext.new _ _ | refine Ext.alloc' ?_ _ | refine Ext.drew' ?_ | refine Ext.drewN' ?_ _ | (refine Ext.set' ?_ ?_ _; rotate_left; focus (first | omega | (simp; done) | (simp; omega))) | (refine Ext.then (b := ?_) ?_ ?_; rotate_left; rotate_left; assumption)))⟩
  case round =>
    obtain ⟨k, hk, hk', rfl, HZ, hb⟩ := hrel
    by_cases hx : k < xs.length
    · obtain ⟨b, o, rfl, h0, hi, hbl⟩ := IntsR.at (hr.mono mono_IntR hb.ple) k hx
      by_cases hy : k < ys.length
      · obtain ⟨b', o', rfl, h0', hi', hbl'⟩ := IntsR.at (hs.mono mono_IntR hb.ple) k hy
        have hsucc := Lib.hid (fun h => zeroUpto_succ HZ.out hx hy h)
        have hat := Lib.hid (fun h => cmpL_at hx hy HZ.out h)
        generalize xs[k] = x at *
        generalize ys[k] = y at *
        clear hr hs
        go_wp2_with fail
        refine RetV_at (cmpI_c x y _) ?_
        intro w2 hb2
        by_cases hz : cmpI x y = 0
        · have hzb : (cmpI x y == 0) = true := by simpa using hz
          replace hz := Lib.hid hz
          generalize cmpI x y = z at *
          go_wp2_with fail
          go_roundw
          case rel => exact ⟨k + 1, by omega, by omega, by go_num, Lib.hid (hsucc.out hz.out), (by with_reducible repeat (first | assumption | exact Ext.rfl' _ | exact Ext.new _ _ | refine Ext.alloc' ?_ _ | refine Ext.drew' ?_ | refine Ext.drewN' ?_ _ | (refine Ext.set' ?_ ?_ _; rotate_left; focus (first | omega | (simp; done) | (simp; omega))) | (refine Ext.then (b := ?_) ?_ ?_; rotate_left; rotate_left; assumption)))⟩
          case measure => simp [intOf]; omega
        · have hzb : (cmpI x y == 0) = false := by simpa using hz
          replace hz := Lib.hid hz
          generalize cmpI x y = z at *
          go_wp2_with fail
          go_ret
          exact ⟨ret_int (hat.out hz.out).symm, (by with_reducible repeat (first | assumption | exact Ext.rfl' _ | exact Ext.new _ _ | refine Ext.alloc' ?_ _ | refine Ext.drew' ?_ | refine Ext.drewN' ?_ _ | (refine Ext.set' ?_ ?_ _; rotate_left; focus (first | omega | (simp; done) | (simp; omega))) | (refine Ext.then (b := ?_) ?_ ?_; rotate_left; rotate_left; assumption)))⟩
      · have hd := Lib.hid (hcD.out k HZ.out (.inr hy))
        have hgt := Lib.hid (cmpI_gt (a := xs.length) (b := ys.length) (by omega))
        clear hr hs
        go_wp2_with fail
        go_ret
        exact ⟨ret_int (by rw [hd.out, hgt.out]), (by with_reducible repeat (first | assumption | exact Ext.rfl' _ | exact Ext.new _ _ | refine Ext.alloc' ?_ _ | refine Ext.drew' ?_ | refine Ext.drewN' ?_ _ | (refine Ext.set' ?_ ?_ _; rotate_left; focus (first | omega | (simp; done) | (simp; omega))) | (refine Ext.then (b := ?_) ?_ ?_; rotate_left; rotate_left; assumption)))⟩
    · have hd := Lib.hid (hcD.out k HZ.out (.inl hx))
      clear hr hs
      by_cases hlt : xs.length < ys.length
      · have hgt := Lib.hid (cmpI_lt (a := xs.length) (b := ys.length) (by omega))
        go_wp2_with fail
        go_ret
        exact ⟨ret_int (by rw [hd.out, hgt.out]), (by with_reducible repeat (first | assumption | exact Ext.rfl' _ | exact Ext.new _ _ | refine Ext.alloc' ?_ _ | refine Ext.drew' ?_ | refine Ext.drewN' ?_ _ | (refine Ext.set' ?_ ?_ _; rotate_left; focus (first | omega | (simp; done) | (simp; omega))) | (refine Ext.then (b := ?_) ?_ ?_; rotate_left; rotate_left; assumption)))⟩
      · have hgt := Lib.hid (cmpI_eq (a := xs.length) (b := ys.length) (by omega) (by omega))
        go_wp2_with fail
        go_ret
        exact ⟨ret_int (by rw [hd.out, hgt.out]), (by with_reducible repeat (first | assumption | exact Ext.rfl' _ | exact Ext.new _ _ | refine Ext.alloc' ?_ _ | refine Ext.drew' ?_ | refine Ext.drewN' ?_ _ | (refine Ext.set' ?_ ?_ _; rotate_left; focus (first | omega | (simp; done) | (simp; omega))) | (refine Ext.then (b := ?_) ?_ ?_; rotate_left; rotate_left; assumption)))⟩
theorem cells3 {h : PH} {a b c : Int} (ha : I64 a) (hb : I64 b) (hc : I64 c) : Cells h IntR 1 [.int .i64 a, .int .i64 b, .int .i64 c] [a, b, c] :=
  ⟨[_], _, rfl, rfl, ⟨rfl, ha⟩, [_], _, rfl, rfl, ⟨rfl, hb⟩, [_], [], rfl, rfl, ⟨rfl, hc⟩, rfl⟩
set_option maxRecDepth 100000 in
set_option maxHeartbeats 1000000 in
theorem compareValues_c (x y : Val) (w : World) (hx : VOk x) (hy : VOk y) : Calls Tryz.prog 40 #[.agg #[.int .i64 x.attr, .int .i64 x.n.num, .int .i64 x.n.den], .agg #[.int .i64 y.attr, .int .i64 y.n.num, .int .i64 y.n.den]] w (RetV w (.int .i64 (cmpV x y))) := by
  obtain ⟨x1, x2, x3⟩ := hx
  obtain ⟨y1, y2, y3⟩ := hy
  have hcv : Hid (cmpV x y = cmpL cmpI [x.attr, x.n.num, x.n.den] [y.attr, y.n.num, y.n.den]) := rfl
  go_enter Tryz.func40, Tryz.ntmps40
  go_wp2_with fail
  refine wp_region_D 6 [5, 6] (by kernel_rfl) (by kernel_rfl) (by kernel_rfl) ?_
  simp only [List.toList_toArray, List.take_succ_cons, List.take_zero, List.drop_succ_cons, List.drop_zero]
  (refine walkI_is (u := ?_) rfl (by simp) rfl ?_ ?_; rotate_left; (focus (intro A w' hS hA K hK; (simp only [List.map_cons, List.map_nil, knows, Is, Op.operands, Call.operands, List.lookup_cons, List.lookup_nil, Nat.reduceBEq, Bool.false_eq_true, if_false, if_true, Act.eval, Array.getD_eq_getD_getElem?, List.getElem?_toArray, List.getElem?_cons_succ, List.getElem?_cons_zero, Option.getD_some, and_true, true_and, List.append_toArray, List.nil_append, List.cons_append, List.toList_toArray, Array.toList_append, Option.toArray, List.append_nil] at hA); first | fail | (obtain ⟨hSc, hSf, hSs⟩ := hS.cells; go_simp; exact hK _ (by first | exact Ext.rfl' _ | exact Ext.new _ _ | assumption)))); (try simp only [List.nil_append, List.cons_append]))
  (refine walkI_is (u := ?_) rfl (by simp) rfl ?_ ?_; rotate_left; (focus (intro A w' hS hA K hK; (simp only [List.map_cons, List.map_nil, knows, Is, Op.operands, Call.operands, List.lookup_cons, List.lookup_nil, Nat.reduceBEq, Bool.false_eq_true, if_false, if_true, Act.eval, Array.getD_eq_getD_getElem?, List.getElem?_toArray, List.getElem?_cons_succ, List.getElem?_cons_zero, Option.getD_some, and_true, true_and, List.append_toArray, List.nil_append, List.cons_append, List.toList_toArray, Array.toList_append, Option.toArray, List.append_nil] at hA); first | (go_simp; refine RetV_at (keyOf_c x _ x1 x2 x3) ?_; intro w'' hbx; exact hK _ hbx) | (obtain ⟨hSc, hSf, hSs⟩ := hS.cells; go_simp; exact hK _ (by first | exact Ext.rfl' _ | exact Ext.new _ _ | assumption)))); (try simp only [List.nil_append, List.cons_append]))
  (refine walkI_is (u := ?_) rfl (by simp) rfl ?_ ?_; rotate_left; (focus (intro A w' hS hA K hK; (simp only [List.map_cons, List.map_nil, knows, Is, Op.operands, Call.operands, List.lookup_cons, List.lookup_nil, Nat.reduceBEq, Bool.false_eq_true, if_false, if_true, Act.eval, Array.getD_eq_getD_getElem?, List.getElem?_toArray, List.getElem?_cons_succ, List.getElem?_cons_zero, Option.getD_some, and_true, true_and, List.append_toArray, List.nil_append, List.cons_append, List.toList_toArray, Array.toList_append, Option.toArray, List.append_nil] at hA); first | fail | (obtain ⟨hSc, hSf, hSs⟩ := hS.cells; go_simp; exact hK _ (by first | exact Ext.rfl' _ | exact Ext.new _ _ | assumption)))); (try simp only [List.nil_append, List.cons_append]))
  (refine walkI_is (u := ?_) rfl (by simp) rfl ?_ ?_; rotate_left; (focus (intro A w' hS hA K hK; (simp only [List.map_cons, List.map_nil, knows, Is, Op.operands, Call.operands, List.lookup_cons, List.lookup_nil, Nat.reduceBEq, Bool.false_eq_true, if_false, if_true, Act.eval, Array.getD_eq_getD_getElem?, List.getElem?_toArray, List.getElem?_cons_succ, List.getElem?_cons_zero, Option.getD_some, and_true, true_and, List.append_toArray, List.nil_append, List.cons_append, List.toList_toArray, Array.toList_append, Option.toArray, List.append_nil] at hA); first | (go_simp; refine RetV_at (keyOf_c y _ y1 y2 y3) ?_; intro w'' hbx; exact hK _ hbx) | (obtain ⟨hSc, hSf, hSs⟩ := hS.cells; go_simp; exact hK _ (by first | exact Ext.rfl' _ | exact Ext.new _ _ | assumption)))); (try simp only [List.nil_append, List.cons_append]))
  refine walkI_new (NewBox w #[.int .i64 0, .int .i64 0, .int .i64 0] 90) rfl (by simp) rfl (stab_NewBox _ _ _) ?_ ?_
  · intro A w' hS hA K hK
    go_simp
    have hs := hS.size
    simp at hs
    exact hK _ _ (Ext.new _ _) ⟨_, rfl, Own.new _ _ _, by omega⟩ (fun g e => by cases e; simp)
  simp only [List.nil_append, List.cons_append]
  refine walkI_new (NewBox w #[.int .i64 0, .int .i64 0, .int .i64 0] 90) rfl (by simp) rfl (stab_NewBox _ _ _) ?_ ?_
  · intro A w' hS hA K hK
    go_simp
    have hs := hS.size
    simp at hs
    exact hK _ _ (Ext.new _ _) ⟨_, rfl, Own.new _ _ _, by omega⟩ (fun g e => by cases e; simp)
  (refine walkI_nil ?_; simp only [List.nil_append, List.cons_append, fins, Is, forall_eq, Act.put, List.setIfInBounds_toArray, List.set_cons_zero, List.set_cons_succ])
  rintro w2 hb2 v5 ⟨g5, rfl, ho5, hg5⟩ v6 ⟨g6, rfl, ho6, hg6⟩ hdist
  have hne : g5 ≠ g6 := hdist 5 (by simp) 6 (by simp) (by decide) g5 g6 rfl rfl
  have hb : Ext w w2 := (by with_reducible repeat (first | assumption | exact Ext.rfl' _ | exact Ext.new _ _ | refine Ext.alloc' ?_ _ | refine Ext.drew' ?_ | refine Ext.drewN' ?_ _ | (refine Ext.set' ?_ ?_ _; rotate_left; focus (first | omega | (simp; done) | (simp; omega))) | (refine Ext.then (b := ?_) ?_ ?_; rotate_left; rotate_left; assumption)))
  obtain ⟨q1, q2⟩ := ho5.facts
  obtain ⟨r1, r2⟩ := ho6.facts
  have q3 := ho5.lt
  have r3 := ho6.lt
  clear hb2 hdist
  go_upto_region 2 with (fail)
  have h5 : Own _ g5 #[.int .i64 x.attr, .int .i64 x.n.num, .int .i64 x.n.den] 90 := (((((ho5.set 0 (.int .i64 x.attr)).set 1 (.int .i64 x.n.num)).set 2 (.int .i64 x.n.den)).setOther (p := ⟨g6, 0, none⟩) hne (.int .i64 y.attr)).setOther (p := ⟨g6, 1, none⟩) hne (.int .i64 y.n.num)).setOther (p := ⟨g6, 2, none⟩) hne (.int .i64 y.n.den)
  have h6 : Own _ g6 #[.int .i64 y.attr, .int .i64 y.n.num, .int .i64 y.n.den] 90 := (((((ho6.setOther (p := ⟨g5, 0, none⟩) (Ne.symm hne) (.int .i64 x.attr)).setOther (p := ⟨g5, 1, none⟩) (Ne.symm hne) (.int .i64 x.n.num)).setOther (p := ⟨g5, 2, none⟩) (Ne.symm hne) (.int .i64 x.n.den)).set 0 (.int .i64 y.attr)).set 1 (.int .i64 y.n.num)).set 2 (.int .i64 y.n.den)
  have hb' := (((((hb.set' (p := ⟨g5, 0, none⟩) hg5 (.int .i64 x.attr)).set' (p := ⟨g5, 1, none⟩) hg5 (.int .i64 x.n.num)).set' (p := ⟨g5, 2, none⟩) hg5 (.int .i64 x.n.den)).set' (p := ⟨g6, 0, none⟩) hg6 (.int .i64 y.attr)).set' (p := ⟨g6, 1, none⟩) hg6 (.int .i64 y.n.num)).set' (p := ⟨g6, 2, none⟩) hg6 (.int .i64 y.n.den)
  clear ho5 ho6 hb q1 q2 q3 r1 r2 r3
  generalize (((((w2.setCell _ _).setCell _ _).setCell _ _).setCell _ _).setCell _ _).setCell _ _ = W at *
  have e5 : Hid (IntsR (ph W) (.slice (some ⟨g5, 0, none⟩) 3 3) [x.attr, x.n.num, x.n.den]) := sliceArr h5 (cells3 x1 x2 x3) rfl (by simp [maxLen])
  have e6 : Hid (IntsR (ph W) (.slice (some ⟨g6, 0, none⟩) 3 3) [y.attr, y.n.num, y.n.den]) := sliceArr h6 (cells3 y1 y2 y3) rfl (by simp [maxLen])
  clear h5 h6
  (refine wp_region_I 3 (by kernel_rfl) (by kernel_rfl) ?_; simp only [List.toList_toArray, List.take_succ_cons, List.take_zero, List.drop_succ_cons, List.drop_zero])
  iterate 2 (refine walkI_is (u := ?_) rfl (by simp) rfl ?_ ?_; rotate_left; (focus (intro A w' hS hA K hK; (simp only [List.map_cons, List.map_nil, knows, Is, Op.operands, Call.operands, List.lookup_cons, List.lookup_nil, Nat.reduceBEq, Bool.false_eq_true, if_false, if_true, Act.eval, Array.getD_eq_getD_getElem?, List.getElem?_toArray, List.getElem?_cons_succ, List.getElem?_cons_zero, Option.getD_some, and_true, true_and, List.append_toArray, List.nil_append, List.cons_append, List.toList_toArray, Array.toList_append, Option.toArray, List.append_nil] at hA); first | fail | (obtain ⟨hSc, hSf, hSs⟩ := hS.cells; go_simp; exact hK _ (by first | exact Ext.rfl' _ | exact Ext.new _ _ | assumption)))); (try simp only [List.nil_append, List.cons_append]))
  (refine walkI_is (u := ?_) rfl (by simp) rfl ?_ ?_; rotate_left; (focus (intro A w' hS hA K hK; (simp only [List.map_cons, List.map_nil, knows, Is, Op.operands, Call.operands, List.lookup_cons, List.lookup_nil, Nat.reduceBEq, Bool.false_eq_true, if_false, if_true, Act.eval, Array.getD_eq_getD_getElem?, List.getElem?_toArray, List.getElem?_cons_succ, List.getElem?_cons_zero, Option.getD_some, and_true, true_and, List.append_toArray, List.nil_append, List.cons_append, List.toList_toArray, Array.toList_append, Option.toArray, List.append_nil] at hA); first | (go_simp; refine RetV_at (slicesCompare_c _ _ _ _ _ (e5.out.mono mono_IntR hS.ple) (e6.out.mono mono_IntR hS.ple)) ?_; intro w'' hbx; exact hK _ hbx) | (obtain ⟨hSc, hSf, hSs⟩ := hS.cells; go_simp; exact hK _ (by first | exact Ext.rfl' _ | exact Ext.new _ _ | assumption)))); (try simp only [List.nil_append, List.cons_append]))
  (refine walkI_nil ?_; simp only [List.nil_append, List.cons_append, fins, Is, forall_eq, Act.put, List.setIfInBounds_toArray, List.set_cons_zero, List.set_cons_succ])
  intro w3 hb3
  rw [← hcv.out]
  generalize cmpV x y = z at *
  go_wp2_with fail
  go_ret
  exact ⟨rfl, (by with_reducible repeat (first | assumption | exact Ext.rfl' _ | exact Ext.new _ _ | refine Ext.alloc' ?_ _ | refine Ext.drew' ?_ | refine Ext.drewN' ?_ _ | (refine Ext.set' ?_ ?_ _; rotate_left; focus (first | omega | (simp; done) | (simp; omega))) | (refine Ext.then (b := ?_) ?_ ?_; rotate_left; rotate_left; assumption)))⟩
set_option maxHeartbeats 1000000 in
theorem compare_c (t : Thing) : ∀ (s : Thing) (cs ds : List Value) (w : World), ThingR (ph w) cs t → ThingR (ph w) ds s →
    Calls Tryz.prog 31 #[.agg cs.toArray, .agg ds.toArray] w (RetV w (.int .i64 (cmpT t s))) := by
  induction t using Thing.ind with
  | h t ih =>
    intro s cs ds w hr hs
    obtain ⟨a1, c1, a2, c2, a3, c3, rfl, l1, l2, l3, hc, hv, hp⟩ := hr.form
    obtain ⟨a1', c1', a2', c2', a3', c3', rfl, l1', l2', l3', hc', hv', hp'⟩ := hs.form
    have HI := Lib.hid ih; clear ih
    have hE := Lib.hid (cmpT_eq t s)
    go_enter Tryz.func31, Tryz.ntmps31
    go_wp2_with fail
    refine RetV_at (compareLists_int cmpI 58 _ _ t.cls s.cls _ (hc.mono mono_IntR (Ext.ple (by with_reducible repeat (first | assumption | exact Ext.rfl' _ | exact Ext.new _ _ | refine Ext.alloc' ?_ _ | refine Ext.drew' ?_ | refine Ext.drewN' ?_ _ | (refine Ext.set' ?_ ?_ _; rotate_left; focus (first | omega | (simp; done) | (simp; omega))) | (refine Ext.then (b := ?_) ?_ ?_; rotate_left; rotate_left; assumption))))) (hc'.mono mono_IntR (Ext.ple (by with_reducible repeat (first | assumption | exact Ext.rfl' _ | exact Ext.new _ _ | refine Ext.alloc' ?_ _ | refine Ext.drew' ?_ | refine Ext.drewN' ?_ _ | (refine Ext.set' ?_ ?_ _; rotate_left; focus (first | omega | (simp; done) | (simp; omega))) | (refine Ext.then (b := ?_) ?_ ?_; rotate_left; rotate_left; assumption))))) (fun args w => enterFn Tryz.func58 rfl rfl args w) (fun w' hw' x hx y hy _ _ _ _ => cmpI_c x y w')) ?_
    intro w1 hb1
    have hO : Own w1 w.heap.size #[.slice a1 t.cls.length c1, .slice a2 t.vals.length c2, .slice a3 t.parts.length c3] 27 := Own.keep ((Own.new _ _ _).alloc _) hb1
    have hO' : Own w1 (w.heap.size + 1) #[.slice a1' s.cls.length c1', .slice a2' s.vals.length c2', .slice a3' s.parts.length c3'] 27 := Own.keep (Own.new' _ _ _ (by simp)) hb1
    have hb : Ext w w1 := (by with_reducible repeat (first | assumption | exact Ext.rfl' _ | exact Ext.new _ _ | refine Ext.alloc' ?_ _ | refine Ext.drew' ?_ | refine Ext.drewN' ?_ _ | (refine Ext.set' ?_ ?_ _; rotate_left; focus (first | omega | (simp; done) | (simp; omega))) | (refine Ext.then (b := ?_) ?_ ?_; rotate_left; rotate_left; assumption)))
    clear hb1
    obtain ⟨q1, q2⟩ := hO.facts
    have q3 := hO.lt
    obtain ⟨r1, r2⟩ := hO'.facts
    have r3 := hO'.lt
    by_cases h1 : cmpL cmpI t.cls s.cls = 0
    · have h1b : (cmpL cmpI t.cls s.cls == 0) = true := by simpa using h1
      replace h1 := Lib.hid h1
      generalize hz1 : cmpL cmpI t.cls s.cls = z1 at *
      replace hz1 := Lib.hid hz1
      go_wp2_with fail
      refine RetV_at (compareLists_val cmpV 40 _ _ t.vals s.vals _ (hv.mono mono_ValR hb.ple) (hv'.mono mono_ValR hb.ple) (fun args w => enterFn Tryz.func40 rfl rfl args w) (fun w' hw' x hx y hy cs ds h1 h2 => by rw [h1.1, h2.1]; exact compareValues_c x y w' h1.2 h2.2)) ?_
      intro w2 hb2
      replace hO := hO.keep hb2
      replace hO' := hO'.keep hb2
      replace hb := hb.then hb2
      clear q1 q2 q3 r1 r2 r3 hb2
      obtain ⟨q1, q2⟩ := hO.facts
      have q3 := hO.lt
      obtain ⟨r1, r2⟩ := hO'.facts
      have r3 := hO'.lt
      by_cases h2 : cmpL cmpV t.vals s.vals = 0
      · have h2b : (cmpL cmpV t.vals s.vals == 0) = true := by simpa using h2
        replace h2 := Lib.hid h2
        generalize hz2 : cmpL cmpV t.vals s.vals = z2 at *
        replace hz2 := Lib.hid hz2
        go_wp2_with fail
        refine RetV_at (compareLists_thing cmpT 31 _ _ t.parts s.parts _ (hp.mono mono_ThingR hb.ple) (hp'.mono mono_ThingR hb.ple) (fun args w => enterFn Tryz.func31 rfl rfl args w) (fun w' hw' x hx y hy cs ds h1 h2 => HI.out x hx y cs ds w' h1 h2)) ?_
        intro w3 hb3
        have hfin : Hid (cmpL cmpT t.parts s.parts = cmpT t s) := by
          show _ = _
          rw [hE.out, thenI, if_pos h1.out, thenI, if_pos h2.out]
        rw [hfin.out]
        generalize cmpT t s = z at *
        go_wp2_with fail
        go_ret
        exact ⟨rfl, (by with_reducible repeat (first | assumption | exact Ext.rfl' _ | exact Ext.new _ _ | refine Ext.alloc' ?_ _ | refine Ext.drew' ?_ | refine Ext.drewN' ?_ _ | (refine Ext.set' ?_ ?_ _; rotate_left; focus (first | omega | (simp; done) | (simp; omega))) | (refine Ext.then (b := ?_) ?_ ?_; rotate_left; rotate_left; assumption)))⟩
      · have h2b : (cmpL cmpV t.vals s.vals == 0) = false := by simpa using h2
        have hfin : Hid (cmpL cmpV t.vals s.vals = cmpT t s) := by
          show _ = _
          rw [hE.out, thenI, if_pos h1.out, thenI, if_neg h2]
        replace h2 := Lib.hid h2
        generalize cmpL cmpV t.vals s.vals = z2 at *
        go_wp2_with fail
        go_ret
        exact ⟨ret_int hfin.out, (by with_reducible repeat (first | assumption | exact Ext.rfl' _ | exact Ext.new _ _ | refine Ext.alloc' ?_ _ | refine Ext.drew' ?_ | refine Ext.drewN' ?_ _ | (refine Ext.set' ?_ ?_ _; rotate_left; focus (first | omega | (simp; done) | (simp; omega))) | (refine Ext.then (b := ?_) ?_ ?_; rotate_left; rotate_left; assumption)))⟩
    · have h1b : (cmpL cmpI t.cls s.cls == 0) = false := by simpa using h1
      have hfin : Hid (cmpL cmpI t.cls s.cls = cmpT t s) := by
        show _ = _
        rw [hE.out, thenI, if_neg h1]
      replace h1 := Lib.hid h1
      generalize cmpL cmpI t.cls s.cls = z1 at *
      go_wp2_with fail
      go_ret
      exact ⟨ret_int hfin.out, (by with_reducible repeat (first | assumption | exact Ext.rfl' _ | exact Ext.new _ _ | refine Ext.alloc' ?_ _ | refine Ext.drew' ?_ | refine Ext.drewN' ?_ _ | (refine Ext.set' ?_ ?_ _; rotate_left; focus (first | omega | (simp; done) | (simp; omega))) | (refine Ext.then (b := ?_) ?_ ?_; rotate_left; rotate_left; assumption)))⟩
end Go.Proofs.YtnhcplmcddlgnaaGreat
