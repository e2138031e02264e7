/- The order of things, as plain data; the encoding is injective. -/
import Derived.Test.YtebhdjeognpljaaEncode
namespace Go.Proofs.Ytebhdjeognpljaa
set_option linter.unusedSimpArgs false
set_option linter.unusedVariables false
def cmpI (a b : Int) : Int := if a < b then -1 else if b < a then 1 else 0
def cmpL {α : Type} (f : α → α → Int) : List α → List α → Int
  | [], [] => 0
  | [], _ :: _ => -1
  | _ :: _, [] => 1
  | x :: xs, y :: ys => if f x y = 0 then cmpL f xs ys else f x y
def thenI (a b : Int) : Int := if a = 0 then b else a
def cmpV (x y : Val) : Int := cmpL cmpI [x.attr, x.n.num, x.n.den] [y.attr, y.n.num, y.n.den]
mutual
def cmpT : Thing → Thing → Int
  | .mk c v p, .mk c' v' p' => thenI (cmpL cmpI c c') (thenI (cmpL cmpV v v') (cmpTs p p'))
def cmpTs : List Thing → List Thing → Int
  | [], [] => 0
  | [], _ :: _ => -1
  | _ :: _, [] => 1
  | x :: xs, y :: ys => if cmpT x y = 0 then cmpTs xs ys else cmpT x y
end
theorem cmpTs_eq : ∀ xs ys : List Thing, cmpTs xs ys = cmpL cmpT xs ys
  | [], [] => rfl
  | [], _ :: _ => rfl
  | _ :: _, [] => rfl
  | x :: xs, y :: ys => by simp [cmpTs, cmpL, cmpTs_eq xs ys]
theorem cmpT_eq (t s : Thing) : cmpT t s = thenI (cmpL cmpI t.cls s.cls) (thenI (cmpL cmpV t.vals s.vals) (cmpL cmpT t.parts s.parts)) := by
  cases t; cases s; simp only [cmpT, cmpTs_eq, Thing.cls, Thing.vals, Thing.parts]
/-- a good order, at x -/
structure Ord {α : Type} (f : α → α → Int) (x : α) : Prop where
  rng : ∀ y, f x y = -1 ∨ f x y = 0 ∨ f x y = 1
  opp : ∀ y, f y x = - f x y
  eq : ∀ y, f x y = 0 ↔ x = y
  tr : ∀ y z, f x y ≤ 0 → f y z ≤ 0 → f x z ≤ 0
theorem cmpI_ord (x : Int) : Ord cmpI x := by
  constructor <;> intros <;> unfold cmpI at * <;> (repeat' split) <;> (try split at *) <;> (try split at *) <;> omega
theorem cmpL_ord {α : Type} {f : α → α → Int} : ∀ {xs : List α}, (∀ x ∈ xs, Ord f x) → Ord (cmpL f) xs
  | [], _ => by
    constructor
    · intro y; cases y <;> simp [cmpL]
    · intro y; cases y <;> simp [cmpL]
    · intro y; cases y <;> simp [cmpL]
    · intro y z h1 h2
      cases y <;> cases z <;> simp [cmpL] at *
  | x :: xs, h => by
    have hx := h x (by simp)
    have ih := cmpL_ord (xs := xs) fun y hy => h y (by simp [hy])
    constructor
    · intro y
      cases y with
      | nil => simp [cmpL]
      | cons y ys =>
        simp only [cmpL]
        split
        · exact ih.rng ys
        · exact hx.rng y
    · intro y
      cases y with
      | nil => simp [cmpL]
      | cons y ys =>
        have h1 := hx.opp y
        simp only [cmpL]
        by_cases h2 : f x y = 0
        · rw [if_pos h2, if_pos (by omega)]; exact ih.opp ys
        · rw [if_neg h2, if_neg (by omega)]; exact h1
    · intro y
      cases y with
      | nil => simp [cmpL]
      | cons y ys =>
        simp only [cmpL]
        by_cases h2 : f x y = 0
        · rw [if_pos h2, ih.eq ys, (hx.eq y).1 h2]; simp
        · rw [if_neg h2]
          constructor
          · intro h3; exact absurd h3 h2
          · intro h3; cases h3; exact absurd ((hx.eq x).2 rfl) h2
    · intro y z h1 h2
      cases y with
      | nil => simp [cmpL] at h1
      | cons y ys =>
        cases z with
        | nil => simp [cmpL] at h2
        | cons z zs =>
          simp only [cmpL] at *
          by_cases h3 : f x y = 0
          · obtain rfl := (hx.eq y).1 h3
            rw [if_pos h3] at h1
            by_cases h4 : f x z = 0
            · rw [if_pos h4] at h2 ⊢
              exact ih.tr ys zs h1 h2
            · rw [if_neg h4] at h2 ⊢; exact h2
          · rw [if_neg h3] at h1
            have h5 : f y z ≤ 0 := by
              by_cases h4 : f y z = 0
              · omega
              · rw [if_neg h4] at h2; exact h2
            have h6 := hx.tr y z h1 h5
            by_cases h7 : f x z = 0
            · obtain rfl := (hx.eq z).1 h7
              have := hx.opp y
              omega
            · rw [if_neg h7]; exact h6
theorem cmpV_ord (x : Val) : Ord cmpV x := by
  have h := cmpL_ord (f := cmpI) (xs := [x.attr, x.n.num, x.n.den]) fun y _ => cmpI_ord y
  refine ⟨fun y => h.rng _, fun y => h.opp _, fun y => ?_, fun y z => h.tr _ _⟩
  have := h.eq [y.attr, y.n.num, y.n.den]
  unfold cmpV
  rw [this]
  obtain ⟨a, b, c⟩ := x
  obtain ⟨a', b', c'⟩ := y
  simp
theorem thenI_ord {α β : Type} {f : α → α → Int} {g : β → β → Int} {x : α} {y : β} (hf : Ord f x) (hg : Ord g y) : Ord (fun (p q : α × β) => thenI (f p.1 q.1) (g p.2 q.2)) (x, y) := by
  constructor
  · rintro ⟨a, b⟩
    simp only [thenI]; split
    · exact hg.rng b
    · exact hf.rng a
  · rintro ⟨a, b⟩
    have h1 := hf.opp a
    simp only [thenI]
    by_cases h2 : f x a = 0
    · rw [if_pos h2, if_pos (by omega)]; exact hg.opp b
    · rw [if_neg h2, if_neg (by omega)]; exact h1
  · rintro ⟨a, b⟩
    simp only [thenI, Prod.mk.injEq]
    by_cases h2 : f x a = 0
    · rw [if_pos h2, hg.eq b]; simp [(hf.eq a).1 h2]
    · rw [if_neg h2]
      constructor
      · intro h3; exact absurd h3 h2
      · rintro ⟨rfl, _⟩; exact absurd ((hf.eq x).2 rfl) h2
  · rintro ⟨a, b⟩ ⟨c, d⟩ h1 h2
    simp only [thenI] at *
    by_cases h3 : f x a = 0
    · obtain rfl := (hf.eq a).1 h3
      rw [if_pos h3] at h1
      by_cases h4 : f x c = 0
      · rw [if_pos h4] at h2 ⊢; exact hg.tr b d h1 h2
      · rw [if_neg h4] at h2 ⊢; exact h2
    · rw [if_neg h3] at h1
      have h5 : f a c ≤ 0 := by
        by_cases h4 : f a c = 0
        · omega
        · rw [if_neg h4] at h2; exact h2
      have h6 := hf.tr a c h1 h5
      by_cases h7 : f x c = 0
      · obtain rfl := (hf.eq c).1 h7
        have := hf.opp a
        omega
      · rw [if_neg h7]; exact h6
theorem cmpT_ord (t : Thing) : Ord cmpT t := by
  induction t using Thing.ind with
  | h t ih =>
    have h := thenI_ord (cmpL_ord (f := cmpI) (xs := t.cls) fun y _ => cmpI_ord y) (thenI_ord (cmpL_ord (f := cmpV) (xs := t.vals) fun y _ => cmpV_ord y) (cmpL_ord (xs := t.parts) ih))
    have e : ∀ s u : Thing, cmpT s u = thenI (cmpL cmpI s.cls u.cls) (thenI (cmpL cmpV s.vals u.vals) (cmpL cmpT s.parts u.parts)) := cmpT_eq
    refine ⟨fun s => by rw [e]; exact h.rng (s.cls, s.vals, s.parts), fun s => by rw [e, e]; exact h.opp (s.cls, s.vals, s.parts), fun s => ?_, fun s u h1 h2 => ?_⟩
    · rw [e]
      have := h.eq (s.cls, s.vals, s.parts)
      rw [this]
      cases t; cases s
      simp [Thing.cls, Thing.vals, Thing.parts]
    · rw [e] at h1 h2 ⊢
      exact h.tr (s.cls, s.vals, s.parts) (u.cls, u.vals, u.parts) h1 h2
theorem uvar_pre : ∀ (n m : Nat) (r r' : List UInt8), uvar n ++ r = uvar m ++ r' → n = m ∧ r = r' := by
  intro n
  induction n using Nat.strongRecOn with
  | ind n ih =>
    intro m r r' h
    have hb : ∀ k : Nat, k < 256 → (k.toUInt8).toNat = k := fun k hk => by simp [Nat.toUInt8]; omega
    by_cases hn : n < 128
    · rw [uvar_small hn] at h
      by_cases hm : m < 128
      · rw [uvar_small hm] at h
        simp only [List.cons_append, List.nil_append, List.cons.injEq] at h
        have := congrArg UInt8.toNat h.1
        rw [hb n (by omega), hb m (by omega)] at this
        exact ⟨this, h.2⟩
      · rw [uvar_big hm] at h
        simp only [List.cons_append, List.nil_append, List.cons.injEq] at h
        have := congrArg UInt8.toNat h.1
        rw [hb n (by omega), hb _ (by omega)] at this
        omega
    · rw [uvar_big hn] at h
      by_cases hm : m < 128
      · rw [uvar_small hm] at h
        simp only [List.cons_append, List.nil_append, List.cons.injEq] at h
        have := congrArg UInt8.toNat h.1
        rw [hb m (by omega), hb _ (by omega)] at this
        omega
      · rw [uvar_big hm] at h
        simp only [List.cons_append, List.cons.injEq] at h
        have h1 := congrArg UInt8.toNat h.1
        rw [hb _ (by omega), hb _ (by omega)] at h1
        obtain ⟨h2, h3⟩ := ih (n / 128) (by omega) (m / 128) r r' h.2
        exact ⟨by omega, h3⟩
theorem encI_pre {n m : Int} (hn : I64 n) (hm : I64 m) {r r' : List UInt8} (h : encI n ++ r = encI m ++ r') : n = m ∧ r = r' := by
  obtain ⟨h1, h2⟩ := uvar_pre _ _ _ _ h
  refine ⟨?_, h2⟩
  unfold I64 at *
  simp only [zig, Lib.zigzag] at h1
  split at h1 <;> split at h1 <;> omega
theorem encL_pre : ∀ {l m : List Int}, l.length = m.length → (∀ x ∈ l, I64 x) → (∀ x ∈ m, I64 x) → ∀ {r r' : List UInt8}, encL l ++ r = encL m ++ r' → l = m ∧ r = r'
  | [], [], _, _, _, r, r', h => ⟨rfl, h⟩
  | x :: l, y :: m, hl, h1, h2, r, r', h => by
    simp only [encL, List.flatMap_cons, List.append_assoc] at h
    obtain ⟨rfl, h3⟩ := encI_pre (h1 x (by simp)) (h2 y (by simp)) h
    obtain ⟨rfl, h4⟩ := encL_pre (by simpa using hl) (fun z hz => h1 z (by simp [hz])) (fun z hz => h2 z (by simp [hz])) h3
    exact ⟨rfl, h4⟩
theorem encInts_pre {l m : List Int} (h1 : ∀ x ∈ l, I64 x) (h2 : ∀ x ∈ m, I64 x) {r r' : List UInt8} (h : encInts l ++ r = encInts m ++ r') : l = m ∧ r = r' := by
  simp only [encInts, List.append_assoc] at h
  obtain ⟨h3, h4⟩ := uvar_pre _ _ _ _ h
  exact encL_pre h3 h1 h2 h4
def VOk (v : Val) : Prop := I64 v.attr ∧ I64 v.n.num ∧ I64 v.n.den
theorem encV_pre {v u : Val} (hv : VOk v) (hu : VOk u) {r r' : List UInt8} (h : encV v ++ r = encV u ++ r') : v = u ∧ r = r' := by
  obtain ⟨h1, h2, h3⟩ := hv
  obtain ⟨k1, k2, k3⟩ := hu
  obtain ⟨h4, h5⟩ := encL_pre (l := [v.attr, v.n.num, v.n.den]) (m := [u.attr, u.n.num, u.n.den]) rfl (by simp [*]) (by simp [*]) h
  obtain ⟨a, b, c⟩ := v
  obtain ⟨a', b', c'⟩ := u
  simp at h4
  obtain ⟨rfl, rfl, rfl⟩ := h4
  exact ⟨rfl, h5⟩
theorem encVs_pre : ∀ {l m : List Val}, l.length = m.length → (∀ x ∈ l, VOk x) → (∀ x ∈ m, VOk x) → ∀ {r r' : List UInt8}, encVs l ++ r = encVs m ++ r' → l = m ∧ r = r'
  | [], [], _, _, _, r, r', h => ⟨rfl, h⟩
  | x :: l, y :: m, hl, h1, h2, r, r', h => by
    simp only [encVs, List.flatMap_cons, List.append_assoc] at h
    obtain ⟨rfl, h3⟩ := encV_pre (h1 x (by simp)) (h2 y (by simp)) h
    obtain ⟨rfl, h4⟩ := encVs_pre (by simpa using hl) (fun z hz => h1 z (by simp [hz])) (fun z hz => h2 z (by simp [hz])) h3
    exact ⟨rfl, h4⟩
mutual
/-- all numbers of a thing fit, and so do its lengths -/
def Thing.ok : Thing → Prop
  | .mk c v p => (∀ x ∈ c, I64 x) ∧ (∀ x ∈ v, VOk x) ∧ I64 v.length ∧ I64 p.length ∧ oks p
def oks : List Thing → Prop
  | [] => True
  | x :: xs => x.ok ∧ oks xs
end
theorem oks_iff : ∀ {l : List Thing}, oks l ↔ ∀ p ∈ l, p.ok
  | [] => by simp [oks]
  | x :: xs => by simp [oks, oks_iff]
theorem Thing.ok_iff (t : Thing) : t.ok ↔ (∀ x ∈ t.cls, I64 x) ∧ (∀ x ∈ t.vals, VOk x) ∧ I64 t.vals.length ∧ I64 t.parts.length ∧ ∀ p ∈ t.parts, p.ok := by
  cases t; simp only [Thing.ok, Thing.cls, Thing.vals, Thing.parts, oks_iff]
theorem ThingR.ok {t : Thing} : ∀ {H : PH} {cs : List Value}, ThingR H cs t → t.ok := by
  induction t using Thing.ind with
  | h t ih =>
    intro H cs hr
    obtain ⟨a1, c1, a2, c2, a3, c3, rfl, l1, l2, l3, hc, hv, hp⟩ := hr.form
    rw [Thing.ok_iff]
    refine ⟨IntsR.all hc, fun x hx => ?_, i64_nat l2, i64_nat l3, fun p hpm => ?_⟩
    · obtain ⟨cs, h⟩ := SliceRep.all hv x hx
      exact h.2
    · obtain ⟨cs, h⟩ := SliceRep.all hp p hpm
      exact ih p hpm h
theorem encTs_pre : ∀ {l m : List Thing}, l.length = m.length → (∀ x ∈ l, ∀ y, y.ok → ∀ r r', enc x ++ r = enc y ++ r' → x = y ∧ r = r') → (∀ x ∈ m, x.ok) → ∀ {r r' : List UInt8}, encTs l ++ r = encTs m ++ r' → l = m ∧ r = r'
  | [], [], _, _, _, r, r', h => ⟨rfl, h⟩
  | x :: l, y :: m, hl, h1, h2, r, r', h => by
    simp only [encTs, List.append_assoc] at h
    obtain ⟨rfl, h3⟩ := h1 x (by simp) y (h2 y (by simp)) _ _ h
    obtain ⟨rfl, h4⟩ := encTs_pre (by simpa using hl) (fun z hz => h1 z (by simp [hz])) (fun z hz => h2 z (by simp [hz])) h3
    exact ⟨rfl, h4⟩
theorem enc_pre (t : Thing) : t.ok → ∀ s : Thing, s.ok → ∀ r r' : List UInt8, enc t ++ r = enc s ++ r' → t = s ∧ r = r' := by
  induction t using Thing.ind with
  | h t ih =>
    intro ht s hs r r' h
    rw [Thing.ok_iff] at ht hs
    obtain ⟨t1, t2, t3, t4, t5⟩ := ht
    obtain ⟨s1, s2, s3, s4, s5⟩ := hs
    rw [enc_eq, enc_eq] at h
    simp only [List.append_assoc] at h
    obtain ⟨e1, h⟩ := encInts_pre t1 s1 h
    obtain ⟨e2, h⟩ := encI_pre t3 s3 h
    obtain ⟨e3, h⟩ := encVs_pre (by omega) t2 s2 h
    obtain ⟨e4, h⟩ := encI_pre t4 s4 h
    obtain ⟨e5, h⟩ := encTs_pre (by omega) (fun x hx => ih x hx (t5 x hx)) s5 h
    refine ⟨?_, h⟩
    cases t; cases s
    simp only [Thing.cls, Thing.vals, Thing.parts] at e1 e3 e5
    subst e1 e3 e5; rfl
theorem enc_inj {t s : Thing} (ht : t.ok) (hs : s.ok) : enc t = enc s ↔ t = s :=
  ⟨fun h => (enc_pre t ht s hs [] [] (by simpa using h)).1, fun h => by rw [h]⟩
end Go.Proofs.Ytebhdjeognpljaa
