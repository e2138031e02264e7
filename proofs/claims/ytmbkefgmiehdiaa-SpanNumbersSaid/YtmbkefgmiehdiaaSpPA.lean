/- the simplest number: plain laws.; the number that Pick returns: the simplest one of the set.; the reference's Pick: plain law. -/
import Derived.Test.YtmbkefgmiehdiaaSpHA
namespace Go.Proofs.Ytmbkefgmiehdiaa
set_option linter.unusedVariables false
set_option linter.unusedSimpArgs false
theorem simp_min {f : Nat} : ∀ {a b c d : Int}, SimpP f a b c d → (a * (simpF f a b c d).2 < (simpF f a b c d).1 * b ∧ (simpF f a b c d).1 * d < c * (simpF f a b c d).2) ∧ ∀ n m : Int, 1 ≤ m → a * m < n * b → n * d < c * m → (simpF f a b c d).1 ≤ n ∧ (simpF f a b c d).2 ≤ m := by
  induction f with
  | zero => intro a b c d h; have := h.fu; have := h.b0; have := h.d0; omega
  | succ f ih =>
    intro a b c d h
    obtain ⟨e1, e2, e3, e4, e5, e6⟩ := h.q
    have hb0 := h.b0; have hd0 := h.d0; have hc0 := h.c0
    have key : ∀ n m : Int, 1 ≤ m → a * m < n * b → a / b * m < n := fun n m hm h1 => by
      have h2 : a / b * b * m ≤ a * m := Int.mul_le_mul_of_nonneg_right e3 (by omega)
      have h3 : a / b * m * b < n * b := by rw [Int.mul_right_comm]; omega
      exact Int.lt_of_mul_lt_mul_right h3 (by omega)
    by_cases h0 : d = 0 ∨ (a / b + 1) * d < c
    · rw [show simpF (f + 1) a b c d = (a / b + 1, 1) by rw [simpF, if_pos h0]]
      refine ⟨⟨by dsimp only; omega, ?_⟩, fun n m hm h1 h2 => ⟨?_, hm⟩⟩
      · dsimp only
        rcases h0 with h0 | h0
        · subst h0; omega
        · omega
      · have h3 := key n m hm h1
        have h4 : a / b * 1 ≤ a / b * m := Int.mul_le_mul_of_nonneg_left hm e1
        dsimp only; omega
    · have hn := h.next h0
      obtain ⟨⟨i1, i2⟩, i3⟩ := ih hn
      rw [show simpF (f + 1) a b c d = _ by rw [simpF, if_neg h0]]
      generalize simpF f d (c - a / b * d) b (a - a / b * b) = r at *
      obtain ⟨p, q⟩ := r
      generalize a / b = k at *
      dsimp only at *
      have x1 : p * (c - k * d) = c * p - k * p * d := by rw [Int.mul_sub, Int.mul_comm p c, ← Int.mul_assoc, Int.mul_comm p k]
      have x2 : p * (a - k * b) = a * p - k * p * b := by rw [Int.mul_sub, Int.mul_comm p a, ← Int.mul_assoc, Int.mul_comm p k]
      rw [x1] at i1
      rw [x2] at i2
      refine ⟨⟨?_, ?_⟩, fun n m hm h1 h2 => ?_⟩
      · rw [Int.add_mul, Int.mul_comm q b]; omega
      · rw [Int.add_mul, Int.mul_comm q d]; omega
      · have h3 := key n m hm h1
        obtain ⟨j1, j2⟩ := i3 m (n - k * m) (by omega) (by
          rw [Int.mul_sub, Int.mul_sub, Int.mul_comm d n, Int.mul_comm m c, ← Int.mul_assoc m k d, Int.mul_comm d (k * m), Int.mul_comm m k]; omega) (by
          rw [Int.mul_sub, Int.mul_sub, Int.mul_comm b n, Int.mul_comm m a, ← Int.mul_assoc m k b, Int.mul_comm b (k * m), Int.mul_comm m k]; omega)
        refine ⟨?_, j1⟩
        have := Int.mul_le_mul_of_nonneg_left j1 e1
        omega
/-- the order of simplicity -/
def simplerB (a b : Rat2) : Bool := if a.den ≠ b.den then decide (a.den < b.den) else if a.num.natAbs ≠ b.num.natAbs then decide (a.num.natAbs < b.num.natAbs) else decide (b.num < a.num)
theorem simpler_iff {a b : Rat2} : simplerB a b = true ↔ a.den < b.den ∨ (a.den = b.den ∧ (a.num.natAbs < b.num.natAbs ∨ (a.num.natAbs = b.num.natAbs ∧ b.num < a.num))) := by
  unfold simplerB
  split
  · rw [decide_eq_true_iff]; omega
  · split
    · rw [decide_eq_true_iff]; omega
    · rw [decide_eq_true_iff]; omega
theorem simpler_not {a b : Rat2} : simplerB a b = false ↔ ¬ (a.den < b.den ∨ (a.den = b.den ∧ (a.num.natAbs < b.num.natAbs ∨ (a.num.natAbs = b.num.natAbs ∧ b.num < a.num)))) := by
  rw [← simpler_iff, Bool.not_eq_true]
theorem simpler_self (a : Rat2) : simplerB a a = false := by rw [simpler_not]; omega
theorem simpler_le {s c b : Rat2} (h1 : simplerB s c = false) (h2 : simplerB c b = false) : simplerB s b = false := by
  rw [simpler_not] at *; omega
theorem simpler_eq {a b : Rat2} (h1 : simplerB a b = false) (h2 : simplerB b a = false) : a = b := by
  rw [simpler_not] at *
  obtain ⟨n, d⟩ := a
  obtain ⟨n', d'⟩ := b
  dsimp only at *
  have : n = n' := by omega
  have : d = d' := by omega
  subst_vars; rfl
/-- what one more number makes of the best one -/
def noteF (b : Option Rat2) (r : Rat2) : Option Rat2 := match b with | none => some r | some q => if simplerB r q then some r else some q
theorem note_fold : ∀ (l : List Rat2) (b : Option Rat2), (l.foldl noteF b = none ↔ l = [] ∧ b = none) ∧ ∀ r, l.foldl noteF b = some r → (r ∈ l ∨ b = some r) ∧ (∀ c ∈ l, simplerB c r = false) ∧ ∀ q, b = some q → simplerB q r = false
  | [], b => by
    refine ⟨by simp, fun r h => ?_⟩
    have h : b = some r := h
    subst h
    exact ⟨.inr rfl, (by simp), fun q hq => by cases hq; exact simpler_self r⟩
  | c :: l, b => by
    obtain ⟨i1, i2⟩ := note_fold l (noteF b c)
    have hn : noteF b c ≠ none := by
      unfold noteF
      cases b with
      | none => simp
      | some q => dsimp only; split <;> simp
    rw [List.foldl_cons]
    refine ⟨by rw [i1]; simp [hn], fun r h => ?_⟩
    obtain ⟨j1, j2, j3⟩ := i2 r h
    have hc : simplerB c r = false ∧ (∀ q, b = some q → simplerB q r = false) ∧ (noteF b c = some r → r = c ∨ b = some r) := by
      unfold noteF at j3 ⊢
      cases b with
      | none =>
        exact ⟨j3 c rfl, (fun q hq => by cases hq), fun h => .inl (by cases h; rfl)⟩
      | some q =>
        dsimp only at j3 ⊢
        by_cases hs : simplerB c q = true
        · rw [if_pos hs] at j3 ⊢
          refine ⟨j3 c rfl, fun q' hq => ?_, fun h => .inl (by cases h; rfl)⟩
          cases hq
          refine simpler_le ?_ (j3 c rfl)
          rw [simpler_iff] at hs
          rw [simpler_not]; omega
        · rw [if_neg hs] at j3 ⊢
          rw [Bool.not_eq_true] at hs
          exact ⟨simpler_le hs (j3 q rfl), fun q' hq => by cases hq; exact j3 q rfl, fun h => .inr h⟩
    refine ⟨?_, ?_, hc.2.1⟩
    · rcases j1 with h | h
      · exact .inl (List.mem_cons_of_mem _ h)
      · rcases hc.2.2 h with rfl | h
        · exact .inl List.mem_cons_self
        · exact .inr h
    · intro x hx
      rcases List.mem_cons.1 hx with rfl | hx
      · exact hc.1
      · exact j2 x hx
theorem simp_gcd {f : Nat} {a b c d : Int} (h : SimpP f a b c d) : Int.gcd (simpF f a b c d).1 (simpF f a b c d).2 = 1 := by
  obtain ⟨⟨h1, h2⟩, h3⟩ := simp_min h
  obtain ⟨b1, -, b2, -⟩ := simp_bd h
  generalize simpF f a b c d = r at *
  obtain ⟨p, q⟩ := r
  dsimp only at *
  have hg : 1 ≤ (Int.gcd p q : Int) := by
    have : 0 < Int.gcd p q := Int.gcd_pos_of_ne_zero_right p (by omega)
    omega
  have e1 : p / (Int.gcd p q : Int) * (Int.gcd p q : Int) = p := Int.ediv_mul_cancel (Int.gcd_dvd_left ..)
  have e2 : q / (Int.gcd p q : Int) * (Int.gcd p q : Int) = q := Int.ediv_mul_cancel (Int.gcd_dvd_right ..)
  have hgg : (Int.gcd p q : Int) = 1 → Int.gcd p q = 1 := by omega
  apply hgg
  clear hgg
  generalize (Int.gcd p q : Int) = g at *
  generalize p / g = x at *
  generalize q / g = y at *
  have hx : 1 ≤ x := by
    rcases Int.lt_or_le x 1 with h | h
    · have : x * g ≤ 0 := Int.mul_nonpos_of_nonpos_of_nonneg (by omega) (by omega)
      omega
    · exact h
  have hy : 1 ≤ y := by
    rcases Int.lt_or_le y 1 with h | h
    · have : y * g ≤ 0 := Int.mul_nonpos_of_nonpos_of_nonneg (by omega) (by omega)
      omega
    · exact h
  have m1 : a * y < x * b := by
    have : a * y * g < x * b * g := by rw [Int.mul_assoc, e2, Int.mul_right_comm, e1]; exact h1
    exact Int.lt_of_mul_lt_mul_right this (by omega)
  have m2 : x * d < c * y := by
    have : x * d * g < c * y * g := by rw [Int.mul_right_comm, e1, Int.mul_assoc, e2]; exact h2
    exact Int.lt_of_mul_lt_mul_right this (by omega)
  have h4 := (h3 x y hy m1 m2).1
  rcases Int.lt_or_le 1 g with hlt | hle
  · have : x * 2 ≤ x * g := Int.mul_le_mul_of_nonneg_left (by omega) (by omega)
    omega
  · omega
theorem newS_ratio {p q : Int} (h : RatOk ⟨p, q⟩) : newS p q = (⟨p, q⟩, 0) := by
  have := (newS_ok ⟨p, q⟩ h.1).2 h
  exact Prod.ext this.2 this.1
def RatB (r : Rat2) : Prop := RatOk r ∧ r.num.natAbs ≤ 2147483648 ∧ r.den ≤ 32768
/-- the number that Between finds is the simplest one -/
theorem betw_spec {lo hi : Rat2} (h1 : RatB lo) (h2 : RatB hi) (h : lo.num * hi.den < hi.num * lo.den) : ∃ r, betwS lo hi = (r, 0) ∧ RatOk r ∧ r.den ≤ 65536 ∧ lo.num * r.den < r.num * lo.den ∧ r.num * hi.den < hi.num * r.den ∧ ∀ s, RatOk s → lo.num * s.den < s.num * lo.den → s.num * hi.den < hi.num * s.den → simplerB s r = false := by
  have hv : validE [lo, hi] = 0 := by rw [validE_2, if_pos ⟨h1.1, h2.1⟩]
  have hc : cmpR lo hi = -1 := by unfold cmpR; rw [if_pos h]
  obtain ⟨a1, a2, a3, a4, -⟩ := ratOk_iff.1 h1.1
  obtain ⟨b1, b2, b3, b4, -⟩ := ratOk_iff.1 h2.1
  obtain ⟨o1, k1, k2⟩ := h1
  obtain ⟨o2, k3, k4⟩ := h2
  unfold betwS
  rw [if_neg (by rw [hv]; simp), hc, if_neg (by omega)]
  by_cases hz : lo.num < 0 ∧ 0 < hi.num
  · rw [if_pos hz]
    refine ⟨⟨0, 1⟩, rfl, by decide, by decide, by dsimp only; omega, by dsimp only; omega, fun s hs _ _ => ?_⟩
    obtain ⟨s1, -⟩ := ratOk_iff.1 hs
    rw [simpler_not]; dsimp only; omega
  · rw [if_neg hz]
    by_cases hn : lo.num < 0
    · rw [if_pos hn]
      have hp := simpS_neg o1 o2 h hn (by omega)
      have hg := simp_gcd hp
      obtain ⟨⟨m1, m2⟩, m3⟩ := simp_min hp
      obtain ⟨q1, q2, q3, q4⟩ := simp_bd hp
      unfold simpS
      generalize simpF _ _ _ _ _ = r at *
      obtain ⟨p, q⟩ := r
      dsimp only at *
      have hok : RatOk ⟨-p, q⟩ := ratOk_iff.2 ⟨by dsimp only; omega, by dsimp only; omega, by dsimp only; omega, by dsimp only; omega, by dsimp only; rw [Int.neg_gcd]; exact hg⟩
      refine ⟨⟨-p, q⟩, newS_ratio hok, hok, by dsimp only; omega, ?_, ?_, fun s hs hs1 hs2 => ?_⟩
      · dsimp only; rw [Int.neg_mul] at *; omega
      · dsimp only; rw [Int.neg_mul] at *; omega
      · obtain ⟨s1, -⟩ := ratOk_iff.1 hs
        obtain ⟨t1, t2⟩ := m3 (-s.num) s.den s1 (by rw [Int.neg_mul, Int.neg_mul]; omega) (by rw [Int.neg_mul, Int.neg_mul]; omega)
        rw [simpler_not]; dsimp only; omega
    · rw [if_neg hn]
      have hp := simpS_pos o1 o2 h (by omega)
      have hg := simp_gcd hp
      obtain ⟨⟨m1, m2⟩, m3⟩ := simp_min hp
      obtain ⟨q1, q2, q3, q4⟩ := simp_bd hp
      unfold simpS
      generalize simpF _ _ _ _ _ = r at *
      obtain ⟨p, q⟩ := r
      dsimp only at *
      have hok : RatOk ⟨p, q⟩ := ratOk_iff.2 ⟨by dsimp only; omega, by dsimp only; omega, by dsimp only; omega, by dsimp only; omega, hg⟩
      refine ⟨⟨p, q⟩, newS_ratio hok, hok, by dsimp only; omega, m1, m2, fun s hs hs1 hs2 => ?_⟩
      obtain ⟨s1, -⟩ := ratOk_iff.1 hs
      obtain ⟨t1, t2⟩ := m3 s.num s.den s1 hs1 hs2
      rw [simpler_not]; dsimp only; omega
end Go.Proofs.Ytmbkefgmiehdiaa
namespace Go.Proofs.Ytmbkefgmiehdiaa
set_option linter.unusedVariables false
set_option linter.unusedSimpArgs false
def loB (x : Itv) : Rat2 := if x.loI then ⟨-2147483648, 1⟩ else x.lo
def hiB (x : Itv) : Rat2 := if x.hiI then ⟨2147483648, 1⟩ else x.hi
def cands (x : Itv) : List Rat2 := (if !x.loI && !x.loO then [x.lo] else []) ++ (if !x.hiI && !x.hiO then [x.hi] else []) ++ (if (betwS (loB x) (hiB x)).2 = 0 then [(betwS (loB x) (hiB x)).1] else [])
def pickF (l : List Itv) : Option Rat2 := (l.flatMap cands).foldl noteF none
theorem smallB_B {r : Rat2} (h : smallB r = true) : RatB r := by
  obtain ⟨h1, h2, h3⟩ := smallB_iff.1 h
  exact ⟨h1, by omega, h3⟩
theorem loB_B {x : Itv} (h : goodB x = true) : RatB (loB x) := by
  unfold loB
  split
  · exact ⟨by decide, by decide, by decide⟩
  · rename_i h1
    exact smallB_B (goodB.smlo h (by simpa using h1))
theorem hiB_B {x : Itv} (h : goodB x = true) : RatB (hiB x) := by
  unfold hiB
  split
  · exact ⟨by decide, by decide, by decide⟩
  · rename_i h1
    exact smallB_B (goodB.smhi h (by simpa using h1))
theorem has_iff {x : Itv} {r : Rat2} (hr : RatOk r) (hx : goodB x = true) : hasB x r = true ↔ (x.loI = true ∨ x.lo.num * r.den < r.num * x.lo.den ∨ (r = x.lo ∧ x.loO = false)) ∧ (x.hiI = true ∨ r.num * x.hi.den < x.hi.num * r.den ∨ (r = x.hi ∧ x.hiO = false)) := by
  rw [hasB_eq x r hr.ok hx]
  have h1 : ∀ p : Rat2, p.ok → (lessR r p = true ∨ p.num * r.den < r.num * p.den ∨ r = p) ∧ (lessR r p = true → ¬ p.num * r.den < r.num * p.den ∧ r ≠ p) ∧ (r = p → ¬ p.num * r.den < r.num * p.den) := fun p hp => by
    unfold lessR
    refine ⟨?_, ?_, ?_⟩
    · rcases Int.lt_trichotomy (r.num * p.den) (p.num * r.den) with h | h | h
      · exact .inl (decide_eq_true h)
      · exact .inr (.inr (Rat2.same hr.ok hp h))
      · exact .inr (.inl h)
    · intro h
      have := of_decide_eq_true h
      exact ⟨by omega, fun e => by subst e; omega⟩
    · rintro rfl; omega
  have h2 : ∀ p : Rat2, p.ok → (lessR p r = true ∨ r.num * p.den < p.num * r.den ∨ r = p) ∧ (lessR p r = true → ¬ r.num * p.den < p.num * r.den ∧ r ≠ p) ∧ (r = p → ¬ r.num * p.den < p.num * r.den) := fun p hp => by
    unfold lessR
    refine ⟨?_, ?_, ?_⟩
    · rcases Int.lt_trichotomy (p.num * r.den) (r.num * p.den) with h | h | h
      · exact .inl (decide_eq_true h)
      · exact .inr (.inr (Rat2.same hr.ok hp h.symm))
      · exact .inr (.inl h)
    · intro h
      have := of_decide_eq_true h
      exact ⟨by omega, fun e => by subst e; omega⟩
    · rintro rfl; omega
  rw [Bool.and_eq_true]
  refine and_congr ?_ ?_
  · cases hI : x.loI with
    | true => simp
    | false =>
      obtain ⟨a1, a2, a3⟩ := h1 x.lo (smallB_ok (goodB.smlo hx hI))
      by_cases e1 : lessR r x.lo = true
      · obtain ⟨a4, a5⟩ := a2 e1
        simp only [e1, a5, Bool.not_false, Bool.true_and, Bool.true_or, Bool.not_true, Bool.false_eq_true, false_or, false_iff, false_and, or_false]
        exact a4
      · rw [Bool.not_eq_true] at e1
        rcases a1 with h | h | h
        · rw [e1] at h; cases h
        · have hne : r ≠ x.lo := fun e => a3 e h
          simp [e1, h, hne]
        · have := a3 h
          simp only [e1, h, decide_true, Bool.true_and, Bool.false_or, Bool.not_false]
          rw [← h]
          have e2 : lessR r r = false := by rw [← h] at e1; exact e1
          simp [e2]
  · cases hI : x.hiI with
    | true => simp
    | false =>
      obtain ⟨a1, a2, a3⟩ := h2 x.hi (smallB_ok (goodB.smhi hx hI))
      by_cases e1 : lessR x.hi r = true
      · obtain ⟨a4, a5⟩ := a2 e1
        simp only [e1, a5, Bool.not_false, Bool.true_and, Bool.true_or, Bool.not_true, Bool.false_eq_true, false_or, false_iff, false_and, or_false]
        exact a4
      · rw [Bool.not_eq_true] at e1
        rcases a1 with h | h | h
        · rw [e1] at h; cases h
        · have hne : r ≠ x.hi := fun e => a3 e h
          simp [e1, h, hne]
        · have := a3 h
          simp only [e1, h, decide_true, Bool.true_and, Bool.false_or, Bool.not_false]
          rw [← h]
          have e2 : lessR r r = false := by rw [← h] at e1; exact e1
          simp [e2]
theorem good_lt {x : Itv} (hx : goodB x = true) : (loB x).num * (hiB x).den < (hiB x).num * (loB x).den ∨ (x.loI = false ∧ x.hiI = false ∧ x.lo = x.hi ∧ x.loO = false ∧ x.hiO = false) := by
  have hl := goodB.lt hx
  unfold loB hiB
  cases h1 : x.loI with
  | true =>
    cases h2 : x.hiI with
    | true => left; simp
    | false =>
      have hb := smallB_iff.1 (goodB.smhi hx h2)
      obtain ⟨b1, b2, b3, b4, -⟩ := ratOk_iff.1 hb.1
      left; simp only [if_true, Bool.false_eq_true, if_false]; omega
  | false =>
    have ha := smallB_iff.1 (goodB.smlo hx h1)
    obtain ⟨a1, a2, a3, a4, -⟩ := ratOk_iff.1 ha.1
    cases h2 : x.hiI with
    | true => left; simp only [if_true, Bool.false_eq_true, if_false]; omega
    | false =>
      have hb := smallB_iff.1 (goodB.smhi hx h2)
      simp only [Bool.false_eq_true, if_false]
      unfold loE hiE at hl
      rw [h1, h2] at hl
      simp only [Bool.false_eq_true, if_false] at hl
      unfold lessE at hl
      simp only [ne_eq, not_true_eq_false, if_false] at hl
      split at hl
      · left; exact of_decide_eq_true hl
      · rename_i hn
        right
        have := Rat2.same (smallB_ok (goodB.smlo hx h1)) (smallB_ok (goodB.smhi hx h2)) (by omega)
        refine ⟨trivial, trivial, this, ?_⟩
        simpa using hl
theorem cands_ok {x : Itv} (hx : goodB x = true) : (∀ c ∈ cands x, RatOk c ∧ hasB x c = true ∧ c.den ≤ 65536) ∧ cands x ≠ [] ∧ ∀ s, RatOk s → hasB x s = true → ∃ c ∈ cands x, simplerB s c = false := by
  rcases good_lt hx with h | ⟨h1, h2, h3, h4, h5⟩
  · obtain ⟨r, e, hr, hd, hr1, hr2, hm⟩ := betw_spec (loB_B hx) (hiB_B hx) h
    have hrm : r ∈ cands x := by unfold cands; rw [e]; simp
    have hhas : hasB x r = true := by
      rw [has_iff hr hx]
      unfold loB at hr1
      unfold hiB at hr2
      refine ⟨?_, ?_⟩
      · cases h1 : x.loI with
        | true => simp
        | false => rw [h1] at hr1; right; left; exact hr1
      · cases h1 : x.hiI with
        | true => simp
        | false => rw [h1] at hr2; right; left; exact hr2
    refine ⟨?_, List.ne_nil_of_mem hrm, ?_⟩
    · intro c hc
      unfold cands at hc
      rw [e] at hc
      simp only [if_true, List.mem_append, List.mem_singleton] at hc
      rcases hc with (hc | hc) | rfl
      · split at hc
        · rename_i hh
          simp only [Bool.and_eq_true, Bool.not_eq_true'] at hh
          rw [List.mem_singleton.1 hc]
          have hsm := goodB.smlo hx hh.1
          have hok := (smallB_iff.1 hsm).1
          refine ⟨hok, ?_, by have := (smallB_iff.1 hsm).2.2; omega⟩
          rw [has_iff hok hx]
          refine ⟨.inr (.inr ⟨rfl, hh.2⟩), ?_⟩
          cases h2 : x.hiI with
          | true => simp
          | false =>
            right; left
            unfold loB hiB at h
            rw [hh.1, h2] at h
            exact h
        · cases hc
      · split at hc
        · rename_i hh
          simp only [Bool.and_eq_true, Bool.not_eq_true'] at hh
          rw [List.mem_singleton.1 hc]
          have hsm := goodB.smhi hx hh.1
          have hok := (smallB_iff.1 hsm).1
          refine ⟨hok, ?_, by have := (smallB_iff.1 hsm).2.2; omega⟩
          rw [has_iff hok hx]
          refine ⟨?_, .inr (.inr ⟨rfl, hh.2⟩)⟩
          cases h2 : x.loI with
          | true => simp
          | false =>
            right; left
            unfold loB hiB at h
            rw [hh.1, h2] at h
            exact h
        · cases hc
      · exact ⟨hr, hhas, hd⟩
    · intro s hs hh
      rw [has_iff hs hx] at hh
      obtain ⟨s1, s2, -⟩ := ratOk_iff.1 hs
      by_cases hlo : (loB x).num * s.den < s.num * (loB x).den
      · by_cases hhi : s.num * (hiB x).den < (hiB x).num * s.den
        · exact ⟨r, hrm, hm s hs hlo hhi⟩
        · unfold hiB at hhi
          cases h2 : x.hiI with
          | true =>
            rw [h2] at hhi
            simp only [if_true] at hhi
            refine ⟨r, hrm, ?_⟩
            have h0 : ∃ n0 : Int, RatOk ⟨n0, 1⟩ ∧ n0.natAbs ≤ 1073741825 ∧ (loB x).num * 1 < n0 * (loB x).den ∧ n0 * (hiB x).den < (hiB x).num * 1 := by
              unfold loB hiB
              rw [h2]
              cases h1 : x.loI with
              | true => exact ⟨0, by decide, by decide, by simp, by simp⟩
              | false =>
                obtain ⟨q1, q2, q3⟩ := smallB_iff.1 (goodB.smlo hx h1)
                obtain ⟨a1, a2, a3, a4, -⟩ := ratOk_iff.1 q1
                exact ⟨1073741825, by decide, by decide, by simp only [Bool.false_eq_true, if_false]; omega, by simp⟩
            obtain ⟨n0, k1, k2, k3, k4⟩ := h0
            have := hm ⟨n0, 1⟩ k1 k3 k4
            obtain ⟨r1, -⟩ := ratOk_iff.1 hr
            rw [simpler_not] at this ⊢
            dsimp only at this
            omega
          | false =>
            rw [h2] at hhi
            simp only [Bool.false_eq_true, if_false] at hhi
            rcases hh.2 with h6 | h6 | ⟨h6, h7⟩
            · rw [h2] at h6; cases h6
            · exact absurd h6 hhi
            · refine ⟨x.hi, ?_, by rw [h6]; exact simpler_self _⟩
              unfold cands
              simp [h2, h7]
      · unfold loB at hlo
        cases h2 : x.loI with
        | true =>
          rw [h2] at hlo
          simp only [if_true] at hlo
          refine ⟨r, hrm, ?_⟩
          have h0 : ∃ n0 : Int, RatOk ⟨n0, 1⟩ ∧ n0.natAbs ≤ 1073741825 ∧ (loB x).num * 1 < n0 * (loB x).den ∧ n0 * (hiB x).den < (hiB x).num * 1 := by
            unfold loB hiB
            rw [h2]
            cases h1 : x.hiI with
            | true => exact ⟨0, by decide, by decide, by simp, by simp⟩
            | false =>
              obtain ⟨q1, q2, q3⟩ := smallB_iff.1 (goodB.smhi hx h1)
              obtain ⟨a1, a2, a3, a4, -⟩ := ratOk_iff.1 q1
              exact ⟨-1073741825, by decide, by decide, by simp, by simp only [Bool.false_eq_true, if_false]; omega⟩
          obtain ⟨n0, k1, k2, k3, k4⟩ := h0
          have := hm ⟨n0, 1⟩ k1 k3 k4
          obtain ⟨r1, -⟩ := ratOk_iff.1 hr
          rw [simpler_not] at this ⊢
          dsimp only at this
          omega
        | false =>
          rw [h2] at hlo
          simp only [Bool.false_eq_true, if_false] at hlo
          rcases hh.1 with h6 | h6 | ⟨h6, h7⟩
          · rw [h2] at h6; cases h6
          · exact absurd h6 hlo
          · refine ⟨x.lo, ?_, by rw [h6]; exact simpler_self _⟩
            unfold cands
            simp [h2, h7]
  · have hsm := goodB.smlo hx h1
    have hok := (smallB_iff.1 hsm).1
    have hb : (betwS (loB x) (hiB x)).2 ≠ 0 := by
      unfold loB hiB
      rw [h1, h2]
      simp only [Bool.false_eq_true, if_false]
      rw [← h3]
      unfold betwS
      rw [if_neg (by rw [validE_2, if_pos ⟨hok, hok⟩]; simp), if_pos (by unfold cmpR; simp)]
      simp
    have hc : cands x = [x.lo, x.lo] := by
      unfold cands
      rw [if_neg hb, h1, h2, h4, h5, ← h3]
      rfl
    have hhas : hasB x x.lo = true := by
      rw [has_iff hok hx]
      exact ⟨.inr (.inr ⟨rfl, h4⟩), .inr (.inr ⟨h3, h5⟩)⟩
    rw [hc]
    refine ⟨?_, by simp, fun s hs hh => ⟨x.lo, by simp, ?_⟩⟩
    · intro c hcm
      have : c = x.lo := by simpa using hcm
      subst this
      exact ⟨hok, hhas, by have := (smallB_iff.1 hsm).2.2; omega⟩
    · rw [has_iff hs hx, h1, h2, ← h3] at hh
      have : s = x.lo := by
        rcases hh.1 with h6 | h6 | h6
        · cases h6
        · rcases hh.2 with h7 | h7 | h7
          · cases h7
          · omega
          · exact h7.1
        · exact h6.1
      rw [this]; exact simpler_self _
theorem hasL_iff {l : List Itv} {r : Rat2} (hr : RatOk r) : hasL l r = true ↔ ∃ x ∈ l, goodB x = true ∧ hasB x r = true := by
  unfold hasL
  simp [hr]
/-- what Pick returns of a set -/
theorem pick_law {l : List Itv} (hg : ∀ x ∈ l, goodB x = true) : (pickF l = none ↔ l = []) ∧ ∀ r, pickF l = some r → RatOk r ∧ hasL l r = true ∧ r.den ≤ 65536 ∧ ∀ s, hasL l s = true → simplerB s r = false := by
  obtain ⟨h1, h2⟩ := note_fold (l.flatMap cands) none
  refine ⟨?_, fun r h => ?_⟩
  · unfold pickF
    rw [h1]
    constructor
    · rintro ⟨h, -⟩
      cases l with
      | nil => rfl
      | cons x r =>
        rw [List.flatMap_cons, List.append_eq_nil_iff] at h
        exact absurd h.1 (cands_ok (hg x List.mem_cons_self)).2.1
    · rintro rfl; exact ⟨rfl, rfl⟩
  · obtain ⟨h3, h4, -⟩ := h2 r h
    rcases h3 with h3 | h3
    · obtain ⟨x, hx, hrx⟩ := List.mem_flatMap.1 h3
      obtain ⟨c1, c2, c3⟩ := (cands_ok (hg x hx)).1 r hrx
      refine ⟨c1, (hasL_iff c1).2 ⟨x, hx, hg x hx, c2⟩, c3, fun s hs => ?_⟩
      have hok : RatOk s := by
        unfold hasL at hs
        simp only [Bool.and_eq_true, decide_eq_true_iff] at hs
        exact hs.1
      obtain ⟨y, hy, hgy, hsy⟩ := (hasL_iff hok).1 hs
      obtain ⟨c, hc, hsc⟩ := (cands_ok hgy).2.2 s hok hsy
      exact simpler_le hsc (h4 c (List.mem_flatMap.2 ⟨y, hy, hc⟩))
    · cases h3
theorem pick_uniq {l : List Itv} {r s : Rat2} (h1 : hasL l r = true ∧ ∀ q, hasL l q = true → simplerB q r = false) (h2 : hasL l s = true ∧ ∀ q, hasL l q = true → simplerB q s = false) : r = s :=
  simpler_eq (h2.2 r h1.1) (h1.2 s h2.1)
end Go.Proofs.Ytmbkefgmiehdiaa
namespace Go.Proofs.Ytmbkefgmiehdiaa
set_option linter.unusedVariables false
set_option linter.unusedSimpArgs false
theorem ofS_val {n d : Int} (h1 : 1 ≤ d) (h2 : d ≤ 1048576) (h3 : n.natAbs ≤ 1099511627776) : (ofS n d).2 = 0 ∧ RatOk (ofS n d).1 ∧ (ofS n d).1.num * d = n * (ofS n d).1.den ∧ (ofS n d).1.den ≤ d ∧ (ofS n d).1.num.natAbs ≤ n.natAbs ∧ ((ofS n d).1.den = d → (ofS n d).1.num = n) := by
  have hg1 : 1 ≤ (Int.gcd n d : Int) := by
    have : 0 < Int.gcd n d := Int.gcd_pos_of_ne_zero_right n (by omega)
    omega
  have hc : Int.gcd (n / (Int.gcd n d : Int)) (d / (Int.gcd n d : Int)) = 1 := Int.gcd_ediv_gcd_ediv_gcd (by omega)
  have hdd : (d / (Int.gcd n d : Int)) * (Int.gcd n d : Int) = d := Int.ediv_mul_cancel (Int.gcd_dvd_right ..)
  have hnn : (n / (Int.gcd n d : Int)) * (Int.gcd n d : Int) = n := Int.ediv_mul_cancel (Int.gcd_dvd_left ..)
  unfold ofS
  generalize (Int.gcd n d : Int) = g at *
  generalize n / g = x at *
  generalize d / g = y at *
  have hy1 : 1 ≤ y := by
    rcases Int.lt_or_le y 1 with h | h
    · have : y * g ≤ 0 := Int.mul_nonpos_of_nonpos_of_nonneg (by omega) (by omega)
      omega
    · exact h
  have hyd : y ≤ d := by
    have : y * 1 ≤ y * g := Int.mul_le_mul_of_nonneg_left hg1 (by omega)
    omega
  have hxn : x.natAbs ≤ n.natAbs := by
    have e : x.natAbs * g.natAbs = n.natAbs := by rw [← Int.natAbs_mul, hnn]
    have : x.natAbs * 1 ≤ x.natAbs * g.natAbs := Nat.mul_le_mul_left _ (by omega)
    omega
  rw [if_neg (by omega)]
  refine ⟨rfl, ratOk_iff.2 ⟨hy1, by dsimp only; omega, by dsimp only; omega, by dsimp only; omega, hc⟩, ?_, hyd, hxn, ?_⟩
  · dsimp only
    rw [← hdd, ← hnn, Int.mul_assoc, Int.mul_comm y g, ← Int.mul_assoc]
  · intro h
    dsimp only at h ⊢
    rcases Int.lt_or_le 1 g with h5 | h5
    · have : y * 2 ≤ y * g := Int.mul_le_mul_of_nonneg_left (by omega) (by omega)
      omega
    · have : g = 1 := by omega
      rw [this] at hnn; omega
theorem ofS_self {r : Rat2} (h : RatOk r) : ofS r.num r.den = (r, 0) := by
  obtain ⟨a1, a2, a3, a4, a5⟩ := ratOk_iff.1 h
  unfold ofS
  rw [a5]
  have e1 : r.num / ((1 : Nat) : Int) = r.num := by simp
  have e2 : r.den / ((1 : Nat) : Int) = r.den := by simp
  rw [e1, e2, if_neg (by omega)]
/-- the numerators that are tried -/
def nearL (x : Itv) (d : Int) : List Int := [0, 1, -1] ++ (if x.loI then [] else [x.lo.num * d / x.lo.den, x.lo.num * d / x.lo.den + 1, x.lo.num * d / x.lo.den + 2]) ++ (if x.hiI then [] else [x.hi.num * d / x.hi.den - 1, x.hi.num * d / x.hi.den, x.hi.num * d / x.hi.den + 1])
def okN (x : Itv) (d n : Int) : Bool := decide ((ofS n d).2 = 0) && decide ((ofS n d).1.den = d) && hasB x (ofS n d).1
def accN (x : Itv) (d : Int) (l : List Int) : List Rat2 := (l.filter (okN x d)).map fun n => (ofS n d).1
def refP (l : List Itv) (d : Int) : Option Rat2 := (l.flatMap fun x => accN x d (nearL x d)).foldl noteF none
theorem nearL_bd {x : Itv} (hx : goodB x = true) {d : Int} (h1 : 1 ≤ d) (h2 : d ≤ 65536) : ∀ n ∈ nearL x d, n.natAbs ≤ 70368744177666 := by
  have hb : ∀ r : Rat2, smallB r = true → -(1073741824 * 65536) ≤ r.num * d / r.den ∧ r.num * d / r.den ≤ 1073741824 * 65536 := fun r hr => by
    obtain ⟨q1, q2, q3⟩ := smallB_iff.1 hr
    obtain ⟨a1, a2, a3, a4, -⟩ := ratOk_iff.1 q1
    have m1 : r.num * d ≤ 1073741824 * d := Int.mul_le_mul_of_nonneg_right (by omega) (by omega)
    have m2 : -1073741824 * d ≤ r.num * d := Int.mul_le_mul_of_nonneg_right (by omega) (by omega)
    constructor
    · rw [Int.le_ediv_iff_mul_le (by omega)]
      have : -(1073741824 * 65536) * r.den ≤ -(1073741824 * 65536) * 1 := Int.mul_le_mul_of_nonpos_left (by omega) a1
      omega
    · have h3 := Int.ediv_le_ediv (show 0 < r.den by omega) m1
      have h4 : 1073741824 * d / r.den ≤ 1073741824 * d := Int.ediv_le_self _ (by omega)
      omega
  intro n hn
  unfold nearL at hn
  simp only [List.mem_append] at hn
  rcases hn with (hn | hn) | hn
  · simp only [List.mem_cons, List.not_mem_nil, or_false] at hn; omega
  · split at hn
    · cases hn
    · rename_i h
      have := hb x.lo (goodB.smlo hx (by simpa using h))
      simp only [List.mem_cons, List.not_mem_nil, or_false] at hn; omega
  · split at hn
    · cases hn
    · rename_i h
      have := hb x.hi (goodB.smhi hx (by simpa using h))
      simp only [List.mem_cons, List.not_mem_nil, or_false] at hn; omega
/-- a number of the set over the same denominator that is nearer to 0 would be simpler -/
theorem near_mem {l : List Itv} (hg : ∀ x ∈ l, goodB x = true) {r : Rat2} (hr : RatOk r) (hd : r.den ≤ 65536) {x : Itv} (hx : x ∈ l) (hh : hasB x r = true) (hm : ∀ s, hasL l s = true → simplerB s r = false) : r.num ∈ nearL x r.den := by
  obtain ⟨a1, a2, a3, a4, a5⟩ := ratOk_iff.1 hr
  have hgx := hg x hx
  have hno : ∀ n : Int, n.natAbs < r.num.natAbs → hasB x (ofS n r.den).1 = false := fun n hn => by
    obtain ⟨v1, v2, v3, v4, v5, v6⟩ := ofS_val (n := n) a1 a2 (by omega)
    cases hb : hasB x (ofS n r.den).1 with
    | false => rfl
    | true =>
      have := hm _ ((hasL_iff v2).2 ⟨x, hx, hgx, hb⟩)
      rw [simpler_not] at this
      omega
  have h0 := (has_iff hr hgx).1 hh
  have key : ∀ (n : Int), n.natAbs < r.num.natAbs → ¬ ((x.loI = true ∨ x.lo.num * r.den < n * x.lo.den ∨ ((ofS n r.den).1 = x.lo ∧ x.loO = false)) ∧ (x.hiI = true ∨ n * x.hi.den < x.hi.num * r.den ∨ ((ofS n r.den).1 = x.hi ∧ x.hiO = false))) := fun n hn hc => by
    obtain ⟨v1, v2, v3, v4, v5, v6⟩ := ofS_val (n := n) a1 a2 (by omega)
    obtain ⟨w1, -⟩ := ratOk_iff.1 v2
    have := hno n hn
    have ht : hasB x (ofS n r.den).1 = true := by
      rw [has_iff v2 hgx]
      generalize (ofS n r.den).1 = v at *
      refine ⟨?_, ?_⟩
      · rcases hc.1 with h | h | h
        · exact .inl h
        · right; left
          have e1 : x.lo.num * v.den * r.den < v.num * x.lo.den * r.den := by
            have : x.lo.num * r.den * v.den < n * x.lo.den * v.den := Int.mul_lt_mul_of_pos_right h (by omega)
            rw [Int.mul_right_comm n, ← v3] at this
            rw [Int.mul_right_comm, Int.mul_right_comm v.num]; exact this
          exact Int.lt_of_mul_lt_mul_right e1 (by omega)
        · exact .inr (.inr h)
      · rcases hc.2 with h | h | h
        · exact .inl h
        · right; left
          have e1 : v.num * x.hi.den * r.den < x.hi.num * v.den * r.den := by
            have : n * x.hi.den * v.den < x.hi.num * r.den * v.den := Int.mul_lt_mul_of_pos_right h (by omega)
            rw [Int.mul_right_comm n, ← v3] at this
            rw [Int.mul_right_comm, Int.mul_right_comm x.hi.num]; exact this
          exact Int.lt_of_mul_lt_mul_right e1 (by omega)
        · exact .inr (.inr h)
    rw [ht] at this; cases this
  unfold nearL
  simp only [List.mem_append]
  rcases Int.lt_trichotomy r.num 0 with hn | hn | hn
  · -- the next one above is not in x
    right
    have hk := key (r.num + 1) (by omega)
    have hlo : x.loI = true ∨ x.lo.num * r.den < (r.num + 1) * x.lo.den ∨ ((ofS (r.num + 1) r.den).1 = x.lo ∧ x.loO = false) := by
      rcases h0.1 with h | h | ⟨h, -⟩
      · exact .inl h
      · cases hI : x.loI with
        | true => exact .inl rfl
        | false =>
          right; left
          have := (ratOk_iff.1 (smallB_iff.1 (goodB.smlo hgx hI)).1).1
          rw [Int.add_mul, Int.one_mul]; omega
      · cases hI : x.loI with
        | true => exact .inl rfl
        | false =>
          right; left
          have := (ratOk_iff.1 (smallB_iff.1 (goodB.smlo hgx hI)).1).1
          rw [Int.add_mul, Int.one_mul, ← h]
          rw [← h] at this
          omega
    have hhi : ¬ (x.hiI = true ∨ (r.num + 1) * x.hi.den < x.hi.num * r.den ∨ ((ofS (r.num + 1) r.den).1 = x.hi ∧ x.hiO = false)) := fun h => hk ⟨hlo, h⟩
    have hI : x.hiI = false := by
      cases hI : x.hiI with
      | true => exact absurd (.inl hI) hhi
      | false => rfl
    rw [hI]
    have hdp := (ratOk_iff.1 (smallB_iff.1 (goodB.smhi hgx hI)).1).1
    have h1 : x.hi.num * r.den ≤ (r.num + 1) * x.hi.den := by
      rcases Int.lt_or_le ((r.num + 1) * x.hi.den) (x.hi.num * r.den) with h | h
      · exact absurd (.inr (.inl h)) hhi
      · exact h
    have h2 : r.num * x.hi.den ≤ x.hi.num * r.den := by
      rcases h0.2 with h | h | ⟨h, -⟩
      · rw [hI] at h; cases h
      · omega
      · rw [h]; omega
    have h3 : r.num ≤ x.hi.num * r.den / x.hi.den := (Int.le_ediv_iff_mul_le (by omega)).2 h2
    have h4 : x.hi.num * r.den / x.hi.den ≤ r.num + 1 := by
      have := Int.ediv_le_ediv (show 0 < x.hi.den by omega) h1
      rwa [Int.mul_ediv_cancel _ (by omega)] at this
    simp only [Bool.false_eq_true, if_false, List.mem_cons, List.not_mem_nil, or_false]
    omega
  · left; left; simp [hn]
  · left; right
    have hk := key (r.num - 1) (by omega)
    have hhi : x.hiI = true ∨ (r.num - 1) * x.hi.den < x.hi.num * r.den ∨ ((ofS (r.num - 1) r.den).1 = x.hi ∧ x.hiO = false) := by
      rcases h0.2 with h | h | ⟨h, -⟩
      · exact .inl h
      · cases hI : x.hiI with
        | true => exact .inl rfl
        | false =>
          right; left
          have := (ratOk_iff.1 (smallB_iff.1 (goodB.smhi hgx hI)).1).1
          rw [Int.sub_mul, Int.one_mul]; omega
      · cases hI : x.hiI with
        | true => exact .inl rfl
        | false =>
          right; left
          have := (ratOk_iff.1 (smallB_iff.1 (goodB.smhi hgx hI)).1).1
          rw [Int.sub_mul, Int.one_mul, ← h]
          rw [← h] at this
          omega
    have hlo : ¬ (x.loI = true ∨ x.lo.num * r.den < (r.num - 1) * x.lo.den ∨ ((ofS (r.num - 1) r.den).1 = x.lo ∧ x.loO = false)) := fun h => hk ⟨h, hhi⟩
    have hI : x.loI = false := by
      cases hI : x.loI with
      | true => exact absurd (.inl hI) hlo
      | false => rfl
    rw [hI]
    have hdp := (ratOk_iff.1 (smallB_iff.1 (goodB.smlo hgx hI)).1).1
    have h1 : (r.num - 1) * x.lo.den ≤ x.lo.num * r.den := by
      rcases Int.lt_or_le (x.lo.num * r.den) ((r.num - 1) * x.lo.den) with h | h
      · exact absurd (.inr (.inl h)) hlo
      · exact h
    have h2 : x.lo.num * r.den ≤ r.num * x.lo.den := by
      rcases h0.1 with h | h | ⟨h, -⟩
      · rw [hI] at h; cases h
      · omega
      · rw [h]; omega
    have h3 : r.num - 1 ≤ x.lo.num * r.den / x.lo.den := (Int.le_ediv_iff_mul_le (by omega)).2 h1
    have h4 : x.lo.num * r.den / x.lo.den ≤ r.num := by
      have := Int.ediv_le_ediv (show 0 < x.lo.den by omega) h2
      rwa [Int.mul_ediv_cancel _ (by omega)] at this
    simp only [Bool.false_eq_true, if_false, List.mem_cons, List.not_mem_nil, or_false]
    omega
theorem accN_mem {x : Itv} {d : Int} {l : List Int} {c : Rat2} (h : c ∈ accN x d l) : ∃ n ∈ l, c = (ofS n d).1 ∧ (ofS n d).2 = 0 ∧ c.den = d ∧ hasB x c = true := by
  unfold accN at h
  obtain ⟨n, hn, rfl⟩ := List.mem_map.1 h
  obtain ⟨h1, h2⟩ := List.mem_filter.1 hn
  unfold okN at h2
  simp only [Bool.and_eq_true, decide_eq_true_iff] at h2
  exact ⟨n, h1, rfl, h2.1.1, h2.1.2, h2.2⟩
/-- before the denominator of the simplest number nothing is found, and there it is -/
theorem refP_law {l : List Itv} (hg : ∀ x ∈ l, goodB x = true) {r : Rat2} (h : pickF l = some r) : (∀ d, 1 ≤ d → d < r.den → refP l d = none) ∧ refP l r.den = some r := by
  obtain ⟨hr, hl, hd, hm⟩ := (pick_law hg).2 r h
  have hin : ∀ (d : Int) (c : Rat2), 1 ≤ d → c ∈ l.flatMap (fun x => accN x d (nearL x d)) → c.den = d ∧ hasL l c = true := fun d c h1 hc => by
    obtain ⟨x, hx, hcx⟩ := List.mem_flatMap.1 hc
    obtain ⟨n, hn, e1, e2, e3, e4⟩ := accN_mem hcx
    have hok : RatOk c := by rw [e1]; exact ofS_ok h1 e2
    exact ⟨e3, (hasL_iff hok).2 ⟨x, hx, hg x hx, e4⟩⟩
  have hr1 := (ratOk_iff.1 hr).1
  refine ⟨fun d h1 h2 => ?_, ?_⟩
  · cases hc : refP l d with
    | none => rfl
    | some c =>
      rcases ((note_fold _ none).2 c hc).1 with h3 | h3
      · obtain ⟨e1, e2⟩ := hin d c h1 h3
        have := hm c e2
        rw [simpler_not] at this
        omega
      · cases h3
  · obtain ⟨x, hx, hgx, hhx⟩ := (hasL_iff hr).1 hl
    have hmem : r ∈ l.flatMap (fun x => accN x r.den (nearL x r.den)) := by
      refine List.mem_flatMap.2 ⟨x, hx, ?_⟩
      unfold accN
      refine List.mem_map.2 ⟨r.num, List.mem_filter.2 ⟨near_mem hg hr hd hx hhx hm, ?_⟩, by rw [ofS_self hr]⟩
      unfold okN
      rw [ofS_self hr]
      simp [hhx]
    cases hc : refP l r.den with
    | none =>
      have := ((note_fold _ none).1.1 hc).1
      rw [this] at hmem; cases hmem
    | some c =>
      obtain ⟨h3, h4, -⟩ := (note_fold _ none).2 c hc
      rcases h3 with h3 | h3
      · obtain ⟨e1, e2⟩ := hin _ c hr1 h3
        rw [simpler_eq (h4 r hmem) (hm c e2)]
      · cases h3
end Go.Proofs.Ytmbkefgmiehdiaa
