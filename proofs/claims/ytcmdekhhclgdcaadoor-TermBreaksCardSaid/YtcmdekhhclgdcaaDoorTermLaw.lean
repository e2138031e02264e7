/- terms: the plain law of broken days and of the end. -/
import Derived.Test.YtcmdekhhclgdcaaDoorRef14N
namespace Go.Proofs.YtcmdekhhclgdcaaDoor
set_option linter.unusedSimpArgs false
set_option linter.unusedVariables false
/-- an interruption of a file has the day -/
def brkB (file d : Int) (a : Ac) : Bool := a.kind == 9 && a.file == file && decide (a.day ≤ d) && decide (d ≤ a.number)
def brokB (file : Int) (xs : List Ac) (d : Int) : Bool := xs.any (brkB file d)
/-- the number of days, n of them from a day on, that meet p -/
def cnt (p : Int → Bool) (a : Int) : Nat → Int
  | 0 => 0
  | n + 1 => cnt p a n + if p (a + n) then 1 else 0
theorem cnt_le (p : Int → Bool) (a : Int) : ∀ n, 0 ≤ cnt p a n ∧ cnt p a n ≤ n
  | 0 => by simp [cnt]
  | n + 1 => by have := cnt_le p a n; unfold cnt; split <;> omega
theorem cnt_add (p : Int → Bool) (a : Int) (n : Nat) : ∀ m : Nat, cnt p a (n + m) = cnt p a n + cnt p (a + n) m
  | 0 => by simp [cnt]
  | m + 1 => by
    rw [show n + (m + 1) = (n + m) + 1 by omega, cnt, cnt, cnt_add p a n m, show a + ((n + m : Nat) : Int) = a + n + m by omega]; omega
theorem cnt_congr {p q : Int → Bool} {a : Int} : ∀ {n : Nat}, (∀ d, a ≤ d → d < a + n → p d = q d) → cnt p a n = cnt q a n
  | 0, _ => rfl
  | n + 1, h => by rw [cnt, cnt, cnt_congr (n := n) (fun d h1 h2 => h d h1 (by omega)), h (a + n) (by omega) (by omega)]
/-- the broken days from a to b -/
def many (p : Int → Bool) (a b : Int) : Int := cnt p a (b - a + 1).toNat
/-- the overlap of an interval with the days from a to b -/
def lap (a b x y : Int) : Int := max 0 (min b y - max a x + 1)
theorem many_ivl (a b x y : Int) : many (fun d => decide (x ≤ d) && decide (d ≤ y)) a b = lap a b x y := by
  unfold many lap
  have h : ∀ n : Nat, cnt (fun d => decide (x ≤ d) && decide (d ≤ y)) a n = max 0 (min (a + n - 1) y - max a x + 1) := by
    intro n
    induction n with
    | zero => unfold cnt; omega
    | succ n ih =>
      rw [cnt, ih]
      by_cases h1 : x ≤ a + n
      · by_cases h2 : a + n ≤ y
        · simp only [h1, h2, decide_true, Bool.and_true, if_true]; omega
        · simp only [h1, h2, decide_true, decide_false, Bool.and_false, Bool.false_eq_true, if_false]; omega
      · simp only [h1, decide_false, Bool.false_and, Bool.false_eq_true, if_false]; omega
  rw [h]
  omega
/-- the end: the same steps on both sides -/
def endF (p : Int → Bool) : Nat → Int → Int → Int
  | 0, _, e => e
  | f + 1, a, e => if many p a e = 0 ∨ 131072 < e then e else endF p f (e + 1) (e + many p a e)
abbrev Iv := Int × Int
def cov (l : List Iv) (d : Int) : Bool := l.any fun x => decide (x.1 ≤ d) && decide (d ≤ x.2)
/-- intervals in order, none of which touches the next -/
def Canon : List Iv → Prop
  | [] => True
  | [x] => x.1 ≤ x.2
  | x :: y :: r => x.1 ≤ x.2 ∧ x.2 + 1 < y.1 ∧ Canon (y :: r)
theorem Canon.head {x : Iv} {r : List Iv} (h : Canon (x :: r)) : x.1 ≤ x.2 := by
  cases r with
  | nil => exact h
  | cons y r => exact h.1
theorem Canon.tail {x : Iv} {r : List Iv} (h : Canon (x :: r)) : Canon r := by
  cases r with
  | nil => exact trivial
  | cons y r => exact h.2.2
theorem Canon.gap : ∀ {r : List Iv} {x : Iv}, Canon (x :: r) → ∀ y ∈ r, x.2 + 1 < y.1 ∧ y.1 ≤ y.2
  | [], _, _, _, hy => by cases hy
  | z :: r, x, h, y, hy => by
    rcases List.mem_cons.1 hy with rfl | hy
    · exact ⟨h.2.1, h.2.2.head⟩
    · have h2 := h.2.2.gap y hy
      have h3 := h.2.2.head
      have h4 := h.2.1
      exact ⟨by omega, h2.2⟩
theorem cov_iff {l : List Iv} {d : Int} : cov l d = true ↔ ∃ x ∈ l, x.1 ≤ d ∧ d ≤ x.2 := by
  unfold cov; simp [List.any_eq_true]
/-- two such lists that cover the same days are the same -/
theorem canon_uniq : ∀ {l r : List Iv}, Canon l → Canon r → (∀ d, cov l d = cov r d) → l = r
  | [], [], _, _, _ => rfl
  | [], y :: r, _, hr, hc => by
    have h := hc y.1
    rw [show cov [] y.1 = false from rfl] at h
    have : cov (y :: r) y.1 = true := cov_iff.2 ⟨y, by simp, Int.le_refl _, hr.head⟩
    rw [this] at h; cases h
  | x :: l, [], hl, _, hc => by
    have h := hc x.1
    rw [show cov [] x.1 = false from rfl] at h
    have : cov (x :: l) x.1 = true := cov_iff.2 ⟨x, by simp, Int.le_refl _, hl.head⟩
    rw [this] at h; cases h
  | x :: l, y :: r, hl, hr, hc => by
    have hx := hl.head
    have hy := hr.head
    have key : ∀ {x y : Iv} {l r : List Iv}, Canon (x :: l) → Canon (y :: r) → (∀ d, cov (x :: l) d = cov (y :: r) d) → y.1 ≤ x.1 := by
      intro x y l r hl hr hc
      have h1 : cov (y :: r) x.1 = true := by rw [← hc]; exact cov_iff.2 ⟨x, by simp, Int.le_refl _, hl.head⟩
      obtain ⟨z, hz, h2, h3⟩ := cov_iff.1 h1
      rcases List.mem_cons.1 hz with rfl | hz
      · exact h2
      · have := hr.gap z hz; have := hr.head; omega
    have e1 : x.1 = y.1 := by have := key hl hr hc; have := key hr hl (fun d => (hc d).symm); omega
    have key2 : ∀ {x y : Iv} {l r : List Iv}, Canon (x :: l) → Canon (y :: r) → x.1 = y.1 → (∀ d, cov (x :: l) d = cov (y :: r) d) → x.2 ≤ y.2 := by
      intro x y l r hl hr he hc
      refine Classical.byContradiction fun hn => ?_
      have h1 : cov (y :: r) (y.2 + 1) = true := by rw [← hc]; exact cov_iff.2 ⟨x, by simp, by have := hr.head; omega, by omega⟩
      obtain ⟨z, hz, h2, h3⟩ := cov_iff.1 h1
      rcases List.mem_cons.1 hz with rfl | hz
      · omega
      · have := hr.gap z hz; omega
    have e2 : x.2 = y.2 := by have := key2 hl hr e1 hc; have := key2 hr hl e1.symm (fun d => (hc d).symm); omega
    have exy : x = y := Prod.ext e1 e2
    subst exy
    rw [canon_uniq hl.tail hr.tail fun d => ?_]
    have h := hc d
    unfold cov at h ⊢
    simp only [List.any_cons] at h
    by_cases hd : x.1 ≤ d ∧ d ≤ x.2
    · have none : ∀ {l : List Iv}, Canon (x :: l) → l.any (fun x => decide (x.1 ≤ d) && decide (d ≤ x.2)) = false := by
        intro l hl
        rw [List.any_eq_false]
        intro z hz hcc
        have := hl.gap z hz
        simp at hcc
        omega
      rw [none hl, none hr]
    · have hf : (decide (x.1 ≤ d) && decide (d ≤ x.2)) = false := by simp; omega
      rw [hf] at h
      simpa using h
theorem cnt_or {p q : Int → Bool} {a : Int} : ∀ {n : Nat}, (∀ d, a ≤ d → d < a + n → ¬ (p d = true ∧ q d = true)) → cnt (fun d => p d || q d) a n = cnt p a n + cnt q a n
  | 0, _ => rfl
  | n + 1, h => by
    rw [cnt, cnt, cnt, cnt_or (n := n) (fun d h1 h2 => h d h1 (by omega))]
    have := h (a + n) (by omega) (by omega)
    cases hp : p (a + n) <;> cases hq : q (a + n) <;> simp_all <;> omega
/-- what the sum of the overlaps is -/
def laps (l : List Iv) (a b : Int) : Int := (l.map fun x => lap a b x.1 x.2).sum
theorem laps_many : ∀ {l : List Iv} (a b : Int), Canon l → laps l a b = many (cov l) a b
  | [], a, b, _ => by
    unfold laps many
    have h : ∀ n : Nat, cnt (cov []) a n = 0 := by
      intro n
      induction n with
      | zero => rfl
      | succ n ih => rw [cnt, ih]; rfl
    rw [h]; rfl
  | x :: l, a, b, h => by
    have ih := laps_many (l := l) a b h.tail
    have e : cov (x :: l) = fun d => (decide (x.1 ≤ d) && decide (d ≤ x.2)) || cov l d := by
      funext d; unfold cov; rw [List.any_cons]
    unfold laps at ih ⊢
    rw [List.map_cons, List.sum_cons, ih, ← many_ivl, e]
    unfold many
    rw [cnt_or]
    intro d _ _ hd
    obtain ⟨h1, h2⟩ := hd
    obtain ⟨z, hz, h3, h4⟩ := cov_iff.1 h2
    have := h.gap z hz
    simp at h1
    omega
/-- the joining of intervals that come in order of their beginnings; the result is held back to front -/
def joinR : List Iv → List Iv → List Iv
  | out, [] => out
  | [], x :: r => joinR [x] r
  | o :: out, x :: r => if x.1 ≤ o.2 + 1 then joinR ((o.1, max o.2 x.2) :: out) r else joinR (x :: o :: out) r
/-- Canon, back to front -/
def RC : List Iv → Prop
  | [] => True
  | [x] => x.1 ≤ x.2
  | x :: y :: r => x.1 ≤ x.2 ∧ y.2 + 1 < x.1 ∧ RC (y :: r)
theorem RC.head {x : Iv} {r : List Iv} (h : RC (x :: r)) : x.1 ≤ x.2 := by
  cases r with
  | nil => exact h
  | cons y r => exact h.1
theorem Canon.snoc : ∀ {l : List Iv} {x : Iv}, Canon l → x.1 ≤ x.2 → (∀ y, l.getLast? = some y → y.2 + 1 < x.1) → Canon (l ++ [x])
  | [], _, _, hx, _ => hx
  | [y], x, hl, hx, h => ⟨hl, h y rfl, hx⟩
  | y :: z :: r, x, hl, hx, h => ⟨hl.1, hl.2.1, Canon.snoc (l := z :: r) hl.2.2 hx (fun u hu => h u (by simpa using hu))⟩
theorem RC.canon : ∀ {l : List Iv}, RC l → Canon l.reverse
  | [], _ => trivial
  | [x], h => h
  | x :: y :: r, h => by
    rw [List.reverse_cons]
    refine Canon.snoc (RC.canon h.2.2) h.1 fun u hu => ?_
    rw [List.getLast?_reverse] at hu
    simp at hu
    subst hu; exact h.2.1
theorem joinR_law : ∀ (r out : List Iv), RC out → (∀ x ∈ r, x.1 ≤ x.2) → (∀ o ∈ out.head?, ∀ x ∈ r, o.1 ≤ x.1) → r.Pairwise (fun x y => x.1 ≤ y.1) →
    RC (joinR out r) ∧ ∀ d, cov (joinR out r) d = (cov out d || cov r d)
  | [], out, h, _, _, _ => by
    have e : joinR out [] = out := by cases out <;> rfl
    rw [e]
    exact ⟨h, fun d => by simp [cov]⟩
  | x :: r, [], _, h2, _, h4 => by
    have e : joinR [] (x :: r) = joinR [x] r := rfl
    rw [e]
    obtain ⟨q1, q2⟩ := joinR_law r [x] (h2 x (by simp)) (fun y hy => h2 y (by simp [hy])) (fun o ho y hy => by
      simp at ho; subst ho; exact (List.pairwise_cons.1 h4).1 y hy) (List.pairwise_cons.1 h4).2
    exact ⟨q1, fun d => by rw [q2]; simp [cov]⟩
  | x :: r, o :: out, h1, h2, h3, h4 => by
    have hx := h2 x (by simp)
    have hox := h3 o (by simp) x (by simp)
    have ho := h1.head
    obtain ⟨p1, p2⟩ := List.pairwise_cons.1 h4
    by_cases hle : x.1 ≤ o.2 + 1
    · have e : joinR (o :: out) (x :: r) = joinR ((o.1, max o.2 x.2) :: out) r := if_pos hle
      rw [e]
      have hR : RC ((o.1, max o.2 x.2) :: out) := by
        cases out with
        | nil => show o.1 ≤ max o.2 x.2; omega
        | cons y t => exact ⟨by show o.1 ≤ max o.2 x.2; omega, h1.2.1, h1.2.2⟩
      obtain ⟨q1, q2⟩ := joinR_law r ((o.1, max o.2 x.2) :: out) hR (fun y hy => h2 y (by simp [hy])) (fun u hu y hy => by
        simp at hu; subst hu; exact h3 o (by simp) y (by simp [hy])) p2
      refine ⟨q1, fun d => ?_⟩
      rw [q2]
      unfold cov
      simp only [List.any_cons]
      have : (decide (o.1 ≤ d) && decide (d ≤ max o.2 x.2)) = ((decide (o.1 ≤ d) && decide (d ≤ o.2)) || (decide (x.1 ≤ d) && decide (d ≤ x.2))) := by
        rw [Bool.eq_iff_iff]; simp; omega
      rw [this]
      cases (decide (o.1 ≤ d) && decide (d ≤ o.2)) <;> cases (decide (x.1 ≤ d) && decide (d ≤ x.2)) <;> simp
    · have e : joinR (o :: out) (x :: r) = joinR (x :: o :: out) r := if_neg hle
      rw [e]
      obtain ⟨q1, q2⟩ := joinR_law r (x :: o :: out) ⟨hx, by omega, h1⟩ (fun y hy => h2 y (by simp [hy])) (fun u hu y hy => by
        simp at hu; subst hu; exact p1 y hy) p2
      refine ⟨q1, fun d => ?_⟩
      rw [q2]
      unfold cov
      simp only [List.any_cons]
      cases (decide (x.1 ≤ d) && decide (d ≤ x.2)) <;> cases (decide (o.1 ≤ d) && decide (d ≤ o.2)) <;> simp
end Go.Proofs.YtcmdekhhclgdcaaDoor
