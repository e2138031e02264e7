/- terms: the plain law of broken days and of the end.; the generators Around and Pick, for the seat of Term and Law.; package priorartref15: Broken, many.; package term: broken, Bare. -/
import Derived.Test.YtcmdekhhclgdcaaGreatDoorRefC
namespace Go.Proofs.YtcmdekhhclgdcaaGreatDoor
set_option linter.unusedSimpArgs false
set_option linter.unusedVariables false
/-- an interruption of a file has the day -/
def brkB (file d : Int) (a : Ac) : Bool := a.kind == 9 && a.file == file && decide (a.day ≤ d) && decide (d ≤ a.number)
def brokB (file : Int) (xs : List Ac) (d : Int) : Bool := xs.any (brkB file d)
/-- the number of days, n of them from a day on, that meet p -/
def cnt (p : Int → Bool) (a : Int) : Nat → Int
  | 0 => 0
  | n + 1 => cnt p a n + if p (a + n) then 1 else 0
theorem cnt_le (p : Int → Bool) (a : Int) : ∀ n, 0 ≤ cnt p a n ∧ cnt p a n ≤ n
  | 0 => by simp [cnt]
  | n + 1 => by have := cnt_le p a n; unfold cnt; split <;> omega
theorem cnt_add (p : Int → Bool) (a : Int) (n : Nat) : ∀ m : Nat, cnt p a (n + m) = cnt p a n + cnt p (a + n) m
  | 0 => by simp [cnt]
  | m + 1 => by
    rw [show n + (m + 1) = (n + m) + 1 by omega, cnt, cnt, cnt_add p a n m, show a + ((n + m : Nat) : Int) = a + n + m by omega]; omega
theorem cnt_congr {p q : Int → Bool} {a : Int} : ∀ {n : Nat}, (∀ d, a ≤ d → d < a + n → p d = q d) → cnt p a n = cnt q a n
  | 0, _ => rfl
  | n + 1, h => by rw [cnt, cnt, cnt_congr (n := n) (fun d h1 h2 => h d h1 (by omega)), h (a + n) (by omega) (by omega)]
/-- the broken days from a to b -/
def many (p : Int → Bool) (a b : Int) : Int := cnt p a (b - a + 1).toNat
/-- the overlap of an interval with the days from a to b -/
def lap (a b x y : Int) : Int := max 0 (min b y - max a x + 1)
theorem many_ivl (a b x y : Int) : many (fun d => decide (x ≤ d) && decide (d ≤ y)) a b = lap a b x y := by
  unfold many lap
  have h : ∀ n : Nat, cnt (fun d => decide (x ≤ d) && decide (d ≤ y)) a n = max 0 (min (a + n - 1) y - max a x + 1) := by
    intro n
    induction n with
    | zero => unfold cnt; omega
    | succ n ih =>
      rw [cnt, ih]
      by_cases h1 : x ≤ a + n
      · by_cases h2 : a + n ≤ y
        · simp only [h1, h2, decide_true, Bool.and_true, if_true]; omega
        · simp only [h1, h2, decide_true, decide_false, Bool.and_false, Bool.false_eq_true, if_false]; omega
      · simp only [h1, decide_false, Bool.false_and, Bool.false_eq_true, if_false]; omega
  rw [h]
  omega
/-- the end: the same steps on both sides -/
def endF (p : Int → Bool) : Nat → Int → Int → Int
  | 0, _, e => e
  | f + 1, a, e => if many p a e = 0 ∨ 131072 < e then e else endF p f (e + 1) (e + many p a e)
abbrev Iv := Int × Int
def cov (l : List Iv) (d : Int) : Bool := l.any fun x => decide (x.1 ≤ d) && decide (d ≤ x.2)
/-- intervals in order, none of which touches the next -/
def Canon : List Iv → Prop
  | [] => True
  | [x] => x.1 ≤ x.2
  | x :: y :: r => x.1 ≤ x.2 ∧ x.2 + 1 < y.1 ∧ Canon (y :: r)
theorem Canon.head {x : Iv} {r : List Iv} (h : Canon (x :: r)) : x.1 ≤ x.2 := by
  cases r with
  | nil => exact h
  | cons y r => exact h.1
theorem Canon.tail {x : Iv} {r : List Iv} (h : Canon (x :: r)) : Canon r := by
  cases r with
  | nil => exact trivial
  | cons y r => exact h.2.2
theorem Canon.gap : ∀ {r : List Iv} {x : Iv}, Canon (x :: r) → ∀ y ∈ r, x.2 + 1 < y.1 ∧ y.1 ≤ y.2
  | [], _, _, _, hy => by cases hy
  | z :: r, x, h, y, hy => by
    rcases List.mem_cons.1 hy with rfl | hy
    · exact ⟨h.2.1, h.2.2.head⟩
    · have h2 := h.2.2.gap y hy
      have h3 := h.2.2.head
      have h4 := h.2.1
      exact ⟨by omega, h2.2⟩
theorem cov_iff {l : List Iv} {d : Int} : cov l d = true ↔ ∃ x ∈ l, x.1 ≤ d ∧ d ≤ x.2 := by
  unfold cov; simp [List.any_eq_true]
/-- two such lists that cover the same days are the same -/
theorem canon_uniq : ∀ {l r : List Iv}, Canon l → Canon r → (∀ d, cov l d = cov r d) → l = r
  | [], [], _, _, _ => rfl
  | [], y :: r, _, hr, hc => by
    have h := hc y.1
    rw [show cov [] y.1 = false from rfl] at h
    have : cov (y :: r) y.1 = true := cov_iff.2 ⟨y, by simp, Int.le_refl _, hr.head⟩
    rw [this] at h; cases h
  | x :: l, [], hl, _, hc => by
    have h := hc x.1
    rw [show cov [] x.1 = false from rfl] at h
    have : cov (x :: l) x.1 = true := cov_iff.2 ⟨x, by simp, Int.le_refl _, hl.head⟩
    rw [this] at h; cases h
  | x :: l, y :: r, hl, hr, hc => by
    have hx := hl.head
    have hy := hr.head
    have key : ∀ {x y : Iv} {l r : List Iv}, Canon (x :: l) → Canon (y :: r) → (∀ d, cov (x :: l) d = cov (y :: r) d) → y.1 ≤ x.1 := by
      intro x y l r hl hr hc
      have h1 : cov (y :: r) x.1 = true := by rw [← hc]; exact cov_iff.2 ⟨x, by simp, Int.le_refl _, hl.head⟩
      obtain ⟨z, hz, h2, h3⟩ := cov_iff.1 h1
      rcases List.mem_cons.1 hz with rfl | hz
      · exact h2
      · have := hr.gap z hz; have := hr.head; omega
    have e1 : x.1 = y.1 := by have := key hl hr hc; have := key hr hl (fun d => (hc d).symm); omega
    have key2 : ∀ {x y : Iv} {l r : List Iv}, Canon (x :: l) → Canon (y :: r) → x.1 = y.1 → (∀ d, cov (x :: l) d = cov (y :: r) d) → x.2 ≤ y.2 := by
      intro x y l r hl hr he hc
      refine Classical.byContradiction fun hn => ?_
      have h1 : cov (y :: r) (y.2 + 1) = true := by rw [← hc]; exact cov_iff.2 ⟨x, by simp, by have := hr.head; omega, by omega⟩
      obtain ⟨z, hz, h2, h3⟩ := cov_iff.1 h1
      rcases List.mem_cons.1 hz with rfl | hz
      · omega
      · have := hr.gap z hz; omega
    have e2 : x.2 = y.2 := by have := key2 hl hr e1 hc; have := key2 hr hl e1.symm (fun d => (hc d).symm); omega
    have exy : x = y := Prod.ext e1 e2
    subst exy
    rw [canon_uniq hl.tail hr.tail fun d => ?_]
    have h := hc d
    unfold cov at h ⊢
    simp only [List.any_cons] at h
    by_cases hd : x.1 ≤ d ∧ d ≤ x.2
    · have none : ∀ {l : List Iv}, Canon (x :: l) → l.any (fun x => decide (x.1 ≤ d) && decide (d ≤ x.2)) = false := by
        intro l hl
        rw [List.any_eq_false]
        intro z hz hcc
        have := hl.gap z hz
        simp at hcc
        omega
      rw [none hl, none hr]
    · have hf : (decide (x.1 ≤ d) && decide (d ≤ x.2)) = false := by simp; omega
      rw [hf] at h
      simpa using h
theorem cnt_or {p q : Int → Bool} {a : Int} : ∀ {n : Nat}, (∀ d, a ≤ d → d < a + n → ¬ (p d = true ∧ q d = true)) → cnt (fun d => p d || q d) a n = cnt p a n + cnt q a n
  | 0, _ => rfl
  | n + 1, h => by
    rw [cnt, cnt, cnt, cnt_or (n := n) (fun d h1 h2 => h d h1 (by omega))]
    have := h (a + n) (by omega) (by omega)
    cases hp : p (a + n) <;> cases hq : q (a + n) <;> simp_all <;> omega
/-- what the sum of the overlaps is -/
def laps (l : List Iv) (a b : Int) : Int := (l.map fun x => lap a b x.1 x.2).sum
theorem laps_many : ∀ {l : List Iv} (a b : Int), Canon l → laps l a b = many (cov l) a b
  | [], a, b, _ => by
    unfold laps many
    have h : ∀ n : Nat, cnt (cov []) a n = 0 := by
      intro n
      induction n with
      | zero => rfl
      | succ n ih => rw [cnt, ih]; rfl
    rw [h]; rfl
  | x :: l, a, b, h => by
    have ih := laps_many (l := l) a b h.tail
    have e : cov (x :: l) = fun d => (decide (x.1 ≤ d) && decide (d ≤ x.2)) || cov l d := by
      funext d; unfold cov; rw [List.any_cons]
    unfold laps at ih ⊢
    rw [List.map_cons, List.sum_cons, ih, ← many_ivl, e]
    unfold many
    rw [cnt_or]
    intro d _ _ hd
    obtain ⟨h1, h2⟩ := hd
    obtain ⟨z, hz, h3, h4⟩ := cov_iff.1 h2
    have := h.gap z hz
    simp at h1
    omega
/-- the joining of intervals that come in order of their beginnings; the result is held back to front -/
def joinR : List Iv → List Iv → List Iv
  | out, [] => out
  | [], x :: r => joinR [x] r
  | o :: out, x :: r => if x.1 ≤ o.2 + 1 then joinR ((o.1, max o.2 x.2) :: out) r else joinR (x :: o :: out) r
/-- Canon, back to front -/
def RC : List Iv → Prop
  | [] => True
  | [x] => x.1 ≤ x.2
  | x :: y :: r => x.1 ≤ x.2 ∧ y.2 + 1 < x.1 ∧ RC (y :: r)
theorem RC.head {x : Iv} {r : List Iv} (h : RC (x :: r)) : x.1 ≤ x.2 := by
  cases r with
  | nil => exact h
  | cons y r => exact h.1
theorem Canon.snoc : ∀ {l : List Iv} {x : Iv}, Canon l → x.1 ≤ x.2 → (∀ y, l.getLast? = some y → y.2 + 1 < x.1) → Canon (l ++ [x])
  | [], _, _, hx, _ => hx
  | [y], x, hl, hx, h => ⟨hl, h y rfl, hx⟩
  | y :: z :: r, x, hl, hx, h => ⟨hl.1, hl.2.1, Canon.snoc (l := z :: r) hl.2.2 hx (fun u hu => h u (by simpa using hu))⟩
theorem RC.canon : ∀ {l : List Iv}, RC l → Canon l.reverse
  | [], _ => trivial
  | [x], h => h
  | x :: y :: r, h => by
    rw [List.reverse_cons]
    refine Canon.snoc (RC.canon h.2.2) h.1 fun u hu => ?_
    rw [List.getLast?_reverse] at hu
    simp at hu
    subst hu; exact h.2.1
theorem joinR_law : ∀ (r out : List Iv), RC out → (∀ x ∈ r, x.1 ≤ x.2) → (∀ o ∈ out.head?, ∀ x ∈ r, o.1 ≤ x.1) → r.Pairwise (fun x y => x.1 ≤ y.1) →
    RC (joinR out r) ∧ ∀ d, cov (joinR out r) d = (cov out d || cov r d)
  | [], out, h, _, _, _ => by
    have e : joinR out [] = out := by cases out <;> rfl
    rw [e]
    exact ⟨h, fun d => by simp [cov]⟩
  | x :: r, [], _, h2, _, h4 => by
    have e : joinR [] (x :: r) = joinR [x] r := rfl
    rw [e]
    obtain ⟨q1, q2⟩ := joinR_law r [x] (h2 x (by simp)) (fun y hy => h2 y (by simp [hy])) (fun o ho y hy => by
      simp at ho; subst ho; exact (List.pairwise_cons.1 h4).1 y hy) (List.pairwise_cons.1 h4).2
    exact ⟨q1, fun d => by rw [q2]; simp [cov]⟩
  | x :: r, o :: out, h1, h2, h3, h4 => by
    have hx := h2 x (by simp)
    have hox := h3 o (by simp) x (by simp)
    have ho := h1.head
    obtain ⟨p1, p2⟩ := List.pairwise_cons.1 h4
    by_cases hle : x.1 ≤ o.2 + 1
    · have e : joinR (o :: out) (x :: r) = joinR ((o.1, max o.2 x.2) :: out) r := if_pos hle
      rw [e]
      have hR : RC ((o.1, max o.2 x.2) :: out) := by
        cases out with
        | nil => show o.1 ≤ max o.2 x.2; omega
        | cons y t => exact ⟨by show o.1 ≤ max o.2 x.2; omega, h1.2.1, h1.2.2⟩
      obtain ⟨q1, q2⟩ := joinR_law r ((o.1, max o.2 x.2) :: out) hR (fun y hy => h2 y (by simp [hy])) (fun u hu y hy => by
        simp at hu; subst hu; exact h3 o (by simp) y (by simp [hy])) p2
      refine ⟨q1, fun d => ?_⟩
      rw [q2]
      unfold cov
      simp only [List.any_cons]
      have : (decide (o.1 ≤ d) && decide (d ≤ max o.2 x.2)) = ((decide (o.1 ≤ d) && decide (d ≤ o.2)) || (decide (x.1 ≤ d) && decide (d ≤ x.2))) := by
        rw [Bool.eq_iff_iff]; simp; omega
      rw [this]
      cases (decide (o.1 ≤ d) && decide (d ≤ o.2)) <;> cases (decide (x.1 ≤ d) && decide (d ≤ x.2)) <;> simp
    · have e : joinR (o :: out) (x :: r) = joinR (x :: o :: out) r := if_neg hle
      rw [e]
      obtain ⟨q1, q2⟩ := joinR_law r (x :: o :: out) ⟨hx, by omega, h1⟩ (fun y hy => h2 y (by simp [hy])) (fun u hu y hy => by
        simp at hu; subst hu; exact p1 y hy) p2
      refine ⟨q1, fun d => ?_⟩
      rw [q2]
      unfold cov
      simp only [List.any_cons]
      cases (decide (x.1 ≤ d) && decide (d ≤ x.2)) <;> cases (decide (o.1 ≤ d) && decide (d ≤ o.2)) <;> simp
end Go.Proofs.YtcmdekhhclgdcaaGreatDoor
namespace Go.Proofs.YtcmdekhhclgdcaaGreatDoor
open Go.RowKit Go.Shelf
set_option linter.unusedSimpArgs false
set_option linter.unusedVariables false
/-- what Around returns -/
def aroundV (n m : Int) : Int := if n < 0 then (-(n + 1)).tmod m else n.tmod m
theorem aroundV_range {n m : Int} (hn : I64 n) (hm : 0 < m) : 0 ≤ aroundV n m ∧ aroundV n m < m := by
  unfold I64 at hn
  unfold aroundV
  split
  · exact ⟨Int.tmod_nonneg _ (by omega), Int.tmod_lt_of_pos _ hm⟩
  · exact ⟨Int.tmod_nonneg _ (by omega), Int.tmod_lt_of_pos _ hm⟩
theorem around_c (n m : Int) (w : World) (hn : I64 n) (hm : 0 < m) (hm' : m ≤ 9223372036854775807) :
    Calls Tryz.prog 7 #[.int .i64 n, .int .i64 m] w (RetV w (.int .i64 (aroundV n m))) := by
  have hr := aroundV_range hn hm
  have hn' := hn
  unfold I64 at hn'
  have hm0 : (m == 0) = false := by simp; omega
  by_cases h : n < 0
  · have hv : Hid (aroundV n m = (-(n + 1)).tmod m) := by show _ = _; unfold aroundV; rw [if_pos h]
    rw [hv.out] at hr ⊢
    have hq : IntKind.i64.wrap ((-(n + 1)).tmod m) = (-(n + 1)).tmod m := by rw [IntKind.wrap_i64]; omega
    go_enter Tryz.func7, Tryz.ntmps7
    go_wp2_with fail
    go_ret
    exact ⟨ret_int (Int.neg_tmod ..).symm, (by repeat (first | (with_reducible assumption) | (with_reducible exact Ext.rfl' _) | (with_reducible exact Ext.new _ _) | (with_reducible refine Ext.alloc' ?_ _) | (with_reducible refine Ext.drew' ?_) | (with_reducible refine Ext.drewN' ?_ _) | (with_reducible refine Ext.set' ?_ ?_ _; rotate_left; (focus (first | omega | (simp; done) | (simp; omega)))) | (with_reducible refine Ext.then (b := ?_) ?_ ?_; rotate_left; rotate_left; (with_reducible assumption))))⟩
  · have hv : Hid (aroundV n m = n.tmod m) := by show _ = _; unfold aroundV; rw [if_neg h]
    rw [hv.out] at hr ⊢
    have hq : IntKind.i64.wrap (n.tmod m) = n.tmod m := by rw [IntKind.wrap_i64]; omega
    go_enter Tryz.func7, Tryz.ntmps7
    go_wp2_with fail
    go_ret
    exact ⟨ret_int (Int.tmod_eq_emod_of_nonneg (by omega)).symm, (by repeat (first | (with_reducible assumption) | (with_reducible exact Ext.rfl' _) | (with_reducible exact Ext.new _ _) | (with_reducible refine Ext.alloc' ?_ _) | (with_reducible refine Ext.drew' ?_) | (with_reducible refine Ext.drewN' ?_ _) | (with_reducible refine Ext.set' ?_ ?_ _; rotate_left; (focus (first | omega | (simp; done) | (simp; omega)))) | (with_reducible refine Ext.then (b := ?_) ?_ ?_; rotate_left; rotate_left; (with_reducible assumption))))⟩
/-- an integer from lo up to below hi comes back -/
def RetIn (w : World) (lo hi : Int) (e : Ending) (w' : World) : Prop := ∃ r, e = .returned (.int .i64 r) ∧ lo ≤ r ∧ r < hi ∧ Ext w w'
theorem pick_c (l : List Int) (vl : Value) (i m : Int) (w : World) (hl : IntsR (ph w) vl l) (hi : I64 i) (hm : 0 < m) (hm' : m ≤ 9223372036854775807) :
    Calls Tryz.prog 31 #[vl, .int .i64 i, .int .i64 m] w (RetIn w 0 m) := by
  obtain ⟨a, c, rfl, hll, hl⟩ := hl.form
  have hi' := hi
  unfold I64 at hi'
  by_cases h0 : i < 0
  · clear hl
    go_enter Tryz.func31, Tryz.ntmps31
    go_wp2_with fail
    go_ret
    exact ⟨_, rfl, by omega, by omega, (by repeat (first | (with_reducible assumption) | (with_reducible exact Ext.rfl' _) | (with_reducible exact Ext.new _ _) | (with_reducible refine Ext.alloc' ?_ _) | (with_reducible refine Ext.drew' ?_) | (with_reducible refine Ext.drewN' ?_ _) | (with_reducible refine Ext.set' ?_ ?_ _; rotate_left; (focus (first | omega | (simp; done) | (simp; omega)))) | (with_reducible refine Ext.then (b := ?_) ?_ ?_; rotate_left; rotate_left; (with_reducible assumption))))⟩
  · by_cases h1 : i < l.length
    · obtain ⟨k, rfl⟩ : ∃ k : Nat, i = k := ⟨i.toNat, by omega⟩
      obtain ⟨b, o, rfl, h2, h3, hbl⟩ := IntsR.at hl k (by omega)
      generalize l[k] = x at *
      have hr := aroundV_range h3 hm
      clear hl
      go_enter Tryz.func31, Tryz.ntmps31
      go_wp2_with fail
      refine (around_c x m _ h3 hm hm').mono ?_
      rintro e w1 ⟨rfl, hb1⟩
      generalize aroundV x m = r at *
      go_wp2_with fail
      go_ret
      exact ⟨_, rfl, hr.1, hr.2, (by repeat (first | (with_reducible assumption) | (with_reducible exact Ext.rfl' _) | (with_reducible exact Ext.new _ _) | (with_reducible refine Ext.alloc' ?_ _) | (with_reducible refine Ext.drew' ?_) | (with_reducible refine Ext.drewN' ?_ _) | (with_reducible refine Ext.set' ?_ ?_ _; rotate_left; (focus (first | omega | (simp; done) | (simp; omega)))) | (with_reducible refine Ext.then (b := ?_) ?_ ?_; rotate_left; rotate_left; (with_reducible assumption))))⟩
    · clear hl
      go_enter Tryz.func31, Tryz.ntmps31
      go_wp2_with fail
      go_ret
      exact ⟨_, rfl, by omega, by omega, (by repeat (first | (with_reducible assumption) | (with_reducible exact Ext.rfl' _) | (with_reducible exact Ext.new _ _) | (with_reducible refine Ext.alloc' ?_ _) | (with_reducible refine Ext.drew' ?_) | (with_reducible refine Ext.drewN' ?_ _) | (with_reducible refine Ext.set' ?_ ?_ _; rotate_left; (focus (first | omega | (simp; done) | (simp; omega)))) | (with_reducible refine Ext.then (b := ?_) ?_ ?_; rotate_left; rotate_left; (with_reducible assumption))))⟩
end Go.Proofs.YtcmdekhhclgdcaaGreatDoor
namespace Go.Proofs.YtcmdekhhclgdcaaGreatDoor
open Go.RowKit Go.Shelf
set_option linter.unusedSimpArgs false
set_option linter.unusedVariables false
set_option maxHeartbeats 1000000 in
theorem rbroken_c (file day : Int) (xs : List Ac) (va : Value) (w : World) (hA : ActsR (ph w) va xs) : Calls Tryz.prog 75 #[.int .i64 file, va, .int .i64 day] w (RetP w (.bool (brokB file xs day))) := by
  obtain ⟨xa, xc, rfl, xlen, hA⟩ := hA.form
  go_enter Tryz.func75, Tryz.ntmps75
  go_wp2_with fail
  go_loopw [7] (fun i wr => ∃ k : Nat, k ≤ xs.length ∧ i = .int .i64 k ∧ Hid (∀ x ∈ xs.take k, brkB file day x = false) ∧ wr = w) (fun i _ => xs.length - (intOf i).toNat)
  case atStart => exact ⟨0, by omega, rfl, Lib.hid (by simp), rfl⟩
  case round =>
    obtain ⟨n, hn, rfl, hno, rfl⟩ := hrel
    by_cases hlt2 : n < xs.length
    · (obtain ⟨gb, go, rfl, g0, g1, g2, g3, g4, g5, g6, g7, g8, g9, g10, g11, g12, g13, g14, g15, g16, g17, g18, gl, gi⟩ := ActsR.at hA n hlt2)
      have hyes : brkB file day xs[n] = true → brokB file xs day = true := fun h => List.any_eq_true.2 ⟨_, List.getElem_mem hlt2, h⟩
      have hno' : brkB file day xs[n] = false → Hid (∀ x ∈ xs.take (n + 1), brkB file day x = false) := fun h => Lib.hid (take_all (p := fun x => brkB file day x = false) hlt2 h hno.out)
      clear gi hno g2 g4 g5 g6 g8 g9 g10 g11 g12 g13 g14 g15 g16 g17 g18
      generalize xs[n] = x at *
      by_cases h1 : x.kind = 9
      · have b1 : (x.kind == 9) = true := by rw [beq_iff_eq]; exact h1
        by_cases h2 : x.file = file
        · have b2 : (x.file == file) = true := by rw [beq_iff_eq]; exact h2
          by_cases h3 : x.day ≤ day
          · have b3 : decide (x.day ≤ day) = true := by simpa using h3
            by_cases h4 : day ≤ x.number
            · have b4 : decide (day ≤ x.number) = true := by simpa using h4
              have hr := Lib.hid (hyes (by unfold brkB; rw [b1, b2, b3, b4]; rfl))
              clear hyes hno' h1 h2
              go_wp2_with fail
              go_ret
              exact ⟨ret_bool hr.out.symm, rfl⟩
            · have b4 : decide (day ≤ x.number) = false := by simpa using h4
              have hr := hno' (by unfold brkB; rw [b4]; simp)
              clear hyes hno' h1 h2
              go_wp2_with fail
              go_roundw
              case rel => exact ⟨n + 1, by omega, rfl, hr, trivial⟩
              case measure => simp [intOf]; omega
          · have b3 : decide (x.day ≤ day) = false := by simpa using h3
            have hr := hno' (by unfold brkB; rw [b3]; simp)
            clear hyes hno' h1 h2
            go_wp2_with fail
            go_roundw
            case rel => exact ⟨n + 1, by omega, rfl, hr, trivial⟩
            case measure => simp [intOf]; omega
        · have b2 : (x.file == file) = false := by rw [beq_eq_false_iff_ne]; exact h2
          have hr := hno' (by unfold brkB; rw [b2]; simp)
          clear hyes hno' h1 h2
          go_wp2_with fail
          go_roundw
          case rel => exact ⟨n + 1, by omega, rfl, hr, trivial⟩
          case measure => simp [intOf]; omega
      · have b1 : (x.kind == 9) = false := by rw [beq_eq_false_iff_ne]; exact h1
        have hr := hno' (by unfold brkB; rw [b1]; simp)
        clear hyes hno' h1
        go_wp2_with fail
        go_roundw
        case rel => exact ⟨n + 1, by omega, rfl, hr, trivial⟩
        case measure => simp [intOf]; omega
    · have hr : Hid (brokB file xs day = false) := by
        show _ = _
        unfold brokB
        rw [List.any_eq_false]
        intro x hx
        have := take_done (p := fun x => brkB file day x = false) (by omega) hno.out x hx
        simp [this]
      clear hno
      go_wp2_with fail
      go_ret
      exact ⟨ret_bool hr.out.symm, rfl⟩
set_option maxHeartbeats 1000000 in
theorem rmany_c (file a b : Int) (xs : List Ac) (va : Value) (w : World) (hA : ActsR (ph w) va xs) (ha : -1000000 ≤ a) (ha' : a ≤ 1000000) (hb : -1000000 ≤ b) (hb' : b ≤ 1000000) :
    Calls Tryz.prog 57 #[.int .i64 file, va, .int .i64 a, .int .i64 b] w (RetP w (.int .i64 (many (brokB file xs) a b))) := by
  have hbc := fun d => rbroken_c file d xs va w hA
  have hM : Hid (many (brokB file xs) a b = cnt (brokB file xs) a (b - a + 1).toNat) := rfl
  generalize brokB file xs = p at *
  obtain ⟨xa, xc, rfl, xlen, hA⟩ := hA.form
  go_enter Tryz.func57, Tryz.ntmps57
  go_wp2_with fail
  go_loopw [9, 10] (fun c d wr => ∃ k : Nat, (k = 0 ∨ a + k ≤ b + 1) ∧ d = .int .i64 (a + k) ∧ c = .int .i64 (cnt p a k) ∧ wr = w) (fun _ d _ => (2000001 - intOf d).toNat)
  case atStart => exact ⟨0, .inl rfl, by congr 1; omega, rfl, rfl⟩
  case round =>
    obtain ⟨k, hk, rfl, rfl, rfl⟩ := hrel
    have hc := cnt_le p a k
    have hs : cnt p a (k + 1) = cnt p a k + if p (a + k) then 1 else 0 := rfl
    have hbc2 := hbc (a + k)
    by_cases hd : a + k ≤ b
    · replace hs := Lib.hid hs
      generalize cnt p a k = c at *
      obtain ⟨q, hq⟩ : ∃ q, p (a + k) = q := ⟨_, rfl⟩
      rw [hq] at hbc2 hs
      clear hq hbc hM
      cases q with
      | true =>
        go_wp2_with fail
        refine RetP_at hbc2 ?_
        go_wp2_with fail
        go_roundw
        case rel => exact ⟨k + 1, .inr (by omega), by congr 1; omega, by congr 1; rw [hs.out]; rfl, trivial⟩
        case measure => simp [intOf]; omega
      | false =>
        go_wp2_with fail
        refine RetP_at hbc2 ?_
        go_wp2_with fail
        go_roundw
        case rel => exact ⟨k + 1, .inr (by omega), by congr 1; omega, by congr 1; rw [hs.out]; simp, trivial⟩
        case measure => simp [intOf]; omega
    · have hkk : (b - a + 1).toNat = k := by omega
      rw [hkk] at hM
      generalize cnt p a k = c at *
      clear hs hbc2 hbc
      go_wp2_with fail
      go_ret
      exact ⟨ret_int hM.out.symm, rfl⟩
end Go.Proofs.YtcmdekhhclgdcaaGreatDoor
namespace Go.Proofs.YtcmdekhhclgdcaaGreatDoor
open Go.RowKit Go.Shelf
set_option linter.unusedSimpArgs false
set_option linter.unusedVariables false
def IvR (_ : PH) (cs : List Value) (x : Iv) : Prop := cs = [.int .i64 x.1, .int .i64 x.2] ∧ I64 x.1 ∧ I64 x.2
theorem mono_IvR : Mono IvR := fun _ _ _ _ _ h => h
abbrev IvsR : PH → Value → List Iv → Prop := SliceRep IvR 2
theorem IvsR.at {w : World} {a : Option Addr} {n cap : Nat} {xs : List Iv} (hr : IvsR (ph w) (.slice a n cap) xs) (k : Nat) (hk : k < xs.length) :
    ∃ b o, a = some ⟨b, o, none⟩ ∧ w.cell? ⟨b, o + k * 2, none⟩ = some (.int .i64 xs[k].1) ∧ w.cell? ⟨b, o + k * 2 + 1, none⟩ = some (.int .i64 xs[k].2) ∧ b < w.heap.size ∧ I64 xs[k].1 ∧ I64 xs[k].2 := by
  obtain ⟨b, o, c, d, h1, h2, h3, h4, h5⟩ := hr.get2 k hk
  obtain ⟨q1, q2⟩ : c = .int .i64 xs[k].1 ∧ d = .int .i64 xs[k].2 := by simpa using h4
  subst q1 q2
  exact ⟨b, o, h1, h2, h3, cell_lt h2, h5⟩
theorem bare_c (from' months : Int) (w : World) (hV : VL (ph w)) : Calls Tryz.prog 50 #[.agg #[.int .i64 from', .int .i64 months]] w (RetV w (two (addV from' months).1 (addV from' months).2)) := by
  have hac := fun w hV => add_c from' months w hV
  generalize addV from' months = r at *
  obtain ⟨r1, r2⟩ := r
  dsimp only [two] at hac ⊢
  go_enter Tryz.func50, Tryz.ntmps50
  go_wp2_with fail
  refine RetV_at (hac _ (hV.mono (Ext.ple (by repeat (first | (with_reducible assumption) | (with_reducible exact Ext.rfl' _) | (with_reducible exact Ext.new _ _) | (with_reducible refine Ext.alloc' ?_ _) | (with_reducible refine Ext.drew' ?_) | (with_reducible refine Ext.drewN' ?_ _) | (with_reducible refine Ext.set' ?_ ?_ _; rotate_left; (focus (first | omega | (simp; done) | (simp; omega)))) | (with_reducible refine Ext.then (b := ?_) ?_ ?_; rotate_left; rotate_left; (with_reducible assumption))))))) ?_
  intro w2 hx2
  have hx : Ext w w2 := (by repeat (first | (with_reducible assumption) | (with_reducible exact Ext.rfl' _) | (with_reducible exact Ext.new _ _) | (with_reducible refine Ext.alloc' ?_ _) | (with_reducible refine Ext.drew' ?_) | (with_reducible refine Ext.drewN' ?_ _) | (with_reducible refine Ext.set' ?_ ?_ _; rotate_left; (focus (first | omega | (simp; done) | (simp; omega)))) | (with_reducible refine Ext.then (b := ?_) ?_ ?_; rotate_left; rotate_left; (with_reducible assumption))))
  go_wp2_with fail
  go_ret2
  exact ⟨rfl, hx⟩
theorem laps_snoc (l : List Iv) (x : Iv) (a b : Int) : laps (l ++ [x]) a b = laps l a b + lap a b x.1 x.2 := by unfold laps; simp
theorem laps_bd (a b : Int) : ∀ (l : List Iv), (∀ x ∈ l, 0 ≤ x.1 ∧ x.1 ≤ x.2 ∧ x.2 ≤ 131072) → 0 ≤ laps l a b ∧ laps l a b ≤ 131073 * l.length
  | [], _ => by simp [laps]
  | x :: l, h => by
    have h1 := laps_bd a b l (fun y hy => h y (by simp [hy]))
    have h2 := h x (by simp)
    have h3 : laps (x :: l) a b = lap a b x.1 x.2 + laps l a b := by unfold laps; simp
    rw [h3, List.length_cons]
    unfold lap
    omega
set_option maxHeartbeats 1000000 in
theorem broken_c (l : List Iv) (a b : Int) (v : Value) (w : World) (hr : IvsR (ph w) v l) (hl : ∀ x ∈ l, 0 ≤ x.1 ∧ x.1 ≤ x.2 ∧ x.2 ≤ 131072) (hn : l.length ≤ 1000000) (ha : -1000000 ≤ a) (ha' : a ≤ 1000000) (hb : -1000000 ≤ b) (hb' : b ≤ 1000000) :
    Calls Tryz.prog 52 #[v, .int .i64 a, .int .i64 b] w (RetV w (.int .i64 (laps l a b))) := by
  obtain ⟨xa, xc, rfl, xlen, hr⟩ := hr.form
  go_enter Tryz.func52, Tryz.ntmps52
  go_wp2_with fail
  go_loopw [7, 12] (fun c i wr => ∃ k : Nat, k ≤ l.length ∧ i = .int .i64 k ∧ c = .int .i64 (laps (l.take k) a b) ∧ Ext w wr) (fun _ i _ => l.length - (intOf i).toNat)
  case atStart => exact ⟨0, by omega, rfl, by congr 1, Ext.rfl' _⟩
  case round =>
    obtain ⟨k, hk, rfl, rfl, hx⟩ := hrel
    by_cases hlt : k < l.length
    · obtain ⟨gb, go, rfl, g0, g1, gl, i0, i1⟩ := IvsR.at (hr.mono mono_IvR hx.ple) k hlt
      have hc := laps_bd a b (l.take k) (fun x hx => hl x (List.mem_of_mem_take hx))
      have hlen : (l.take k).length ≤ 1000000 := by simp; omega
      have hs : Hid (laps (l.take (k + 1)) a b = laps (l.take k) a b + lap a b l[k].1 l[k].2) := by show _ = _; rw [take_snoc l k hlt, laps_snoc]
      have hb2 := hl l[k] (List.getElem_mem hlt)
      generalize laps (l.take k) a b = c at *
      generalize l[k] = x at *
      obtain ⟨x0, x1⟩ := x
      dsimp only at g0 g1 i0 i1 hb2 hs
      have hlp : Hid (lap a b x0 x1 = max 0 (min b x1 - max a x0 + 1)) := rfl
      unfold I64 at i0 i1
      have hcl : c ≤ 131073000000 := by omega
      obtain ⟨hc0, -⟩ := hc
      obtain ⟨q0, q1, q2⟩ := hb2
      clear i0 i1 hlen
      by_cases h1 : b ≤ x1 <;> by_cases h2 : x0 ≤ a
      all_goals
        go_wp2_with fail
        all_goals
          go_roundw
          case rel => exact ⟨k + 1, by omega, rfl, by congr 1; rw [hs.out, hlp.out]; omega, (by repeat (first | (with_reducible assumption) | (with_reducible exact Ext.rfl' _) | (with_reducible exact Ext.new _ _) | (with_reducible refine Ext.alloc' ?_ _) | (with_reducible refine Ext.drew' ?_) | (with_reducible refine Ext.drewN' ?_ _) | (with_reducible refine Ext.set' ?_ ?_ _; rotate_left; (focus (first | omega | (simp; done) | (simp; omega)))) | (with_reducible refine Ext.then (b := ?_) ?_ ?_; rotate_left; rotate_left; (with_reducible assumption))))⟩
          case measure => simp [intOf]; omega
    · obtain rfl : k = l.length := by omega
      rw [List.take_length]
      generalize laps l a b = z at *
      go_wp2_with fail
      go_ret
      exact ⟨rfl, hx⟩
end Go.Proofs.YtcmdekhhclgdcaaGreatDoor
