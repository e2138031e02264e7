/- package ratio: simplest.; package ratio: valid, cmp, Between.; package ratio: Between. -/
import Derived.Deep.CutBlock
import Derived.Test.YtmbkefgmiehdiaaSpSp
namespace Go.Proofs.Ytmbkefgmiehdiaa
open Go.RowKit Go.Shelf
set_option linter.unusedSimpArgs false
set_option linter.unusedVariables false
/-- the simplest number between a/b and c/d (d = 0: no end) -/
def simpF : Nat → Int → Int → Int → Int → Int × Int
  | 0, _, _, _, _ => (0, 0)
  | f + 1, a, b, c, d => if d = 0 ∨ (a / b + 1) * d < c then (a / b + 1, 1) else
    (a / b * (simpF f d (c - a / b * d) b (a - a / b * b)).1 + (simpF f d (c - a / b * d) b (a - a / b * b)).2, (simpF f d (c - a / b * d) b (a - a / b * b)).1)
structure SimpP (f : Nat) (a b c d : Int) : Prop where
  a0 : 0 ≤ a
  a1 : a ≤ 1099511627776
  b0 : 1 ≤ b
  b1 : b ≤ 1048576
  c0 : 1 ≤ c
  c1 : c ≤ 1099511627776
  d0 : 0 ≤ d
  d1 : d ≤ 1048576
  lt : a * d < c * b
  fu : b + d ≤ f
theorem SimpP.q {f : Nat} {a b c d : Int} (h : SimpP f a b c d) : 0 ≤ a / b ∧ a / b ≤ a ∧ a / b * b ≤ a ∧ a < (a / b + 1) * b ∧ a / b * d < c ∧ 0 ≤ a / b * d := by
  have h1 := h.b0
  have h2 := h.a0
  have e1 : 0 ≤ a / b := Int.ediv_nonneg h2 (by omega)
  have e2 : a / b * b ≤ a := Int.ediv_mul_le a (by omega)
  have e3 : a < (a / b + 1) * b := Int.lt_ediv_add_one_mul_self a (by omega)
  refine ⟨e1, ?_, e2, e3, ?_, Int.mul_nonneg e1 h.d0⟩
  · have : a / b * 1 ≤ a / b * b := Int.mul_le_mul_of_nonneg_left h1 e1
    omega
  · have h3 : a / b * b * d ≤ a * d := Int.mul_le_mul_of_nonneg_right e2 h.d0
    have h4 : a / b * d * b < c * b := by
      have := h.lt
      rw [Int.mul_right_comm]; omega
    exact Int.lt_of_mul_lt_mul_right h4 (by omega)
theorem SimpP.next {f : Nat} {a b c d : Int} (h : SimpP (f + 1) a b c d) (h0 : ¬ (d = 0 ∨ (a / b + 1) * d < c)) : SimpP f d (c - a / b * d) b (a - a / b * b) := by
  obtain ⟨e1, e2, e3, e4, e5, e6⟩ := h.q
  have h1 : c ≤ (a / b + 1) * d := by omega
  rw [Int.add_mul, Int.one_mul] at h1 e4
  have := h.d0; have := h.d1; have := h.b0; have := h.b1; have := h.fu
  refine ⟨by omega, by omega, by omega, by omega, by omega, by omega, by omega, by omega, ?_, by omega⟩
  have := h.lt
  have x1 : d * (a - a / b * b) = a * d - a / b * b * d := by rw [Int.mul_sub, Int.mul_comm d a, Int.mul_comm d]
  have x2 : b * (c - a / b * d) = c * b - a / b * d * b := by rw [Int.mul_sub, Int.mul_comm b c, Int.mul_comm b]
  rw [x1, x2, Int.mul_right_comm (a / b) d b]
  omega
theorem simp_bd {f : Nat} : ∀ {a b c d : Int}, SimpP f a b c d → 1 ≤ (simpF f a b c d).1 ∧ (simpF f a b c d).1 ≤ a + c ∧ 1 ≤ (simpF f a b c d).2 ∧ (simpF f a b c d).2 ≤ b + d := by
  induction f with
  | zero => intro a b c d h; have := h.fu; have := h.b0; have := h.d0; omega
  | succ f ih =>
    intro a b c d h
    obtain ⟨e1, e2, e3, e4, e5, e6⟩ := h.q
    have := h.b0; have := h.d0; have := h.c0
    by_cases h0 : d = 0 ∨ (a / b + 1) * d < c
    · rw [show simpF (f + 1) a b c d = (a / b + 1, 1) by rw [simpF, if_pos h0]]
      refine ⟨by dsimp only; omega, ?_, by dsimp only; omega, by dsimp only; omega⟩
      dsimp only; omega
    · have hn := h.next h0
      obtain ⟨i1, i2, i3, i4⟩ := ih hn
      rw [show simpF (f + 1) a b c d = _ by rw [simpF, if_neg h0]]
      generalize simpF f d (c - a / b * d) b (a - a / b * b) = r at *
      dsimp only
      have m1 : 0 ≤ a / b * r.1 := Int.mul_nonneg e1 (by omega)
      have m2 : a / b * r.1 ≤ a / b * (d + b) := Int.mul_le_mul_of_nonneg_left i2 e1
      rw [Int.mul_add] at m2
      refine ⟨by omega, by omega, by omega, by omega⟩
set_option maxRecDepth 100000 in
set_option maxHeartbeats 4000000 in
theorem simplest_c (f : Nat) : ∀ (a b c d : Int) (w : World), SimpP f a b c d →
    Calls Try.prog 73 #[.int .i64 a, .int .i64 b, .int .i64 c, .int .i64 d] w (RetV w (.tuple #[.int .i64 (simpF f a b c d).1, .int .i64 (simpF f a b c d).2])) := by
  induction f with
  | zero => intro a b c d w h; have := h.fu; have := h.b0; have := h.d0; omega
  | succ f ih =>
    intro a b c d w h
    obtain ⟨e1, e2, e3, e4, e5, e6⟩ := h.q
    obtain ⟨r1, r2, r3, r4⟩ := simp_bd h
    have a0 := h.a0; have a1 := h.a1; have b0 := h.b0; have b1 := h.b1; have c0 := h.c0; have c1 := h.c1; have d0 := h.d0; have d1 := h.d1
    have htd : a.tdiv b = a / b := Int.tdiv_eq_ediv_of_nonneg a0
    have hq1 : IntKind.i64.wrap (a / b) = a / b := wrap_id (by omega) (by omega)
    have hq2 : IntKind.i64.wrap (a / b + 1) = a / b + 1 := wrap_id (by omega) (by omega)
    have hbb : (b == 0) = false := by simp; omega
    by_cases hd : d = 0
    · subst hd
      have hs : Hid (simpF (f + 1) a b c 0 = (a / b + 1, 1)) := Lib.hid (by rw [simpF, if_pos (.inl rfl)])
      rw [hs.out]
      clear ih r1 r2 r3 r4
      generalize a / b = q at *
      clear h e3 e4 e5 e6
      go_enter Try.func73, Try.ntmps73
      go_wp2_with fail
      go_ret2
      exact ⟨rfl, (by repeat (first | (with_reducible assumption) | (with_reducible exact Ext.rfl' _) | (with_reducible exact Ext.new _ _) | (with_reducible refine Ext.alloc' ?_ _) | (with_reducible refine Ext.drew' ?_) | (with_reducible refine Ext.drewN' ?_ _) | (with_reducible refine Ext.set' ?_ ?_ _; rotate_left; (focus (first | omega | (simp; done) | (simp; omega)))) | (with_reducible refine Ext.then (b := ?_) ?_ ?_; rotate_left; rotate_left; (with_reducible assumption))))⟩
    · have hdb : (d == 0) = false := by simpa using hd
      have h2 : (a / b + 1) * d = a / b * d + d := by rw [Int.add_mul, Int.one_mul]
      have hw1 : IntKind.i64.wrap ((a / b + 1) * d) = (a / b + 1) * d := wrap_id (by omega) (by omega)
      by_cases hl : (a / b + 1) * d < c
      · have hs : Hid (simpF (f + 1) a b c d = (a / b + 1, 1)) := Lib.hid (by rw [simpF, if_pos (.inr hl)])
        rw [hs.out]
        clear ih r1 r2 r3 r4 h2
        generalize a / b = q at *
        clear h e3 e4 e5 e6
        go_enter Try.func73, Try.ntmps73
        go_wp2_with fail
        go_ret2
        exact ⟨rfl, (by repeat (first | (with_reducible assumption) | (with_reducible exact Ext.rfl' _) | (with_reducible exact Ext.new _ _) | (with_reducible refine Ext.alloc' ?_ _) | (with_reducible refine Ext.drew' ?_) | (with_reducible refine Ext.drewN' ?_ _) | (with_reducible refine Ext.set' ?_ ?_ _; rotate_left; (focus (first | omega | (simp; done) | (simp; omega)))) | (with_reducible refine Ext.then (b := ?_) ?_ ?_; rotate_left; rotate_left; (with_reducible assumption))))⟩
      · have hn := h.next (by omega)
        have hi := fun w => ih _ _ _ _ w hn
        obtain ⟨i1, i2, i3, i4⟩ := simp_bd hn
        have hs : Hid (simpF (f + 1) a b c d = (a / b * (simpF f d (c - a / b * d) b (a - a / b * b)).1 + (simpF f d (c - a / b * d) b (a - a / b * b)).2, (simpF f d (c - a / b * d) b (a - a / b * b)).1)) := Lib.hid (by rw [simpF, if_neg (by omega)])
        rw [hs.out] at r1 r2 r3 r4 ⊢
        have m1 : 0 ≤ a / b * (simpF f d (c - a / b * d) b (a - a / b * b)).1 := Int.mul_nonneg e1 (by omega)
        have hbn : 0 ≤ a / b * b := Int.mul_nonneg e1 (by omega)
        have hw2 : IntKind.i64.wrap (a / b * d) = a / b * d := wrap_id (by omega) (by omega)
        have hw3 : IntKind.i64.wrap (c - a / b * d) = c - a / b * d := wrap_id (by omega) (by omega)
        have hw4 : IntKind.i64.wrap (a / b * b) = a / b * b := wrap_id (by omega) (by omega)
        have hw5 : IntKind.i64.wrap (a - a / b * b) = a - a / b * b := wrap_id (by omega) (by omega)
        have hw6 : IntKind.i64.wrap (a / b * (simpF f d (c - a / b * d) b (a - a / b * b)).1) = a / b * (simpF f d (c - a / b * d) b (a - a / b * b)).1 := wrap_id (by omega) (by omega)
        have hw7 : IntKind.i64.wrap (a / b * (simpF f d (c - a / b * d) b (a - a / b * b)).1 + (simpF f d (c - a / b * d) b (a - a / b * b)).2) = a / b * (simpF f d (c - a / b * d) b (a - a / b * b)).1 + (simpF f d (c - a / b * d) b (a - a / b * b)).2 := by
          dsimp only at r1 r2
          exact wrap_id (by omega) (by omega)
        generalize simpF f d (c - a / b * d) b (a - a / b * b) = r at *
        clear hs hn ih h r1 r2 r3 r4 i1 i2 i3 i4 m1
        generalize a / b = q at *
        have hl2 : decide ((q + 1) * d < c) = false := by simpa using hl
        replace hi := Lib.hid hi
        clear e3 e4 e5 e6 h2 hbn
        go_enter Try.func73, Try.ntmps73
        go_wp2_with fail
        refine RetV_at (hi.out _) ?_
        intro w2 hx2
        go_wp2_with fail
        go_ret2
        exact ⟨rfl, (by repeat (first | (with_reducible assumption) | (with_reducible exact Ext.rfl' _) | (with_reducible exact Ext.new _ _) | (with_reducible refine Ext.alloc' ?_ _) | (with_reducible refine Ext.drew' ?_) | (with_reducible refine Ext.drewN' ?_ _) | (with_reducible refine Ext.set' ?_ ?_ _; rotate_left; (focus (first | omega | (simp; done) | (simp; omega)))) | (with_reducible refine Ext.then (b := ?_) ?_ ?_; rotate_left; rotate_left; (with_reducible assumption))))⟩
end Go.Proofs.Ytmbkefgmiehdiaa
namespace Go.Proofs.Ytmbkefgmiehdiaa
open Go.RowKit Go.Shelf
set_option linter.unusedSimpArgs false
set_option linter.unusedVariables false
def validE (l : List Rat2) : Int := if l.all (fun r => decide (RatOk r)) then 0 else 1
set_option maxRecDepth 100000 in
set_option maxHeartbeats 4000000 in
theorem ratvalids_c (v : Value) (l : List Rat2) (w : World) (hr : RatsR (ph w) v l) : Calls Try.prog 71 #[v] w (RetV w (.int .i64 (validE l))) := by
  obtain ⟨a, c, rfl, hlen, hr⟩ := hr.form
  have hE : Hid (validE l = if l.all (fun r => decide (RatOk r)) then 0 else 1) := rfl
  go_enter Try.func71, Try.ntmps71
  go_wp2_with fail
  go_loopw [8] (fun i wr => ∃ k : Nat, k ≤ l.length ∧ i = .int .i64 k ∧ Hid ((l.take k).all (fun r => decide (RatOk r)) = true) ∧ Ext w wr) (fun i _ => l.length - (intOf i).toNat)
  case atStart => exact ⟨0, Nat.zero_le _, rfl, Lib.hid (by simp), Ext.rfl' _⟩
  case round =>
    obtain ⟨k, hk, rfl, ho, hx⟩ := hrel
    by_cases hlt : k < l.length
    · obtain ⟨b, o, rfl, h0, h1, hI, hbl⟩ := RatsR.at (hr.mono mono_RatR hx.ple) k hlt
      have hja : decide (k < l.length) = true := decide_eq_true hlt
      have hv := fun w => ratValid_c l[k] w hI.1 hI.2
      have hn1 : Hid ((l.take (k + 1)).all (fun r => decide (RatOk r)) = decide (RatOk l[k])) := Lib.hid (by
        rw [List.take_succ_eq_append_getElem hlt, List.all_append, ho.out]; simp)
      have hn2 : Hid (¬ RatOk l[k] → validE l = 1) := Lib.hid fun h => by
        rw [hE.out, if_neg]
        rw [List.all_eq_true]
        intro hh; have := hh _ (List.getElem_mem hlt); simp [h] at this
      generalize hx0 : l[k] = x at *
      obtain ⟨p, q⟩ := x
      dsimp only at *
      clear hx0
      replace hv := Lib.hid hv
      have hx1 := hx.then (Ext.new wr (.cells #[.int .i64 p, .int .i64 q] 40))
      have hO := Proofs.Ytmbkefgmiehdiaa.Own.new wr #[.int .i64 p, .int .i64 q] 40
      go_upto_region 4 with (fail)
      generalize wr.heap.size = bx at *
      generalize wr.alloc _ = W at *
      obtain ⟨cx, fx⟩ := hO.facts
      have zx := hO.lt
      have c0 : _ = some (Value.int .i64 p) := cx 0
      have c1 : _ = some (Value.int .i64 q) := cx 1
      clear cx h0 h1 hbl hx
      go_wp2_with fail
      refine RetV_at (hv.out _) ?_
      intro w2 hx2
      replace hx1 := hx1.then hx2
      by_cases hok : RatOk ⟨p, q⟩
      · have e : ErrIf (RatOk ⟨p, q⟩) 1 = 0 := if_pos hok
        rw [e]
        have hn3 : Hid ((l.take (k + 1)).all (fun r => decide (RatOk r)) = true) := Lib.hid (by rw [hn1.out]; simp [hok])
        clear hv hn1 hn2 c0 c1
        replace hok := Lib.hid hok
        go_wp2_with fail
        go_roundw
        case rel => exact ⟨k + 1, by omega, by go_num, hn3, hx1⟩
        case measure => simp [intOf]; omega
      · have e : ErrIf (RatOk ⟨p, q⟩) 1 = 1 := if_neg hok
        rw [e]
        have hn3 : Hid (validE l = 1) := Lib.hid (hn2.out hok)
        clear hv hn1 hn2 c0 c1
        replace hok := Lib.hid hok
        go_wp2_with fail
        go_ret
        exact ⟨ret_int hn3.out.symm, hx1⟩
    · have hja : decide (k < l.length) = false := by simpa using hlt
      have h9 : Hid (validE l = 0) := Lib.hid (by
        have := ho.out
        rw [List.take_of_length_le (by omega)] at this
        rw [hE.out, if_pos this])
      go_wp2_with fail
      go_ret
      exact ⟨ret_int h9.out.symm, hx⟩
def cmpR (a b : Rat2) : Int := if a.num * b.den < b.num * a.den then -1 else if b.num * a.den < a.num * b.den then 1 else 0
set_option maxRecDepth 100000 in
set_option maxHeartbeats 4000000 in
theorem ratcmp_c (a b : Rat2) (w : World) (ha : a.bd) (hb : b.bd) : Calls Try.prog 72 #[raA a, raA b] w (RetV w (.int .i64 (cmpR a b))) := by
  have hw1 := mul_bd2 ha.1 ha.2.1 hb.2.2.1 hb.2.2.2
  have hw2 := mul_bd2 hb.1 hb.2.1 ha.2.2.1 ha.2.2.2
  have hs : Hid (cmpR a b = if a.num * b.den < b.num * a.den then -1 else if b.num * a.den < a.num * b.den then 1 else 0) := rfl
  have e1 : IntKind.i64.wrap (a.num * b.den) = a.num * b.den := wrap_id (by omega) (by omega)
  have e2 : IntKind.i64.wrap (b.num * a.den) = b.num * a.den := wrap_id (by omega) (by omega)
  obtain ⟨n, d⟩ := a
  obtain ⟨n', d'⟩ := b
  unfold raA
  dsimp only at *
  generalize cmpR _ _ = q at *
  clear ha hb hw1 hw2
  go_enter Try.func72, Try.ntmps72
  go_wp2_with fail
  go_quiet (fail)
  by_cases h1 : n * d' < n' * d
  · have hq : Hid (q = -1) := Lib.hid (by rw [hs.out, if_pos h1])
    go_wp2_with fail
    go_ret
    exact ⟨ret_int hq.out.symm, (by repeat (first | (with_reducible assumption) | (with_reducible exact Ext.rfl' _) | (with_reducible exact Ext.new _ _) | (with_reducible refine Ext.alloc' ?_ _) | (with_reducible refine Ext.drew' ?_) | (with_reducible refine Ext.drewN' ?_ _) | (with_reducible refine Ext.set' ?_ ?_ _; rotate_left; (focus (first | omega | (simp; done) | (simp; omega)))) | (with_reducible refine Ext.then (b := ?_) ?_ ?_; rotate_left; rotate_left; (with_reducible assumption))))⟩
  · by_cases h2 : n' * d < n * d'
    · have hq : Hid (q = 1) := Lib.hid (by rw [hs.out, if_neg h1, if_pos h2])
      go_wp2_with fail
      go_ret
      exact ⟨ret_int hq.out.symm, (by repeat (first | (with_reducible assumption) | (with_reducible exact Ext.rfl' _) | (with_reducible exact Ext.new _ _) | (with_reducible refine Ext.alloc' ?_ _) | (with_reducible refine Ext.drew' ?_) | (with_reducible refine Ext.drewN' ?_ _) | (with_reducible refine Ext.set' ?_ ?_ _; rotate_left; (focus (first | omega | (simp; done) | (simp; omega)))) | (with_reducible refine Ext.then (b := ?_) ?_ ?_; rotate_left; rotate_left; (with_reducible assumption))))⟩
    · have hq : Hid (q = 0) := Lib.hid (by rw [hs.out, if_neg h1, if_neg h2])
      go_wp2_with fail
      go_ret
      exact ⟨ret_int hq.out.symm, (by repeat (first | (with_reducible assumption) | (with_reducible exact Ext.rfl' _) | (with_reducible exact Ext.new _ _) | (with_reducible refine Ext.alloc' ?_ _) | (with_reducible refine Ext.drew' ?_) | (with_reducible refine Ext.drewN' ?_ _) | (with_reducible refine Ext.set' ?_ ?_ _; rotate_left; (focus (first | omega | (simp; done) | (simp; omega)))) | (with_reducible refine Ext.then (b := ?_) ?_ ?_; rotate_left; rotate_left; (with_reducible assumption))))⟩
end Go.Proofs.Ytmbkefgmiehdiaa
namespace Go.Proofs.Ytmbkefgmiehdiaa
open Go.RowKit Go.Shelf
set_option linter.unusedSimpArgs false
set_option linter.unusedVariables false
def simpS (a b c d : Int) : Int × Int := simpF (b + d).toNat a b c d
/-- the simplest number between two ratios -/
def betwS (lo hi : Rat2) : Rat2 × Int :=
  if validE [lo, hi] ≠ 0 then (⟨0, 0⟩, 1) else if 0 ≤ cmpR lo hi then (⟨0, 0⟩, 13) else if lo.num < 0 ∧ 0 < hi.num then (⟨0, 1⟩, 0) else
  if lo.num < 0 then newS (-(simpS (-hi.num) hi.den (-lo.num) lo.den).1) (simpS (-hi.num) hi.den (-lo.num) lo.den).2
  else newS (simpS lo.num lo.den hi.num hi.den).1 (simpS lo.num lo.den hi.num hi.den).2
theorem validE_2 {a b : Rat2} : validE [a, b] = if RatOk a ∧ RatOk b then 0 else 1 := by
  unfold validE
  by_cases h1 : RatOk a <;> by_cases h2 : RatOk b <;> simp [h1, h2]
theorem cmpR_neg {a b : Rat2} (h : cmpR a b < 0) : a.num * b.den < b.num * a.den := by
  unfold cmpR at h
  split at h
  · assumption
  · split at h <;> omega
theorem simpS_pos {lo hi : Rat2} (h1 : RatOk lo) (h2 : RatOk hi) (h : lo.num * hi.den < hi.num * lo.den) (h0 : 0 ≤ lo.num) : SimpP (lo.den + hi.den).toNat lo.num lo.den hi.num hi.den := by
  obtain ⟨a1, a2, a3, a4, -⟩ := ratOk_iff.1 h1
  obtain ⟨b1, b2, b3, b4, -⟩ := ratOk_iff.1 h2
  refine ⟨h0, a4, a1, a2, ?_, b4, by omega, b2, h, by omega⟩
  have : 0 ≤ lo.num * hi.den := Int.mul_nonneg h0 (by omega)
  have h3 : 0 * lo.den < hi.num * lo.den := by omega
  exact Int.lt_of_mul_lt_mul_right h3 (by omega)
theorem simpS_neg {lo hi : Rat2} (h1 : RatOk lo) (h2 : RatOk hi) (h : lo.num * hi.den < hi.num * lo.den) (h0 : lo.num < 0) (h3 : hi.num ≤ 0) : SimpP (hi.den + lo.den).toNat (-hi.num) hi.den (-lo.num) lo.den := by
  obtain ⟨a1, a2, a3, a4, -⟩ := ratOk_iff.1 h1
  obtain ⟨b1, b2, b3, b4, -⟩ := ratOk_iff.1 h2
  refine ⟨by omega, by omega, b1, b2, by omega, by omega, by omega, a2, ?_, by omega⟩
  rw [Int.neg_mul, Int.neg_mul]; omega
theorem validE_cases (l : List Rat2) : validE l = 0 ∨ validE l = 1 := by unfold validE; split <;> simp
set_option maxRecDepth 100000 in
set_option maxHeartbeats 8000000 in
theorem btw_c (lo hi : Rat2) (w : World) (hl : lo.I) (hh : hi.I) : Calls Try.prog 35 #[raA lo, raA hi] w (RetV w (raE (betwS lo hi).1 (betwS lo hi).2)) := by
  have hv2 := fun W => ratvalids_c _ [lo, hi] _ (sliceArr (E := RatR) (sz := 2) (n := 2) (xs := [lo, hi]) (Proofs.Ytmbkefgmiehdiaa.Own.new W #[.int .i64 lo.num, .int .i64 lo.den, .int .i64 hi.num, .int .i64 hi.den] 40) ⟨[.int .i64 lo.num, .int .i64 lo.den], [.int .i64 hi.num, .int .i64 hi.den], rfl, rfl, ⟨rfl, hl⟩, [.int .i64 hi.num, .int .i64 hi.den], [], rfl, rfl, ⟨rfl, hh⟩, rfl⟩ rfl (by decide))
  have hcm := fun (h1 : RatOk lo) (h2 : RatOk hi) w => ratcmp_c lo hi w h1.bd h2.bd
  have hs : Hid (betwS lo hi = if validE [lo, hi] ≠ 0 then (⟨0, 0⟩, 1) else if 0 ≤ cmpR lo hi then (⟨0, 0⟩, 13) else if lo.num < 0 ∧ 0 < hi.num then (⟨0, 1⟩, 0) else
  if lo.num < 0 then newS (-(simpS (-hi.num) hi.den (-lo.num) lo.den).1) (simpS (-hi.num) hi.den (-lo.num) lo.den).2
  else newS (simpS lo.num lo.den hi.num hi.den).1 (simpS lo.num lo.den hi.num hi.den).2) := rfl
  have hp := fun h1 h2 h h0 w => simplest_c _ _ _ _ _ w (simpS_pos (lo := lo) (hi := hi) h1 h2 h h0)
  have hn := fun h1 h2 h h0 h3 w => simplest_c _ _ _ _ _ w (simpS_neg (lo := lo) (hi := hi) h1 h2 h h0 h3)
  have hpb := fun h1 h2 h h0 => simp_bd (simpS_pos (lo := lo) (hi := hi) h1 h2 h h0)
  have hnb := fun h1 h2 h h0 h3 => simp_bd (simpS_neg (lo := lo) (hi := hi) h1 h2 h h0 h3)
  change (∀ (h1 : RatOk lo) (h2 : RatOk hi) (h : lo.num * hi.den < hi.num * lo.den) (h0 : 0 ≤ lo.num) (w : World), Calls Try.prog 73 #[.int .i64 lo.num, .int .i64 lo.den, .int .i64 hi.num, .int .i64 hi.den] w (RetV w (.tuple #[.int .i64 (simpS lo.num lo.den hi.num hi.den).1, .int .i64 (simpS lo.num lo.den hi.num hi.den).2]))) at hp
  change (∀ (h1 : RatOk lo) (h2 : RatOk hi) (h : lo.num * hi.den < hi.num * lo.den) (h0 : lo.num < 0) (h3 : hi.num ≤ 0) (w : World), Calls Try.prog 73 #[.int .i64 (-hi.num), .int .i64 hi.den, .int .i64 (-lo.num), .int .i64 lo.den] w (RetV w (.tuple #[.int .i64 (simpS (-hi.num) hi.den (-lo.num) lo.den).1, .int .i64 (simpS (-hi.num) hi.den (-lo.num) lo.den).2]))) at hn
  change (∀ (h1 : RatOk lo) (h2 : RatOk hi) (h : lo.num * hi.den < hi.num * lo.den) (h0 : 0 ≤ lo.num), 1 ≤ (simpS lo.num lo.den hi.num hi.den).1 ∧ (simpS lo.num lo.den hi.num hi.den).1 ≤ lo.num + hi.num ∧ 1 ≤ (simpS lo.num lo.den hi.num hi.den).2 ∧ (simpS lo.num lo.den hi.num hi.den).2 ≤ lo.den + hi.den) at hpb
  change (∀ (h1 : RatOk lo) (h2 : RatOk hi) (h : lo.num * hi.den < hi.num * lo.den) (h0 : lo.num < 0) (h3 : hi.num ≤ 0), 1 ≤ (simpS (-hi.num) hi.den (-lo.num) lo.den).1 ∧ (simpS (-hi.num) hi.den (-lo.num) lo.den).1 ≤ -hi.num + -lo.num ∧ 1 ≤ (simpS (-hi.num) hi.den (-lo.num) lo.den).2 ∧ (simpS (-hi.num) hi.den (-lo.num) lo.den).2 ≤ hi.den + lo.den) at hnb
  have hve := validE_2 (a := lo) (b := hi)
  have hcn := fun h => cmpR_neg (a := lo) (b := hi) h
  have hok1 := fun (h : RatOk lo) => ratOk_iff.1 h
  have hok2 := fun (h : RatOk hi) => ratOk_iff.1 h
  generalize simpS lo.num lo.den hi.num hi.den = sp at *
  generalize simpS (-hi.num) hi.den (-lo.num) lo.den = sn at *
  generalize cmpR lo hi = cm at *
  generalize betwS lo hi = res at *
  obtain ⟨a, b⟩ := lo
  obtain ⟨c, d⟩ := hi
  unfold raA at *
  dsimp only at *
  generalize validE _ = ve at *
  replace hv2 := Lib.hid hv2
  replace hcm := Lib.hid hcm
  replace hp := Lib.hid hp
  replace hn := Lib.hid hn
  obtain ⟨rr, re⟩ := res
  unfold raE raA
  dsimp only
  go_enter Try.func35, Try.ntmps35
  have hO2 := ((Proofs.Ytmbkefgmiehdiaa.Own.new w #[.int .i64 a, .int .i64 b] 40).alloc (.cells #[.int .i64 c, .int .i64 d] 40)).alloc (.cells #[.int .i64 0, .int .i64 0] 40)
  have hO3 := (Own.new' (w.alloc (.cells #[.int .i64 a, .int .i64 b] 40)) #[.int .i64 c, .int .i64 d] 40 (n := w.heap.size + 1) (by simp)).alloc (.cells #[.int .i64 0, .int .i64 0] 40)
  have hO4 := Own.new' ((w.alloc (.cells #[.int .i64 a, .int .i64 b] 40)).alloc (.cells #[.int .i64 c, .int .i64 d] 40)) #[.int .i64 0, .int .i64 0] 40 (n := w.heap.size + 1 + 1) (by simp)
  have hx : Ext w (((w.alloc (.cells #[.int .i64 a, .int .i64 b] 40)).alloc (.cells #[.int .i64 c, .int .i64 d] 40)).alloc (.cells #[.int .i64 0, .int .i64 0] 40)) := (by repeat (first | (with_reducible assumption) | (with_reducible exact Ext.rfl' _) | (with_reducible exact Ext.new _ _) | (with_reducible refine Ext.alloc' ?_ _) | (with_reducible refine Ext.drew' ?_) | (with_reducible refine Ext.drewN' ?_ _) | (with_reducible refine Ext.set' ?_ ?_ _; rotate_left; (focus (first | omega | (simp; done) | (simp; omega)))) | (with_reducible refine Ext.then (b := ?_) ?_ ?_; rotate_left; rotate_left; (with_reducible assumption))))
  go_upto_region 1 with (fail)
  generalize ((w.alloc _).alloc _).alloc _ = W at *
  have hq := hv2.out W
  replace hq := Lib.hid hq
  obtain ⟨c2, f2⟩ := hO2.facts
  obtain ⟨c3, f3⟩ := hO3.facts
  obtain ⟨c4, f4⟩ := hO4.facts
  have z2 := hO2.lt
  have z3 := hO3.lt
  have z4 := hO4.lt
  have k20 : _ = some (Value.int .i64 a) := c2 0
  have k21 : _ = some (Value.int .i64 b) := c2 1
  have k30 : _ = some (Value.int .i64 c) := c3 0
  have k31 : _ = some (Value.int .i64 d) := c3 1
  clear c2 c3
  go_wp2_with fail
  refine RetV_at hq.out ?_
  intro w2 hx2
  have hx2' := (Ext.new W (.cells #[.int .i64 a, .int .i64 b, .int .i64 c, .int .i64 d] 40)).then hx2
  replace hO2 := hO2.keep hx2'
  replace hO3 := hO3.keep hx2'
  replace hO4 := hO4.keep hx2'
  replace hx := hx.then hx2'
  clear hq hv2 hx2 hx2' f2 f3 c4 f4 z2 z3 z4 k20 k21 k30 k31
  obtain ⟨c2, f2⟩ := hO2.facts
  obtain ⟨c3, f3⟩ := hO3.facts
  obtain ⟨c4, f4⟩ := hO4.facts
  have z2 := hO2.lt
  have z3 := hO3.lt
  have z4 := hO4.lt
  have k20 : _ = some (Value.int .i64 a) := c2 0
  have k21 : _ = some (Value.int .i64 b) := c2 1
  have k30 : _ = some (Value.int .i64 c) := c3 0
  have k31 : _ = some (Value.int .i64 d) := c3 1
  clear c2 c3
  have hle : w.heap.size ≤ w.heap.size + 1 + 1 := by omega
  by_cases hr1 : ve ≠ 0
  · have hve1 : ve = 1 := by
      rw [hve] at hr1 ⊢; split at hr1 <;> simp_all
    rw [if_pos hr1] at hs
    subst hve1
    obtain ⟨e1, e2⟩ := Prod.mk.inj hs.out
    subst e1
    clear hve hpb hnb hcn hok1 hok2 hp hn hcm hr1
    go_wp2_with fail
    exact bodyPost_ret (v := .tuple #[.agg #[.int .i64 0, .int .i64 0], .int .i64 1]) (by simp [results, Try.results35, go_sem, c4, f4, z4]) rfl ⟨by rw [e2], (by repeat (first | (with_reducible assumption) | (with_reducible exact Ext.rfl' _) | (with_reducible exact Ext.new _ _) | (with_reducible refine Ext.alloc' ?_ _) | (with_reducible refine Ext.drew' ?_) | (with_reducible refine Ext.drewN' ?_ _) | (with_reducible refine Ext.set' ?_ ?_ _; rotate_left; (focus (first | omega | (simp; done) | (simp; omega)))) | (with_reducible refine Ext.then (b := ?_) ?_ ?_; rotate_left; rotate_left; (with_reducible assumption))))⟩
  · rw [if_neg hr1] at hs
    have hve0 : ve = 0 := by omega
    subst hve0
    have hok : RatOk ⟨a, b⟩ ∧ RatOk ⟨c, d⟩ := by
      by_cases h : RatOk ⟨a, b⟩ ∧ RatOk ⟨c, d⟩
      · exact h
      · rw [if_neg h] at hve; cases hve
    obtain ⟨o1, o2⟩ := hok
    obtain ⟨p1, p2, p3, p4, -⟩ := hok1 o1
    obtain ⟨q1, q2, q3, q4, -⟩ := hok2 o2
    have hc := hcm.out o1 o2
    replace hc := Lib.hid hc
    have hp' := fun h h0 => hp.out o1 o2 h h0
    have hn' := fun h h0 h3 => hn.out o1 o2 h h0 h3
    have hpb' := fun h h0 => hpb o1 o2 h h0
    have hnb' := fun h h0 h3 => hnb o1 o2 h h0 h3
    replace hp' := Lib.hid hp'
    replace hn' := Lib.hid hn'
    clear hve hr1 hok1 hok2 hcm hp hn hpb hnb o1 o2
    replace hcn := Lib.hid hcn
    go_wp2_with fail
    refine RetV_at (hc.out _) ?_
    intro w3 hx3
    replace hO2 := hO2.keep hx3
    replace hO3 := hO3.keep hx3
    replace hO4 := hO4.keep hx3
    replace hx := hx.then hx3
    clear hc hx3 f2 f3 c4 f4 z2 z3 z4 k20 k21 k30 k31
    obtain ⟨c2, f2⟩ := hO2.facts
    obtain ⟨c3, f3⟩ := hO3.facts
    obtain ⟨c4, f4⟩ := hO4.facts
    have z2 := hO2.lt
    have z3 := hO3.lt
    have z4 := hO4.lt
    have k20 : _ = some (Value.int .i64 a) := c2 0
    have k21 : _ = some (Value.int .i64 b) := c2 1
    have k30 : _ = some (Value.int .i64 c) := c3 0
    have k31 : _ = some (Value.int .i64 d) := c3 1
    clear c2 c3
    by_cases hcp : 0 ≤ cm
    · rw [if_pos hcp] at hs
      obtain ⟨e1, e2⟩ := Prod.mk.inj hs.out
      subst e1
      clear hpb' hnb' hcn hp' hn'
      go_wp2_with fail
      exact bodyPost_ret (v := .tuple #[.agg #[.int .i64 0, .int .i64 0], .int .i64 13]) (by simp [results, Try.results35, go_sem, c4, f4, z4]) rfl ⟨by rw [e2], (by repeat (first | (with_reducible assumption) | (with_reducible exact Ext.rfl' _) | (with_reducible exact Ext.new _ _) | (with_reducible refine Ext.alloc' ?_ _) | (with_reducible refine Ext.drew' ?_) | (with_reducible refine Ext.drewN' ?_ _) | (with_reducible refine Ext.set' ?_ ?_ _; rotate_left; (focus (first | omega | (simp; done) | (simp; omega)))) | (with_reducible refine Ext.then (b := ?_) ?_ ?_; rotate_left; rotate_left; (with_reducible assumption))))⟩
    · rw [if_neg hcp] at hs
      have hlt := hcn.out (by omega)
      have hcb : decide (0 ≤ cm) = false := by simpa using hcp
      by_cases ha : a < 0
      · by_cases hc0 : 0 < c
        · rw [if_pos ⟨ha, hc0⟩] at hs
          obtain ⟨e1, e2⟩ := Prod.mk.inj hs.out
          subst e1
          clear hpb' hnb' hcn hp' hn' hcp hlt
          go_wp2_with fail
          exact bodyPost_ret (v := .tuple #[.agg #[.int .i64 0, .int .i64 1], .int .i64 0]) (by simp [results, Try.results35, go_sem, c4, f4, z4]) rfl ⟨by rw [e2], (by repeat (first | (with_reducible assumption) | (with_reducible exact Ext.rfl' _) | (with_reducible exact Ext.new _ _) | (with_reducible refine Ext.alloc' ?_ _) | (with_reducible refine Ext.drew' ?_) | (with_reducible refine Ext.drewN' ?_ _) | (with_reducible refine Ext.set' ?_ ?_ _; rotate_left; (focus (first | omega | (simp; done) | (simp; omega)))) | (with_reducible refine Ext.then (b := ?_) ?_ ?_; rotate_left; rotate_left; (with_reducible assumption))))⟩
        · rw [if_neg (fun h => hc0 h.2), if_pos ha] at hs
          have hsi := hn'.out hlt ha (by omega)
          obtain ⟨b1, b2, b3, b4⟩ := hnb' hlt ha (by omega)
          have hw1 : IntKind.i64.wrap (-c) = -c := wrap_id (by omega) (by omega)
          have hw2 : IntKind.i64.wrap (-a) = -a := wrap_id (by omega) (by omega)
          obtain ⟨n, m⟩ := sn
          dsimp only at b1 b2 b3 b4 hsi hs
          have hw3 : IntKind.i64.wrap (-n) = -n := wrap_id (by omega) (by omega)
          have hnw := fun w => new_c (-n) m w (by unfold I64; omega) (by unfold I64; omega)
          rw [← hs.out] at hnw
          unfold ratErr at hnw
          dsimp only at hnw
          replace hnw := Lib.hid hnw
          replace hsi := Lib.hid hsi
          have hcb0 : decide (0 < c) = false := by simpa using hc0
          clear hpb' hnb' hcn hp' hn' hcp hlt b1 b2 b3 b4
          go_wp2_with fail
          refine RetV_at (hsi.out _) ?_
          intro w4 hx4
          replace hO4 := hO4.keep hx4
          replace hx := hx.then hx4
          clear hsi hx4
          clear c4 f4 z4 k20 k21 k30 k31 f2 f3 z2 z3 hO2 hO3
          go_wp2_with fail
          refine RetV_at (hnw.out _) ?_
          intro w5 hx5
          replace hO4 := hO4.keep hx5
          replace hx := hx.then hx5
          obtain ⟨c4, f4⟩ := hO4.facts
          have z4 := hO4.lt
          clear hnw hx5
          go_wp2_with fail
          exact bodyPost_ret (v := .tuple #[.agg #[.int .i64 rr.num, .int .i64 rr.den], .int .i64 re]) (by simp [results, Try.results35, go_sem, c4, f4, z4]) rfl ⟨rfl, (by repeat (first | (with_reducible assumption) | (with_reducible exact Ext.rfl' _) | (with_reducible exact Ext.new _ _) | (with_reducible refine Ext.alloc' ?_ _) | (with_reducible refine Ext.drew' ?_) | (with_reducible refine Ext.drewN' ?_ _) | (with_reducible refine Ext.set' ?_ ?_ _; rotate_left; (focus (first | omega | (simp; done) | (simp; omega)))) | (with_reducible refine Ext.then (b := ?_) ?_ ?_; rotate_left; rotate_left; (with_reducible assumption))))⟩
      · rw [if_neg (fun h => ha h.1), if_neg ha] at hs
        have hsi := hp'.out hlt (by omega)
        obtain ⟨b1, b2, b3, b4⟩ := hpb' hlt (by omega)
        obtain ⟨n, m⟩ := sp
        dsimp only at b1 b2 b3 b4 hsi hs
        have hnw := fun w => new_c n m w (by unfold I64; omega) (by unfold I64; omega)
        rw [← hs.out] at hnw
        unfold ratErr at hnw
        dsimp only at hnw
        replace hnw := Lib.hid hnw
        replace hsi := Lib.hid hsi
        have hab0 : decide (a < 0) = false := by simpa using ha
        clear hpb' hnb' hcn hp' hn' hcp hlt b1 b2 b3 b4
        go_wp2_with fail
        refine RetV_at (hsi.out _) ?_
        intro w4 hx4
        replace hO4 := hO4.keep hx4
        replace hx := hx.then hx4
        clear hsi hx4
        clear c4 f4 z4 k20 k21 k30 k31 f2 f3 z2 z3 hO2 hO3
        go_wp2_with fail
        refine RetV_at (hnw.out _) ?_
        intro w5 hx5
        replace hO4 := hO4.keep hx5
        replace hx := hx.then hx5
        obtain ⟨c4, f4⟩ := hO4.facts
        have z4 := hO4.lt
        clear hnw hx5
        go_wp2_with fail
        exact bodyPost_ret (v := .tuple #[.agg #[.int .i64 rr.num, .int .i64 rr.den], .int .i64 re]) (by simp [results, Try.results35, go_sem, c4, f4, z4]) rfl ⟨rfl, (by repeat (first | (with_reducible assumption) | (with_reducible exact Ext.rfl' _) | (with_reducible exact Ext.new _ _) | (with_reducible refine Ext.alloc' ?_ _) | (with_reducible refine Ext.drew' ?_) | (with_reducible refine Ext.drewN' ?_ _) | (with_reducible refine Ext.set' ?_ ?_ _; rotate_left; (focus (first | omega | (simp; done) | (simp; omega)))) | (with_reducible refine Ext.then (b := ?_) ?_ ?_; rotate_left; rotate_left; (with_reducible assumption))))⟩
end Go.Proofs.Ytmbkefgmiehdiaa
