/- ratio.Valid; the reference's divisor and Good. -/
import Derived.Test.YtcbmgajaaechjaaGreatRatio
namespace Go.Proofs.YtcbmgajaaechjaaGreat
open Go.RowKit
set_option linter.unusedSimpArgs false
set_option linter.unusedVariables false
def RatOk (r : Rat2) : Prop := 1 ≤ r.den ∧ r.den ≤ 1048576 ∧ r.num.natAbs ≤ 1099511627776 ∧ Nat.gcd r.num.natAbs r.den.natAbs = 1
instance (r : Rat2) : Decidable (RatOk r) := by unfold RatOk; infer_instance
theorem newS_ok (r : Rat2) (h : 1 ≤ r.den) : ((newS r.num r.den).2 = 0 ∧ (newS r.num r.den).1 = r) ↔ RatOk r := by
  obtain ⟨num, den⟩ := r
  simp only at h
  have hd : den ≠ 0 := by omega
  have hdn : decide (den < 0) = false := by simp; omega
  have hgp : 0 < Nat.gcd num.natAbs den.natAbs := Nat.gcd_pos_of_pos_right _ (by omega)
  have h1 := Nat.div_mul_cancel (Nat.gcd_dvd_left num.natAbs den.natAbs)
  have h2 := Nat.div_mul_cancel (Nat.gcd_dvd_right num.natAbs den.natAbs)
  simp only [newS, if_neg hd, buildS, hdn, Bool.bne_false, RatOk]
  generalize Nat.gcd num.natAbs den.natAbs = g at *
  generalize hq : num.natAbs / g = q at *
  generalize hm : den.natAbs / g = m at *
  split
  · constructor
    · rintro ⟨h3, _⟩; simp at h3
    · rintro ⟨_, h4, h5, h6⟩
      subst h6
      simp at h1 h2
      omega
  · rename_i hlim
    constructor
    · rintro ⟨_, h3⟩
      have h4 := congrArg Rat2.den h3
      have h5 := congrArg Rat2.num h3
      simp only at h4 h5
      have h6 : m = den.natAbs := by omega
      have h7 : g = 1 := by
        rw [h6] at h2
        have : den.natAbs * g = den.natAbs * 1 := by omega
        exact Nat.eq_of_mul_eq_mul_left (by omega) this
      subst h7
      simp at h1 h2
      exact ⟨h, by omega, by omega, rfl⟩
    · rintro ⟨_, h4, h5, h6⟩
      subst h6
      simp at h1 h2
      refine ⟨rfl, ?_⟩
      by_cases hn : num < 0
      · simp only [hn, decide_true, if_true]; congr 1 <;> omega
      · have : decide (num < 0) = false := by simpa using hn
        rw [this]; simp only [Bool.false_eq_true, if_false]; congr 1 <;> omega
set_option maxHeartbeats 400000 in
theorem ratValid_c (r : Rat2) (w : World) (hn : I64 r.num) (hd : I64 r.den) :
    Calls Tryz.prog 100 #[.agg #[.int .i64 r.num, .int .i64 r.den]] w (RetV w (.int .i64 (ErrIf (RatOk r) 1))) := by
  by_cases hlt : r.den < 1
  · have hs : ¬ RatOk r := by unfold RatOk; omega
    have hs := Lib.hid hs
    go_enter Tryz.func100, Tryz.ntmps100
    go_wp2_with fail
    go_ret
    exact ⟨ret_ek hs.out, (by repeat (first | (with_reducible assumption) | (with_reducible exact Ext.rfl' _) | (with_reducible exact Ext.new _ _) | (with_reducible refine Ext.alloc' ?_ _) | (with_reducible refine Ext.drew' ?_) | (with_reducible refine Ext.drewN' ?_ _) | (with_reducible refine Ext.set' ?_ ?_ _; rotate_left; (focus (first | omega | (simp; done) | (simp; omega)))) | (with_reducible refine Ext.then (b := ?_) ?_ ?_; rotate_left; rotate_left; (with_reducible assumption))))⟩
  · have hs := Lib.hid (newS_ok r (by omega))
    go_enter Tryz.func100, Tryz.ntmps100
    go_wp2_with fail
    refine (new_c r.num r.den _ hn hd).mono ?_
    rintro e w1 ⟨rfl, hb1⟩
    have ho : Own w1 w.heap.size #[.int .i64 r.num, .int .i64 r.den] 100 := (by repeat (first | (with_reducible assumption) | (with_reducible exact Own.new _ _ _) | (with_reducible refine Own.new' _ _ _ ?_; (focus (simp; done))) | (with_reducible refine Own.alloc ?_ _) | (with_reducible refine Own.drew ?_) | (with_reducible refine Own.drewN ?_ _) | (with_reducible refine Own.keep (w := ?_) ?_ ?_; rotate_left; (with_reducible assumption); (exact (by repeat (first | (with_reducible assumption) | (with_reducible exact Ext.rfl' _) | (with_reducible exact Ext.new _ _) | (with_reducible refine Ext.alloc' ?_ _) | (with_reducible refine Ext.drew' ?_) | (with_reducible refine Ext.drewN' ?_ _) | (with_reducible refine Ext.set' ?_ ?_ _; rotate_left; (focus (first | omega | (simp; done) | (simp; omega)))) | (with_reducible refine Ext.then (b := ?_) ?_ ?_; rotate_left; rotate_left; (with_reducible assumption)))))) | (with_reducible refine Own.keep (w := ?_) ?_ ?_; rotate_left; rotate_left; (with_reducible assumption))))
    replace hb1 : Ext w w1 := (by repeat (first | (with_reducible assumption) | (with_reducible exact Ext.rfl' _) | (with_reducible exact Ext.new _ _) | (with_reducible refine Ext.alloc' ?_ _) | (with_reducible refine Ext.drew' ?_) | (with_reducible refine Ext.drewN' ?_ _) | (with_reducible refine Ext.set' ?_ ?_ _; rotate_left; (focus (first | omega | (simp; done) | (simp; omega)))) | (with_reducible refine Ext.then (b := ?_) ?_ ?_; rotate_left; rotate_left; (with_reducible assumption))))
    have hl := ho.lt
    obtain ⟨hoc, hof⟩ := ho.facts
    unfold ratErr
    by_cases he : (newS r.num r.den).2 = 0
    · by_cases hr : (newS r.num r.den).1 = r
      · have h1 : (newS r.num r.den).1.num = r.num := by rw [hr]
        have h2 : (newS r.num r.den).1.den = r.den := by rw [hr]
        rw [h1, h2, he]
        have hok := Lib.hid (hs.out.1 ⟨he, hr⟩)
        clear hr h1 h2 he hs
        go_wp2_with fail
        go_ret
        exact ⟨ret_e0 hok.out, (by repeat (first | (with_reducible assumption) | (with_reducible exact Ext.rfl' _) | (with_reducible exact Ext.new _ _) | (with_reducible refine Ext.alloc' ?_ _) | (with_reducible refine Ext.drew' ?_) | (with_reducible refine Ext.drewN' ?_ _) | (with_reducible refine Ext.set' ?_ ?_ _; rotate_left; (focus (first | omega | (simp; done) | (simp; omega)))) | (with_reducible refine Ext.then (b := ?_) ?_ ?_; rotate_left; rotate_left; (with_reducible assumption))))⟩
      · have hok : Hid (¬ RatOk r) := fun h => hr (hs.out.2 h).2
        have hne : (((newS r.num r.den).1.num == r.num) && ((newS r.num r.den).1.den == r.den)) = false := by
          rw [Bool.eq_false_iff]; intro h
          simp at h
          apply hr
          cases hx : (newS r.num r.den).1; cases r; simp_all
        rw [he]
        clear hr he hs
        generalize (newS r.num r.den).1.num = x at *
        generalize (newS r.num r.den).1.den = y at *
        go_wp2_with fail
        all_goals first | (exfalso; simp_all; done) | (go_ret; exact ⟨ret_ek hok.out, (by repeat (first | (with_reducible assumption) | (with_reducible exact Ext.rfl' _) | (with_reducible exact Ext.new _ _) | (with_reducible refine Ext.alloc' ?_ _) | (with_reducible refine Ext.drew' ?_) | (with_reducible refine Ext.drewN' ?_ _) | (with_reducible refine Ext.set' ?_ ?_ _; rotate_left; (focus (first | omega | (simp; done) | (simp; omega)))) | (with_reducible refine Ext.then (b := ?_) ?_ ?_; rotate_left; rotate_left; (with_reducible assumption))))⟩)
    · have hok : Hid (¬ RatOk r) := fun h => he (hs.out.2 h).1
      have he' : ((newS r.num r.den).2 == 0) = false := by simpa using he
      clear he hs
      generalize (newS r.num r.den).2 = z at *
      go_wp2_with fail
      all_goals first | (exfalso; simp_all; done) | (go_ret; exact ⟨ret_ek hok.out, (by repeat (first | (with_reducible assumption) | (with_reducible exact Ext.rfl' _) | (with_reducible exact Ext.new _ _) | (with_reducible refine Ext.alloc' ?_ _) | (with_reducible refine Ext.drew' ?_) | (with_reducible refine Ext.drewN' ?_ _) | (with_reducible refine Ext.set' ?_ ?_ _; rotate_left; (focus (first | omega | (simp; done) | (simp; omega)))) | (with_reducible refine Ext.then (b := ?_) ?_ ?_; rotate_left; rotate_left; (with_reducible assumption))))⟩)
end Go.Proofs.YtcbmgajaaechjaaGreat
