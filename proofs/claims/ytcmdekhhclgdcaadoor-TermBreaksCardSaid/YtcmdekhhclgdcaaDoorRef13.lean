/- package priorartref13: Leap, Length, Valid, Of. -/
import Derived.Test.YtcmdekhhclgdcaaDoorAddF
namespace Go.Proofs.YtcmdekhhclgdcaaDoor
open Go.RowKit Go.Shelf
set_option linter.unusedSimpArgs false
set_option linter.unusedVariables false
theorem rleap_c (y : Int) (w : World) (h0 : 0 ≤ y) (h1 : y ≤ 1000000) : Calls Tryd.prog 78 #[.int .i64 y] w (RetP w (.bool (leapB y))) := by
  have e := leapB_iff (y := y)
  generalize hb : leapB y = b at *
  clear hb
  by_cases a : y % 400 = 0
  · have hb : b = true := e.2 (by omega)
    subst hb
    have a' : (y % 400 == 0) = true := by rw [beq_iff_eq]; exact a
    clear e a
    go_enter Tryd.func78, Tryd.ntmps78
    go_wp2_with fail
    go_ret
    exact ⟨rfl, rfl⟩
  · have a' : (y % 400 == 0) = false := by rw [beq_eq_false_iff_ne]; exact a
    by_cases c : y % 4 = 0
    · have c' : (y % 4 == 0) = true := by rw [beq_iff_eq]; exact c
      by_cases d : y % 100 = 0
      · have hb : b = false := by rw [Bool.eq_false_iff]; intro h; have := e.1 h; omega
        subst hb
        have d' : (y % 100 != 0) = false := by rw [bne_eq_false_iff_eq]; exact d
        clear e a c d
        go_enter Tryd.func78, Tryd.ntmps78
        go_wp2_with fail
        go_ret
        exact ⟨rfl, rfl⟩
      · have hb : b = true := e.2 (by omega)
        subst hb
        have d' : (y % 100 != 0) = true := by rw [bne_iff_ne]; exact d
        clear e a c d
        go_enter Tryd.func78, Tryd.ntmps78
        go_wp2_with fail
        go_ret
        exact ⟨rfl, rfl⟩
    · have hb : b = false := by rw [Bool.eq_false_iff]; intro h; have := e.1 h; omega
      subst hb
      have c' : (y % 4 == 0) = false := by rw [beq_eq_false_iff_ne]; exact c
      clear e a c
      go_enter Tryd.func78, Tryd.ntmps78
      go_wp2_with fail
      go_ret
      exact ⟨rfl, rfl⟩
theorem rlength_c (y m : Int) (w : World) (h0 : 0 ≤ y) (h1 : y ≤ 1000000) :
    Calls Tryd.prog 51 #[.int .i64 y, .int .i64 m] w (RetP w (two (lenV y m).1 (lenV y m).2)) := by
  by_cases hm : 1 ≤ m ∧ m ≤ 12
  · have hv : lenV y m = (lenM y m, 0) := if_pos hm
    by_cases h2 : m = 2
    · subst h2
      have hl : lenM y 2 = if leapB y then 29 else 28 := if_pos rfl
      rw [hv, hl]
      have hlc := rleap_c y w h0 h1
      generalize leapB y = b at *
      clear hv hl
      cases b with
      | true =>
        dsimp only [if_true, two]
        go_enter Tryd.func51, Tryd.ntmps51
        go_wp2_with fail
        refine RetP_at hlc ?_
        go_wp2_with fail
        go_ret2
        exact ⟨rfl, rfl⟩
      | false =>
        rw [show (if false = true then (29 : Int) else 28) = 28 from rfl]
        dsimp only [two]
        go_enter Tryd.func51, Tryd.ntmps51
        go_wp2_with fail
        refine RetP_at hlc ?_
        go_wp2_with fail
        go_ret2
        exact ⟨rfl, rfl⟩
    · have hl : lenM y m = if m = 4 ∨ m = 6 ∨ m = 9 ∨ m = 11 then 30 else 31 := by
        unfold lenM
        rw [if_neg (by omega)]
      rw [hv, hl]
      clear hv hl
      obtain ⟨hm0, hm1⟩ := hm
      by_cases h : m = 4 ∨ m = 6 ∨ m = 9 ∨ m = 11
      · rw [if_pos h]
        rcases h with rfl | rfl | rfl | rfl
        all_goals
          go_enter Tryd.func51, Tryd.ntmps51
          go_wp2_with fail
          go_ret2
          exact ⟨rfl, rfl⟩
      · rw [if_neg h]
        have b1 : (m == 2) = false := by rw [beq_eq_false_iff_ne]; exact h2
        have b4 : (m == 4) = false := by rw [beq_eq_false_iff_ne]; omega
        have b6 : (m == 6) = false := by rw [beq_eq_false_iff_ne]; omega
        have b9 : (m == 9) = false := by rw [beq_eq_false_iff_ne]; omega
        have b11 : (m == 11) = false := by rw [beq_eq_false_iff_ne]; omega
        clear h h2
        go_enter Tryd.func51, Tryd.ntmps51
        go_wp2_with fail
        go_ret2
        exact ⟨rfl, rfl⟩
  · have hv : lenV y m = (0, 1) := if_neg hm
    rw [hv]
    clear hv
    by_cases h : m < 1
    · clear hm
      go_enter Tryd.func51, Tryd.ntmps51
      go_wp2_with fail
      go_ret2
      exact ⟨rfl, rfl⟩
    · have h2 : 12 < m := by omega
      clear hm
      go_enter Tryd.func51, Tryd.ntmps51
      go_wp2_with fail
      go_ret2
      exact ⟨rfl, rfl⟩
theorem rvalid_c (y m k : Int) (w : World) (h0 : 1900 ≤ y) (h1 : y ≤ 9999) (hm : 1 ≤ m) (hm' : m ≤ 12) (hk : 1 ≤ k) (hk' : k ≤ lenM y m) :
    Calls Tryd.prog 108 #[.agg #[.int .i64 y, .int .i64 m, .int .i64 k]] w (RetV w (.bool true)) := by
  have hv : lenV y m = (lenM y m, 0) := if_pos ⟨hm, hm'⟩
  generalize lenM y m = n at *
  go_enter Tryd.func108, Tryd.ntmps108
  go_wp2_with fail
  refine RetP_at (rlength_c y m _ (by omega) (by omega)) ?_
  rw [hv]
  clear hv
  go_wp2_with fail
  go_ret
  exact ⟨rfl, (by repeat (first | (with_reducible assumption) | (with_reducible exact Ext.rfl' _) | (with_reducible exact Ext.new _ _) | (with_reducible refine Ext.alloc' ?_ _) | (with_reducible refine Ext.drew' ?_) | (with_reducible refine Ext.drewN' ?_ _) | (with_reducible refine Ext.set' ?_ ?_ _; rotate_left; (focus (first | omega | (simp; done) | (simp; omega)))) | (with_reducible refine Ext.then (b := ?_) ?_ ?_; rotate_left; rotate_left; (with_reducible assumption))))⟩
end Go.Proofs.YtcmdekhhclgdcaaDoor
