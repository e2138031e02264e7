/- formed, of package formula and of the reference. -/
import Derived.Test.YtcbmgajaaechjaaGreatFmL
import Derived.Test.YtcbmgajaaechjaaGreatSpH
import Derived.Test.YtcbmgajaaechjaaGreatSpRv
namespace Go.Proofs.YtcbmgajaaechjaaGreat
open Go.RowKit
set_option linter.unusedSimpArgs false
set_option linter.unusedVariables false
theorem formed1_mk (op n : Int) (inn : List Itv) (kids : List Fm) : formed1 (.mk op n inn kids) = if (op ≠ 2 ∧ inn ≠ []) ∨ (op ≠ 2 ∧ op ≠ 1 ∧ n ≠ 0) then false
  else if op = 0 then kids.isEmpty
  else if op = 1 then kids.isEmpty && decide (0 ≤ n) && decide (n < 64)
  else if op = 2 then kids.isEmpty && decide (0 ≤ n) && decide (n < 32) && decide (setE inn = 0)
  else if op = 3 ∨ op = 6 then decide (kids.length = 1)
  else decide (op = 4) || decide (op = 5) := rfl
theorem emp_len {α : Type} (l : List α) : l.isEmpty = ((l.length : Int) == 0) := by
  rw [Bool.eq_iff_iff, List.isEmpty_iff, ← List.length_eq_zero_iff]; simp; 
theorem len1 {α : Type} (l : List α) : decide (l.length = 1) = ((l.length : Int) == 1) := by
  rw [Bool.eq_iff_iff]; simp; omega
set_option maxHeartbeats 1000000 in
theorem formed_c (f : Fm) (cs : List Value) (w : World) (hr : FmR (ph w) cs f) : Calls Tryz.prog 48 #[.agg cs.toArray] w (RetV w (.bool (formed1 f))) := by
  obtain ⟨a3, c3, a4, c4, rfl, -, -, hil, hkl, hi, hk⟩ := hr.form
  unfold fmC
  obtain ⟨op, n, inn, kids⟩ := f
  simp only [Fm.op, Fm.n, Fm.inn, Fm.kids] at *
  clear hr
  by_cases h2 : op = 2
  · subst h2
    by_cases hk0 : kids.length = 0
    · by_cases hn0 : 0 ≤ n
      · by_cases hn1 : n < 32
        · have hv : Hid (formed1 (.mk 2 n inn kids) = (setE inn == 0)) := by
            show _ = _
            rw [formed1_mk]
            have : kids.isEmpty = true := by rw [List.isEmpty_iff]; exact List.eq_nil_of_length_eq_zero hk0
            simp [this, hn0, hn1]
            rfl
          have hc := Lib.hid hi
          clear hi hk
          have b1 : decide (0 ≤ n) = true := by simpa using hn0
          have b2 : decide (n < 32) = true := by simpa using hn1
          have b3 : ((kids.length : Int) == 0) = true := by simpa using hk0
          go_enter Tryz.func48, Tryz.ntmps48
          go_wp2_with fail
          refine RetV_at (valid_c _ inn _ (hc.out.mono mono_ItvR (Ext.ple (by repeat (first | (with_reducible assumption) | (with_reducible exact Ext.rfl' _) | (with_reducible exact Ext.new _ _) | (with_reducible refine Ext.alloc' ?_ _) | (with_reducible refine Ext.drew' ?_) | (with_reducible refine Ext.drewN' ?_ _) | (with_reducible refine Ext.set' ?_ ?_ _; rotate_left; (focus (first | omega | (simp; done) | (simp; omega)))) | (with_reducible refine Ext.then (b := ?_) ?_ ?_; rotate_left; rotate_left; (with_reducible assumption))))))) ?_
          intro w1 hx1
          generalize setE inn = e at *
          go_wp2_with fail
          go_ret
          exact ⟨ret_bool hv.out.symm, (by repeat (first | (with_reducible assumption) | (with_reducible exact Ext.rfl' _) | (with_reducible exact Ext.new _ _) | (with_reducible refine Ext.alloc' ?_ _) | (with_reducible refine Ext.drew' ?_) | (with_reducible refine Ext.drewN' ?_ _) | (with_reducible refine Ext.set' ?_ ?_ _; rotate_left; (focus (first | omega | (simp; done) | (simp; omega)))) | (with_reducible refine Ext.then (b := ?_) ?_ ?_; rotate_left; rotate_left; (with_reducible assumption))))⟩
        · have hv : Hid (formed1 (.mk 2 n inn kids) = false) := by
            show _ = _
            rw [formed1_mk]
            simp [hn1]
          have b1 : decide (0 ≤ n) = true := by simpa using hn0
          have b2 : decide (n < 32) = false := by simpa using hn1
          have b3 : ((kids.length : Int) == 0) = true := by simpa using hk0
          clear hi hk
          go_enter Tryz.func48, Tryz.ntmps48
          go_wp2_with fail
          go_ret
          exact ⟨ret_bool hv.out.symm, (by repeat (first | (with_reducible assumption) | (with_reducible exact Ext.rfl' _) | (with_reducible exact Ext.new _ _) | (with_reducible refine Ext.alloc' ?_ _) | (with_reducible refine Ext.drew' ?_) | (with_reducible refine Ext.drewN' ?_ _) | (with_reducible refine Ext.set' ?_ ?_ _; rotate_left; (focus (first | omega | (simp; done) | (simp; omega)))) | (with_reducible refine Ext.then (b := ?_) ?_ ?_; rotate_left; rotate_left; (with_reducible assumption))))⟩
      · have hv : Hid (formed1 (.mk 2 n inn kids) = false) := by
          show _ = _
          rw [formed1_mk]
          simp [hn0]
        have b1 : decide (0 ≤ n) = false := by simpa using hn0
        have b3 : ((kids.length : Int) == 0) = true := by simpa using hk0
        clear hi hk
        go_enter Tryz.func48, Tryz.ntmps48
        go_wp2_with fail
        go_ret
        exact ⟨ret_bool hv.out.symm, (by repeat (first | (with_reducible assumption) | (with_reducible exact Ext.rfl' _) | (with_reducible exact Ext.new _ _) | (with_reducible refine Ext.alloc' ?_ _) | (with_reducible refine Ext.drew' ?_) | (with_reducible refine Ext.drewN' ?_ _) | (with_reducible refine Ext.set' ?_ ?_ _; rotate_left; (focus (first | omega | (simp; done) | (simp; omega)))) | (with_reducible refine Ext.then (b := ?_) ?_ ?_; rotate_left; rotate_left; (with_reducible assumption))))⟩
    · have hv : Hid (formed1 (.mk 2 n inn kids) = false) := by
        show _ = _
        rw [formed1_mk]
        have : kids.isEmpty = false := by cases kids <;> simp_all
        simp [this]
      have b3 : ((kids.length : Int) == 0) = false := by simpa using hk0
      clear hi hk
      go_enter Tryz.func48, Tryz.ntmps48
      go_wp2_with fail
      go_ret
      exact ⟨ret_bool hv.out.symm, (by repeat (first | (with_reducible assumption) | (with_reducible exact Ext.rfl' _) | (with_reducible exact Ext.new _ _) | (with_reducible refine Ext.alloc' ?_ _) | (with_reducible refine Ext.drew' ?_) | (with_reducible refine Ext.drewN' ?_ _) | (with_reducible refine Ext.set' ?_ ?_ _; rotate_left; (focus (first | omega | (simp; done) | (simp; omega)))) | (with_reducible refine Ext.then (b := ?_) ?_ ?_; rotate_left; rotate_left; (with_reducible assumption))))⟩
  have a2 : (op == 2) = false := by simpa using h2
  have c2' : (op != 2) = true := by simpa using h2
  by_cases hin : 0 < inn.length
  · have hv : Hid (formed1 (.mk op n inn kids) = false) := by
      show _ = _
      rw [formed1_mk]
      have : inn ≠ [] := by intro e; subst e; simp at hin
      simp [h2, this]
    have b1 : decide (0 < (inn.length : Int)) = true := by simpa using hin
    clear hi hk
    go_enter Tryz.func48, Tryz.ntmps48
    go_wp2_with fail
    go_ret
    exact ⟨ret_bool hv.out.symm, (by repeat (first | (with_reducible assumption) | (with_reducible exact Ext.rfl' _) | (with_reducible exact Ext.new _ _) | (with_reducible refine Ext.alloc' ?_ _) | (with_reducible refine Ext.drew' ?_) | (with_reducible refine Ext.drewN' ?_ _) | (with_reducible refine Ext.set' ?_ ?_ _; rotate_left; (focus (first | omega | (simp; done) | (simp; omega)))) | (with_reducible refine Ext.then (b := ?_) ?_ ?_; rotate_left; rotate_left; (with_reducible assumption))))⟩
  have hin' : inn = [] := List.eq_nil_of_length_eq_zero (by omega)
  subst hin'
  have b1 : decide (0 < (([] : List Itv).length : Int)) = false := by simp
  by_cases h1 : op = 1
  · subst h1
    by_cases hk0 : kids.length = 0
    · have b3 : ((kids.length : Int) == 0) = true := by simpa using hk0
      by_cases hn0 : 0 ≤ n
      · have hv : Hid (formed1 (.mk 1 n [] kids) = decide (n < 64)) := by
          show _ = _
          rw [formed1_mk]
          have : kids.isEmpty = true := by rw [List.isEmpty_iff]; exact List.eq_nil_of_length_eq_zero hk0
          simp [this, hn0]
        have b2 : decide (0 ≤ n) = true := by simpa using hn0
        clear hi hk
        go_enter Tryz.func48, Tryz.ntmps48
        go_wp2_with fail
        go_ret
        exact ⟨ret_bool hv.out.symm, (by repeat (first | (with_reducible assumption) | (with_reducible exact Ext.rfl' _) | (with_reducible exact Ext.new _ _) | (with_reducible refine Ext.alloc' ?_ _) | (with_reducible refine Ext.drew' ?_) | (with_reducible refine Ext.drewN' ?_ _) | (with_reducible refine Ext.set' ?_ ?_ _; rotate_left; (focus (first | omega | (simp; done) | (simp; omega)))) | (with_reducible refine Ext.then (b := ?_) ?_ ?_; rotate_left; rotate_left; (with_reducible assumption))))⟩
      · have hv : Hid (formed1 (.mk 1 n [] kids) = false) := by
          show _ = _
          rw [formed1_mk]
          simp [hn0]
        have b2 : decide (0 ≤ n) = false := by simpa using hn0
        clear hi hk
        go_enter Tryz.func48, Tryz.ntmps48
        go_wp2_with fail
        go_ret
        exact ⟨ret_bool hv.out.symm, (by repeat (first | (with_reducible assumption) | (with_reducible exact Ext.rfl' _) | (with_reducible exact Ext.new _ _) | (with_reducible refine Ext.alloc' ?_ _) | (with_reducible refine Ext.drew' ?_) | (with_reducible refine Ext.drewN' ?_ _) | (with_reducible refine Ext.set' ?_ ?_ _; rotate_left; (focus (first | omega | (simp; done) | (simp; omega)))) | (with_reducible refine Ext.then (b := ?_) ?_ ?_; rotate_left; rotate_left; (with_reducible assumption))))⟩
    · have hv : Hid (formed1 (.mk 1 n [] kids) = false) := by
        show _ = _
        rw [formed1_mk]
        have : kids.isEmpty = false := by cases kids <;> simp_all
        simp [this]
      have b3 : ((kids.length : Int) == 0) = false := by simpa using hk0
      clear hi hk
      go_enter Tryz.func48, Tryz.ntmps48
      go_wp2_with fail
      go_ret
      exact ⟨ret_bool hv.out.symm, (by repeat (first | (with_reducible assumption) | (with_reducible exact Ext.rfl' _) | (with_reducible exact Ext.new _ _) | (with_reducible refine Ext.alloc' ?_ _) | (with_reducible refine Ext.drew' ?_) | (with_reducible refine Ext.drewN' ?_ _) | (with_reducible refine Ext.set' ?_ ?_ _; rotate_left; (focus (first | omega | (simp; done) | (simp; omega)))) | (with_reducible refine Ext.then (b := ?_) ?_ ?_; rotate_left; rotate_left; (with_reducible assumption))))⟩
  have a1 : (op == 1) = false := by simpa using h1
  have c1' : (op != 1) = true := by simpa using h1
  by_cases hn : n = 0
  · subst hn
    clear hi hk
    by_cases h0 : op = 0
    · subst h0
      have hv : Hid (formed1 (.mk 0 0 [] kids) = ((kids.length : Int) == 0)) := by show _ = _; rw [formed1_mk, ← emp_len]; simp
      go_enter Tryz.func48, Tryz.ntmps48
      go_wp2_with fail
      go_ret
      exact ⟨ret_bool hv.out.symm, (by repeat (first | (with_reducible assumption) | (with_reducible exact Ext.rfl' _) | (with_reducible exact Ext.new _ _) | (with_reducible refine Ext.alloc' ?_ _) | (with_reducible refine Ext.drew' ?_) | (with_reducible refine Ext.drewN' ?_ _) | (with_reducible refine Ext.set' ?_ ?_ _; rotate_left; (focus (first | omega | (simp; done) | (simp; omega)))) | (with_reducible refine Ext.then (b := ?_) ?_ ?_; rotate_left; rotate_left; (with_reducible assumption))))⟩
    have a0 : (op == 0) = false := by simpa using h0
    by_cases h3 : op = 3
    · subst h3
      have hv : Hid (formed1 (.mk 3 0 [] kids) = ((kids.length : Int) == 1)) := by show _ = _; rw [formed1_mk, ← len1]; simp
      go_enter Tryz.func48, Tryz.ntmps48
      go_wp2_with fail
      go_ret
      exact ⟨ret_bool hv.out.symm, (by repeat (first | (with_reducible assumption) | (with_reducible exact Ext.rfl' _) | (with_reducible exact Ext.new _ _) | (with_reducible refine Ext.alloc' ?_ _) | (with_reducible refine Ext.drew' ?_) | (with_reducible refine Ext.drewN' ?_ _) | (with_reducible refine Ext.set' ?_ ?_ _; rotate_left; (focus (first | omega | (simp; done) | (simp; omega)))) | (with_reducible refine Ext.then (b := ?_) ?_ ?_; rotate_left; rotate_left; (with_reducible assumption))))⟩
    have a3' : (op == 3) = false := by simpa using h3
    by_cases h6 : op = 6
    · subst h6
      have hv : Hid (formed1 (.mk 6 0 [] kids) = ((kids.length : Int) == 1)) := by show _ = _; rw [formed1_mk, ← len1]; simp
      go_enter Tryz.func48, Tryz.ntmps48
      go_wp2_with fail
      go_ret
      exact ⟨ret_bool hv.out.symm, (by repeat (first | (with_reducible assumption) | (with_reducible exact Ext.rfl' _) | (with_reducible exact Ext.new _ _) | (with_reducible refine Ext.alloc' ?_ _) | (with_reducible refine Ext.drew' ?_) | (with_reducible refine Ext.drewN' ?_ _) | (with_reducible refine Ext.set' ?_ ?_ _; rotate_left; (focus (first | omega | (simp; done) | (simp; omega)))) | (with_reducible refine Ext.then (b := ?_) ?_ ?_; rotate_left; rotate_left; (with_reducible assumption))))⟩
    have a6 : (op == 6) = false := by simpa using h6
    by_cases h4 : op = 4
    · subst h4
      have hv : Hid (formed1 (.mk 4 0 [] kids) = true) := by show _ = _; rw [formed1_mk]; simp
      go_enter Tryz.func48, Tryz.ntmps48
      go_wp2_with fail
      go_ret
      exact ⟨ret_bool hv.out.symm, (by repeat (first | (with_reducible assumption) | (with_reducible exact Ext.rfl' _) | (with_reducible exact Ext.new _ _) | (with_reducible refine Ext.alloc' ?_ _) | (with_reducible refine Ext.drew' ?_) | (with_reducible refine Ext.drewN' ?_ _) | (with_reducible refine Ext.set' ?_ ?_ _; rotate_left; (focus (first | omega | (simp; done) | (simp; omega)))) | (with_reducible refine Ext.then (b := ?_) ?_ ?_; rotate_left; rotate_left; (with_reducible assumption))))⟩
    have a4' : (op == 4) = false := by simpa using h4
    have hv : Hid (formed1 (.mk op 0 [] kids) = (op == 5)) := by show _ = _; rw [formed1_mk, if_neg (by simp), if_neg h0, if_neg h1, if_neg h2, if_neg (by omega), decide_eq_false h4, Bool.false_or, Bool.eq_iff_iff]; simp
    go_enter Tryz.func48, Tryz.ntmps48
    go_wp2_with fail
    go_ret
    exact ⟨ret_bool hv.out.symm, (by repeat (first | (with_reducible assumption) | (with_reducible exact Ext.rfl' _) | (with_reducible exact Ext.new _ _) | (with_reducible refine Ext.alloc' ?_ _) | (with_reducible refine Ext.drew' ?_) | (with_reducible refine Ext.drewN' ?_ _) | (with_reducible refine Ext.set' ?_ ?_ _; rotate_left; (focus (first | omega | (simp; done) | (simp; omega)))) | (with_reducible refine Ext.then (b := ?_) ?_ ?_; rotate_left; rotate_left; (with_reducible assumption))))⟩
  · have hv : Hid (formed1 (.mk op n [] kids) = false) := by
      show _ = _
      rw [formed1_mk]
      simp [h2, h1, hn]
    have b2 : (n == 0) = false := by simpa using hn
    have b4 : (n != 0) = true := by simpa using hn
    clear hi hk
    go_enter Tryz.func48, Tryz.ntmps48
    go_wp2_with fail
    go_ret
    exact ⟨ret_bool hv.out.symm, (by repeat (first | (with_reducible assumption) | (with_reducible exact Ext.rfl' _) | (with_reducible exact Ext.new _ _) | (with_reducible refine Ext.alloc' ?_ _) | (with_reducible refine Ext.drew' ?_) | (with_reducible refine Ext.drewN' ?_ _) | (with_reducible refine Ext.set' ?_ ?_ _; rotate_left; (focus (first | omega | (simp; done) | (simp; omega)))) | (with_reducible refine Ext.then (b := ?_) ?_ ?_; rotate_left; rotate_left; (with_reducible assumption))))⟩
set_option maxHeartbeats 1000000 in
theorem rformed_c (f : Fm) (cs : List Value) (w : World) (hr : FmR (ph w) cs f) : Calls Tryz.prog 81 #[.agg cs.toArray] w (RetV w (.bool (formed1 f))) := by
  obtain ⟨a3, c3, a4, c4, rfl, -, -, hil, hkl, hi, hk⟩ := hr.form
  unfold fmC
  obtain ⟨op, n, inn, kids⟩ := f
  simp only [Fm.op, Fm.n, Fm.inn, Fm.kids] at *
  clear hr
  by_cases h2 : op = 2
  · subst h2
    by_cases hk0 : kids.length = 0
    · by_cases hn0 : 0 ≤ n
      · by_cases hn1 : n < 32
        · have hv : Hid (formed1 (.mk 2 n inn kids) = (setE inn == 0)) := by
            show _ = _
            rw [formed1_mk]
            have : kids.isEmpty = true := by rw [List.isEmpty_iff]; exact List.eq_nil_of_length_eq_zero hk0
            simp [this, hn0, hn1]
            rfl
          have hc := Lib.hid hi
          clear hi hk
          have b1 : decide (0 ≤ n) = true := by simpa using hn0
          have b2 : decide (n < 32) = true := by simpa using hn1
          have b3 : ((kids.length : Int) == 0) = true := by simpa using hk0
          go_enter Tryz.func81, Tryz.ntmps81
          go_wp2_with fail
          refine RetV_at (rvalid4_c _ inn _ (hc.out.mono mono_ItvR (Ext.ple (by repeat (first | (with_reducible assumption) | (with_reducible exact Ext.rfl' _) | (with_reducible exact Ext.new _ _) | (with_reducible refine Ext.alloc' ?_ _) | (with_reducible refine Ext.drew' ?_) | (with_reducible refine Ext.drewN' ?_ _) | (with_reducible refine Ext.set' ?_ ?_ _; rotate_left; (focus (first | omega | (simp; done) | (simp; omega)))) | (with_reducible refine Ext.then (b := ?_) ?_ ?_; rotate_left; rotate_left; (with_reducible assumption))))))) ?_
          intro w1 hx1
          generalize setE inn = e at *
          go_wp2_with fail
          go_ret
          exact ⟨ret_bool hv.out.symm, (by repeat (first | (with_reducible assumption) | (with_reducible exact Ext.rfl' _) | (with_reducible exact Ext.new _ _) | (with_reducible refine Ext.alloc' ?_ _) | (with_reducible refine Ext.drew' ?_) | (with_reducible refine Ext.drewN' ?_ _) | (with_reducible refine Ext.set' ?_ ?_ _; rotate_left; (focus (first | omega | (simp; done) | (simp; omega)))) | (with_reducible refine Ext.then (b := ?_) ?_ ?_; rotate_left; rotate_left; (with_reducible assumption))))⟩
        · have hv : Hid (formed1 (.mk 2 n inn kids) = false) := by
            show _ = _
            rw [formed1_mk]
            simp [hn1]
          have b1 : decide (0 ≤ n) = true := by simpa using hn0
          have b2 : decide (n < 32) = false := by simpa using hn1
          have b3 : ((kids.length : Int) == 0) = true := by simpa using hk0
          clear hi hk
          go_enter Tryz.func81, Tryz.ntmps81
          go_wp2_with fail
          go_ret
          exact ⟨ret_bool hv.out.symm, (by repeat (first | (with_reducible assumption) | (with_reducible exact Ext.rfl' _) | (with_reducible exact Ext.new _ _) | (with_reducible refine Ext.alloc' ?_ _) | (with_reducible refine Ext.drew' ?_) | (with_reducible refine Ext.drewN' ?_ _) | (with_reducible refine Ext.set' ?_ ?_ _; rotate_left; (focus (first | omega | (simp; done) | (simp; omega)))) | (with_reducible refine Ext.then (b := ?_) ?_ ?_; rotate_left; rotate_left; (with_reducible assumption))))⟩
      · have hv : Hid (formed1 (.mk 2 n inn kids) = false) := by
          show _ = _
          rw [formed1_mk]
          simp [hn0]
        have b1 : decide (0 ≤ n) = false := by simpa using hn0
        have b3 : ((kids.length : Int) == 0) = true := by simpa using hk0
        clear hi hk
        go_enter Tryz.func81, Tryz.ntmps81
        go_wp2_with fail
        go_ret
        exact ⟨ret_bool hv.out.symm, (by repeat (first | (with_reducible assumption) | (with_reducible exact Ext.rfl' _) | (with_reducible exact Ext.new _ _) | (with_reducible refine Ext.alloc' ?_ _) | (with_reducible refine Ext.drew' ?_) | (with_reducible refine Ext.drewN' ?_ _) | (with_reducible refine Ext.set' ?_ ?_ _; rotate_left; (focus (first | omega | (simp; done) | (simp; omega)))) | (with_reducible refine Ext.then (b := ?_) ?_ ?_; rotate_left; rotate_left; (with_reducible assumption))))⟩
    · have hv : Hid (formed1 (.mk 2 n inn kids) = false) := by
        show _ = _
        rw [formed1_mk]
        have : kids.isEmpty = false := by cases kids <;> simp_all
        simp [this]
      have b3 : ((kids.length : Int) == 0) = false := by simpa using hk0
      clear hi hk
      go_enter Tryz.func81, Tryz.ntmps81
      go_wp2_with fail
      go_ret
      exact ⟨ret_bool hv.out.symm, (by repeat (first | (with_reducible assumption) | (with_reducible exact Ext.rfl' _) | (with_reducible exact Ext.new _ _) | (with_reducible refine Ext.alloc' ?_ _) | (with_reducible refine Ext.drew' ?_) | (with_reducible refine Ext.drewN' ?_ _) | (with_reducible refine Ext.set' ?_ ?_ _; rotate_left; (focus (first | omega | (simp; done) | (simp; omega)))) | (with_reducible refine Ext.then (b := ?_) ?_ ?_; rotate_left; rotate_left; (with_reducible assumption))))⟩
  have a2 : (op == 2) = false := by simpa using h2
  have c2' : (op != 2) = true := by simpa using h2
  by_cases hin : 0 < inn.length
  · have hv : Hid (formed1 (.mk op n inn kids) = false) := by
      show _ = _
      rw [formed1_mk]
      have : inn ≠ [] := by intro e; subst e; simp at hin
      simp [h2, this]
    have b1 : decide (0 < (inn.length : Int)) = true := by simpa using hin
    clear hi hk
    go_enter Tryz.func81, Tryz.ntmps81
    go_wp2_with fail
    go_ret
    exact ⟨ret_bool hv.out.symm, (by repeat (first | (with_reducible assumption) | (with_reducible exact Ext.rfl' _) | (with_reducible exact Ext.new _ _) | (with_reducible refine Ext.alloc' ?_ _) | (with_reducible refine Ext.drew' ?_) | (with_reducible refine Ext.drewN' ?_ _) | (with_reducible refine Ext.set' ?_ ?_ _; rotate_left; (focus (first | omega | (simp; done) | (simp; omega)))) | (with_reducible refine Ext.then (b := ?_) ?_ ?_; rotate_left; rotate_left; (with_reducible assumption))))⟩
  have hin' : inn = [] := List.eq_nil_of_length_eq_zero (by omega)
  subst hin'
  have b1 : decide (0 < (([] : List Itv).length : Int)) = false := by simp
  by_cases h1 : op = 1
  · subst h1
    by_cases hk0 : kids.length = 0
    · have b3 : ((kids.length : Int) == 0) = true := by simpa using hk0
      by_cases hn0 : 0 ≤ n
      · have hv : Hid (formed1 (.mk 1 n [] kids) = decide (n < 64)) := by
          show _ = _
          rw [formed1_mk]
          have : kids.isEmpty = true := by rw [List.isEmpty_iff]; exact List.eq_nil_of_length_eq_zero hk0
          simp [this, hn0]
        have b2 : decide (0 ≤ n) = true := by simpa using hn0
        clear hi hk
        go_enter Tryz.func81, Tryz.ntmps81
        go_wp2_with fail
        go_ret
        exact ⟨ret_bool hv.out.symm, (by repeat (first | (with_reducible assumption) | (with_reducible exact Ext.rfl' _) | (with_reducible exact Ext.new _ _) | (with_reducible refine Ext.alloc' ?_ _) | (with_reducible refine Ext.drew' ?_) | (with_reducible refine Ext.drewN' ?_ _) | (with_reducible refine Ext.set' ?_ ?_ _; rotate_left; (focus (first | omega | (simp; done) | (simp; omega)))) | (with_reducible refine Ext.then (b := ?_) ?_ ?_; rotate_left; rotate_left; (with_reducible assumption))))⟩
      · have hv : Hid (formed1 (.mk 1 n [] kids) = false) := by
          show _ = _
          rw [formed1_mk]
          simp [hn0]
        have b2 : decide (0 ≤ n) = false := by simpa using hn0
        clear hi hk
        go_enter Tryz.func81, Tryz.ntmps81
        go_wp2_with fail
        go_ret
        exact ⟨ret_bool hv.out.symm, (by repeat (first | (with_reducible assumption) | (with_reducible exact Ext.rfl' _) | (with_reducible exact Ext.new _ _) | (with_reducible refine Ext.alloc' ?_ _) | (with_reducible refine Ext.drew' ?_) | (with_reducible refine Ext.drewN' ?_ _) | (with_reducible refine Ext.set' ?_ ?_ _; rotate_left; (focus (first | omega | (simp; done) | (simp; omega)))) | (with_reducible refine Ext.then (b := ?_) ?_ ?_; rotate_left; rotate_left; (with_reducible assumption))))⟩
    · have hv : Hid (formed1 (.mk 1 n [] kids) = false) := by
        show _ = _
        rw [formed1_mk]
        have : kids.isEmpty = false := by cases kids <;> simp_all
        simp [this]
      have b3 : ((kids.length : Int) == 0) = false := by simpa using hk0
      clear hi hk
      go_enter Tryz.func81, Tryz.ntmps81
      go_wp2_with fail
      go_ret
      exact ⟨ret_bool hv.out.symm, (by repeat (first | (with_reducible assumption) | (with_reducible exact Ext.rfl' _) | (with_reducible exact Ext.new _ _) | (with_reducible refine Ext.alloc' ?_ _) | (with_reducible refine Ext.drew' ?_) | (with_reducible refine Ext.drewN' ?_ _) | (with_reducible refine Ext.set' ?_ ?_ _; rotate_left; (focus (first | omega | (simp; done) | (simp; omega)))) | (with_reducible refine Ext.then (b := ?_) ?_ ?_; rotate_left; rotate_left; (with_reducible assumption))))⟩
  have a1 : (op == 1) = false := by simpa using h1
  have c1' : (op != 1) = true := by simpa using h1
  by_cases hn : n = 0
  · subst hn
    clear hi hk
    by_cases h0 : op = 0
    · subst h0
      have hv : Hid (formed1 (.mk 0 0 [] kids) = ((kids.length : Int) == 0)) := by show _ = _; rw [formed1_mk, ← emp_len]; simp
      go_enter Tryz.func81, Tryz.ntmps81
      go_wp2_with fail
      go_ret
      exact ⟨ret_bool hv.out.symm, (by repeat (first | (with_reducible assumption) | (with_reducible exact Ext.rfl' _) | (with_reducible exact Ext.new _ _) | (with_reducible refine Ext.alloc' ?_ _) | (with_reducible refine Ext.drew' ?_) | (with_reducible refine Ext.drewN' ?_ _) | (with_reducible refine Ext.set' ?_ ?_ _; rotate_left; (focus (first | omega | (simp; done) | (simp; omega)))) | (with_reducible refine Ext.then (b := ?_) ?_ ?_; rotate_left; rotate_left; (with_reducible assumption))))⟩
    have a0 : (op == 0) = false := by simpa using h0
    by_cases h3 : op = 3
    · subst h3
      have hv : Hid (formed1 (.mk 3 0 [] kids) = ((kids.length : Int) == 1)) := by show _ = _; rw [formed1_mk, ← len1]; simp
      go_enter Tryz.func81, Tryz.ntmps81
      go_wp2_with fail
      go_ret
      exact ⟨ret_bool hv.out.symm, (by repeat (first | (with_reducible assumption) | (with_reducible exact Ext.rfl' _) | (with_reducible exact Ext.new _ _) | (with_reducible refine Ext.alloc' ?_ _) | (with_reducible refine Ext.drew' ?_) | (with_reducible refine Ext.drewN' ?_ _) | (with_reducible refine Ext.set' ?_ ?_ _; rotate_left; (focus (first | omega | (simp; done) | (simp; omega)))) | (with_reducible refine Ext.then (b := ?_) ?_ ?_; rotate_left; rotate_left; (with_reducible assumption))))⟩
    have a3' : (op == 3) = false := by simpa using h3
    by_cases h6 : op = 6
    · subst h6
      have hv : Hid (formed1 (.mk 6 0 [] kids) = ((kids.length : Int) == 1)) := by show _ = _; rw [formed1_mk, ← len1]; simp
      go_enter Tryz.func81, Tryz.ntmps81
      go_wp2_with fail
      go_ret
      exact ⟨ret_bool hv.out.symm, (by repeat (first | (with_reducible assumption) | (with_reducible exact Ext.rfl' _) | (with_reducible exact Ext.new _ _) | (with_reducible refine Ext.alloc' ?_ _) | (with_reducible refine Ext.drew' ?_) | (with_reducible refine Ext.drewN' ?_ _) | (with_reducible refine Ext.set' ?_ ?_ _; rotate_left; (focus (first | omega | (simp; done) | (simp; omega)))) | (with_reducible refine Ext.then (b := ?_) ?_ ?_; rotate_left; rotate_left; (with_reducible assumption))))⟩
    have a6 : (op == 6) = false := by simpa using h6
    by_cases h4 : op = 4
    · subst h4
      have hv : Hid (formed1 (.mk 4 0 [] kids) = true) := by show _ = _; rw [formed1_mk]; simp
      go_enter Tryz.func81, Tryz.ntmps81
      go_wp2_with fail
      go_ret
      exact ⟨ret_bool hv.out.symm, (by repeat (first | (with_reducible assumption) | (with_reducible exact Ext.rfl' _) | (with_reducible exact Ext.new _ _) | (with_reducible refine Ext.alloc' ?_ _) | (with_reducible refine Ext.drew' ?_) | (with_reducible refine Ext.drewN' ?_ _) | (with_reducible refine Ext.set' ?_ ?_ _; rotate_left; (focus (first | omega | (simp; done) | (simp; omega)))) | (with_reducible refine Ext.then (b := ?_) ?_ ?_; rotate_left; rotate_left; (with_reducible assumption))))⟩
    have a4' : (op == 4) = false := by simpa using h4
    have hv : Hid (formed1 (.mk op 0 [] kids) = (op == 5)) := by show _ = _; rw [formed1_mk, if_neg (by simp), if_neg h0, if_neg h1, if_neg h2, if_neg (by omega), decide_eq_false h4, Bool.false_or, Bool.eq_iff_iff]; simp
    go_enter Tryz.func81, Tryz.ntmps81
    go_wp2_with fail
    go_ret
    exact ⟨ret_bool hv.out.symm, (by repeat (first | (with_reducible assumption) | (with_reducible exact Ext.rfl' _) | (with_reducible exact Ext.new _ _) | (with_reducible refine Ext.alloc' ?_ _) | (with_reducible refine Ext.drew' ?_) | (with_reducible refine Ext.drewN' ?_ _) | (with_reducible refine Ext.set' ?_ ?_ _; rotate_left; (focus (first | omega | (simp; done) | (simp; omega)))) | (with_reducible refine Ext.then (b := ?_) ?_ ?_; rotate_left; rotate_left; (with_reducible assumption))))⟩
  · have hv : Hid (formed1 (.mk op n [] kids) = false) := by
      show _ = _
      rw [formed1_mk]
      simp [h2, h1, hn]
    have b2 : (n == 0) = false := by simpa using hn
    have b4 : (n != 0) = true := by simpa using hn
    clear hi hk
    go_enter Tryz.func81, Tryz.ntmps81
    go_wp2_with fail
    go_ret
    exact ⟨ret_bool hv.out.symm, (by repeat (first | (with_reducible assumption) | (with_reducible exact Ext.rfl' _) | (with_reducible exact Ext.new _ _) | (with_reducible refine Ext.alloc' ?_ _) | (with_reducible refine Ext.drew' ?_) | (with_reducible refine Ext.drewN' ?_ _) | (with_reducible refine Ext.set' ?_ ?_ _; rotate_left; (focus (first | omega | (simp; done) | (simp; omega)))) | (with_reducible refine Ext.then (b := ?_) ?_ ?_; rotate_left; rotate_left; (with_reducible assumption))))⟩
end Go.Proofs.YtcbmgajaaechjaaGreat
