/- package priorartref13: Add. -/
import Derived.Test.YtcmdekhhclgdcaaDoorRef13C
namespace Go.Proofs.YtcmdekhhclgdcaaDoor
open Go.RowKit Go.Shelf
set_option linter.unusedSimpArgs false
set_option linter.unusedVariables false
theorem dayM_0 (y : Int) (n : Nat) : 0 ≤ dayM y n := by have := dayM_ge y n; omega
/-- beyond the year 2300 the number is beyond the last day -/
theorem numV_late {y m k : Int} (h : 2300 < y) (hk : 1 ≤ k) : 131072 < numV y m k := by
  have h1 := bef_mono (a := 2301) (b := y) (by omega)
  have h2 := bef1900
  have h3 : bef 2301 = 840057 := by unfold bef; omega
  have h4 := dayM_0 y (m - 1).toNat
  unfold numV
  omega
theorem ofE_add {y m k : Int} (hk : 1 ≤ k) : ofE y m k = if numV y m k ≤ 131072 then (numV y m k, 0) else (0, 5) := by
  unfold ofE
  by_cases h : 2300 < y
  · rw [if_pos h, if_neg (by have := numV_late (m := m) h hk; omega)]
  · rw [if_neg h]
    by_cases h2 : 131072 < numV y m k
    · rw [if_pos h2, if_neg (by omega)]
    · rw [if_neg h2, if_pos (by omega)]
set_option maxHeartbeats 2000000 in
theorem radd_c (d many : Int) (w : World) : Calls Tryd.prog 58 #[.int .i64 d, .int .i64 many] w (RetV w (two (addV d many).1 (addV d many).2)) := by
  by_cases h1 : 0 ≤ d ∧ d ≤ 131072
  · have hDE : dateE d = (dateV d, 0) := if_pos h1
    have hDc := rdate_c d w
    unfold DateP at hDc
    rw [hDE] at hDc
    have hI := dateV_is d h1.1
    by_cases h2 : 0 ≤ many ∧ many ≤ 12000
    · obtain ⟨h20, h21⟩ := h2
      have hE : Hid (addV d many = if addD (dateV d) many ≤ 131072 then (addD (dateV d) many, 0) else (0, 5)) := by
        show _ = _
        unfold addV; rw [if_neg (by omega), if_neg (by omega)]
      generalize dateV d = p at *
      obtain ⟨y, m, k⟩ := p
      dsimp only at hI hDc
      have hy := hI.y1 h1.2
      obtain ⟨hy0, hm0, hm1, hk0, hk1, -⟩ := hI
      have hlm := lenM_bd y m
      have hk2 : k ≤ 31 := by omega
      clear hk1 hlm hDE
      have hAD : addD (y, m, k) many = numV ((12 * y + m - 1 + many) / 12) ((12 * y + m - 1 + many) % 12 + 1) (min k (lenM ((12 * y + m - 1 + many) / 12) ((12 * y + m - 1 + many) % 12 + 1))) := rfl
      rw [hAD] at hE
      clear hAD
      obtain ⟨yy, hyy⟩ : ∃ yy, yy = (12 * y + m - 1 + many) / 12 := ⟨_, rfl⟩
      obtain ⟨mm, hmm⟩ : ∃ mm, mm = (12 * y + m - 1 + many) % 12 + 1 := ⟨_, rfl⟩
      rw [← hyy, ← hmm] at hE
      have hY : 1900 ≤ yy ∧ yy ≤ 3400 := by omega
      have hM : 1 ≤ mm ∧ mm ≤ 12 := by omega
      obtain ⟨hY0, hY1⟩ := hY
      obtain ⟨hM0, hM1⟩ := hM
      have hlm := lenM_bd yy mm
      have hLV : lenV yy mm = (lenM yy mm, 0) := if_pos ⟨hM0, hM1⟩
      have hlc := fun w => rlength_c yy mm w (by omega) (by omega)
      simp only [hLV] at hlc
      obtain ⟨kk, hkk⟩ : ∃ kk, kk = min k (lenM yy mm) := ⟨_, rfl⟩
      have hk3 : 1 ≤ kk := by omega
      have hk4 : kk ≤ lenM yy mm := by omega
      have hoc := fun w => rof_c yy mm kk w hY0 (by omega) hM0 hM1 hk3 hk4
      rw [ofE_add hk3] at hoc
      rw [← hkk] at hE
      have hE2 : Hid ((if numV yy mm kk ≤ 131072 then (numV yy mm kk, 0) else (0, 5)) = addV d many) := hE.out.symm
      rw [hE2.out] at hoc
      clear hE hE2 hLV hk3 hk4
      generalize lenM yy mm = L at *
      generalize addV d many = res at *
      obtain ⟨ra, rb⟩ := res
      dsimp only [two] at hoc hlc ⊢
      have hq1 : IntKind.i64.wrap (y + many / 12) = y + many / 12 := by rw [IntKind.wrap_i64]; omega
      have hq2 : IntKind.i64.wrap (m + many % 12) = m + many % 12 := by rw [IntKind.wrap_i64]; omega
      go_enter Tryd.func58, Tryd.ntmps58
      go_wp2_with fail
      refine hDc.mono ?_
      rintro e w1 ⟨rfl, hx1⟩
      have hO := Own.new w1 #[.int .i64 y, .int .i64 m, .int .i64 k] 94
      have hxW : Ext w (w1.alloc (.cells #[.int .i64 y, .int .i64 m, .int .i64 k] 94)) := (by repeat (first | (with_reducible assumption) | (with_reducible exact Ext.rfl' _) | (with_reducible exact Ext.new _ _) | (with_reducible refine Ext.alloc' ?_ _) | (with_reducible refine Ext.drew' ?_) | (with_reducible refine Ext.drewN' ?_ _) | (with_reducible refine Ext.set' ?_ ?_ _; rotate_left; (focus (first | omega | (simp; done) | (simp; omega)))) | (with_reducible refine Ext.then (b := ?_) ?_ ?_; rotate_left; rotate_left; (with_reducible assumption))))
      have hg : w.heap.size ≤ w1.heap.size := hx1.size
      by_cases hmc : m + many % 12 > 12
      · have e1 : Hid (y + many / 12 + 1 = yy) := by show _ = _; omega
        have e2 : Hid (m + many % 12 - 12 = mm) := by show _ = _; omega
        clear hyy hmm
        go_wp2_with fail
        rw [e1.out, e2.out]
        refine RetP_at (hlc _) ?_
        by_cases hkl : k ≤ L
        · obtain rfl : kk = k := by omega
          clear hkk
          go_wp2_with fail
          refine RetV_at (hoc _) ?_
          intro w4 hx4
          have hx5 : Ext w w4 := (by repeat (first | (with_reducible assumption) | (with_reducible exact Ext.rfl' _) | (with_reducible exact Ext.new _ _) | (with_reducible refine Ext.alloc' ?_ _) | (with_reducible refine Ext.drew' ?_) | (with_reducible refine Ext.drewN' ?_ _) | (with_reducible refine Ext.set' ?_ ?_ _; rotate_left; (focus (first | omega | (simp; done) | (simp; omega)))) | (with_reducible refine Ext.then (b := ?_) ?_ ?_; rotate_left; rotate_left; (with_reducible assumption))))
          go_wp2_with fail
          go_ret2
          exact ⟨rfl, hx5⟩
        · obtain rfl : kk = L := by omega
          clear hkk
          go_wp2_with fail
          refine RetV_at (hoc _) ?_
          intro w4 hx4
          have hx5 : Ext w w4 := (by repeat (first | (with_reducible assumption) | (with_reducible exact Ext.rfl' _) | (with_reducible exact Ext.new _ _) | (with_reducible refine Ext.alloc' ?_ _) | (with_reducible refine Ext.drew' ?_) | (with_reducible refine Ext.drewN' ?_ _) | (with_reducible refine Ext.set' ?_ ?_ _; rotate_left; (focus (first | omega | (simp; done) | (simp; omega)))) | (with_reducible refine Ext.then (b := ?_) ?_ ?_; rotate_left; rotate_left; (with_reducible assumption))))
          go_wp2_with fail
          go_ret2
          exact ⟨rfl, hx5⟩
      · have e1 : Hid (y + many / 12 = yy) := by show _ = _; omega
        have e2 : Hid (m + many % 12 = mm) := by show _ = _; omega
        clear hyy hmm
        go_wp2_with fail
        rw [e1.out, e2.out]
        refine RetP_at (hlc _) ?_
        by_cases hkl : k ≤ L
        · obtain rfl : kk = k := by omega
          clear hkk
          go_wp2_with fail
          refine RetV_at (hoc _) ?_
          intro w4 hx4
          have hx5 : Ext w w4 := (by repeat (first | (with_reducible assumption) | (with_reducible exact Ext.rfl' _) | (with_reducible exact Ext.new _ _) | (with_reducible refine Ext.alloc' ?_ _) | (with_reducible refine Ext.drew' ?_) | (with_reducible refine Ext.drewN' ?_ _) | (with_reducible refine Ext.set' ?_ ?_ _; rotate_left; (focus (first | omega | (simp; done) | (simp; omega)))) | (with_reducible refine Ext.then (b := ?_) ?_ ?_; rotate_left; rotate_left; (with_reducible assumption))))
          go_wp2_with fail
          go_ret2
          exact ⟨rfl, hx5⟩
        · obtain rfl : kk = L := by omega
          clear hkk
          go_wp2_with fail
          refine RetV_at (hoc _) ?_
          intro w4 hx4
          have hx5 : Ext w w4 := (by repeat (first | (with_reducible assumption) | (with_reducible exact Ext.rfl' _) | (with_reducible exact Ext.new _ _) | (with_reducible refine Ext.alloc' ?_ _) | (with_reducible refine Ext.drew' ?_) | (with_reducible refine Ext.drewN' ?_ _) | (with_reducible refine Ext.set' ?_ ?_ _; rotate_left; (focus (first | omega | (simp; done) | (simp; omega)))) | (with_reducible refine Ext.then (b := ?_) ?_ ?_; rotate_left; rotate_left; (with_reducible assumption))))
          go_wp2_with fail
          go_ret2
          exact ⟨rfl, hx5⟩
    · have hE : Hid (addV d many = (0, 1)) := by show _ = _; unfold addV; rw [if_neg (by omega), if_pos (by omega)]
      generalize dateV d = p at *
      clear hI hDE
      by_cases h3 : many < 0
      · clear h2
        go_enter Tryd.func58, Tryd.ntmps58
        go_wp2_with fail
        refine hDc.mono ?_
        rintro e w1 ⟨rfl, hx1⟩
        go_wp2_with fail
        go_ret2
        rw [hE.out]
        exact ⟨rfl, (by repeat (first | (with_reducible assumption) | (with_reducible exact Ext.rfl' _) | (with_reducible exact Ext.new _ _) | (with_reducible refine Ext.alloc' ?_ _) | (with_reducible refine Ext.drew' ?_) | (with_reducible refine Ext.drewN' ?_ _) | (with_reducible refine Ext.set' ?_ ?_ _; rotate_left; (focus (first | omega | (simp; done) | (simp; omega)))) | (with_reducible refine Ext.then (b := ?_) ?_ ?_; rotate_left; rotate_left; (with_reducible assumption))))⟩
      · have h4 : 12000 < many := by omega
        clear h2
        go_enter Tryd.func58, Tryd.ntmps58
        go_wp2_with fail
        refine hDc.mono ?_
        rintro e w1 ⟨rfl, hx1⟩
        go_wp2_with fail
        go_ret2
        rw [hE.out]
        exact ⟨rfl, (by repeat (first | (with_reducible assumption) | (with_reducible exact Ext.rfl' _) | (with_reducible exact Ext.new _ _) | (with_reducible refine Ext.alloc' ?_ _) | (with_reducible refine Ext.drew' ?_) | (with_reducible refine Ext.drewN' ?_ _) | (with_reducible refine Ext.set' ?_ ?_ _; rotate_left; (focus (first | omega | (simp; done) | (simp; omega)))) | (with_reducible refine Ext.then (b := ?_) ?_ ?_; rotate_left; rotate_left; (with_reducible assumption))))⟩
  · have hE : Hid (addV d many = (0, 5)) := by show _ = _; unfold addV; rw [if_pos (by omega)]
    have hDE : dateE d = ((0, 0, 0), 5) := if_neg h1
    have hDc := rdate_c d w
    unfold DateP at hDc
    rw [hDE] at hDc
    clear hDE
    go_enter Tryd.func58, Tryd.ntmps58
    go_wp2_with fail
    refine hDc.mono ?_
    rintro e w1 ⟨rfl, hx1⟩
    dsimp only
    go_wp2_with fail
    go_ret2
    rw [hE.out]
    exact ⟨rfl, (by repeat (first | (with_reducible assumption) | (with_reducible exact Ext.rfl' _) | (with_reducible exact Ext.new _ _) | (with_reducible refine Ext.alloc' ?_ _) | (with_reducible refine Ext.drew' ?_) | (with_reducible refine Ext.drewN' ?_ _) | (with_reducible refine Ext.set' ?_ ?_ _; rotate_left; (focus (first | omega | (simp; done) | (simp; omega)))) | (with_reducible refine Ext.then (b := ?_) ?_ ?_; rotate_left; rotate_left; (with_reducible assumption))))⟩
end Go.Proofs.YtcmdekhhclgdcaaDoor
