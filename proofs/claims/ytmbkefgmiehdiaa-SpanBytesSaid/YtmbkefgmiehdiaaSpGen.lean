/- generators: Around, Bound, Of. -/
import Derived.Test.YtmbkefgmiehdiaaSpR
namespace Go.Proofs.Ytmbkefgmiehdiaa
open Go.RowKit Go.Shelf
set_option linter.unusedSimpArgs false
set_option linter.unusedVariables false
/-- what Around returns -/
def aroundV (n m : Int) : Int := if n < 0 then (-(n + 1)).tmod m else n.tmod m
theorem aroundV_range {n m : Int} (hn : I64 n) (hm : 0 < m) : 0 ≤ aroundV n m ∧ aroundV n m < m := by
  unfold I64 at hn
  unfold aroundV
  split
  · exact ⟨Int.tmod_nonneg _ (by omega), Int.tmod_lt_of_pos _ hm⟩
  · exact ⟨Int.tmod_nonneg _ (by omega), Int.tmod_lt_of_pos _ hm⟩
theorem around_c (n m : Int) (w : World) (hn : I64 n) (hm : 0 < m) (hm' : m ≤ 9223372036854775807) :
    Calls Try.prog 10 #[.int .i64 n, .int .i64 m] w (RetV w (.int .i64 (aroundV n m))) := by
  have hr := aroundV_range hn hm
  have hn' := hn
  unfold I64 at hn'
  have hm0 : (m == 0) = false := by simp; omega
  by_cases h : n < 0
  · have hv : Hid (aroundV n m = (-(n + 1)).tmod m) := by show _ = _; unfold aroundV; rw [if_pos h]
    rw [hv.out] at hr ⊢
    have hq : IntKind.i64.wrap ((-(n + 1)).tmod m) = (-(n + 1)).tmod m := by rw [IntKind.wrap_i64]; omega
    go_enter Try.func10, Try.ntmps10
    go_wp2_with fail
    go_ret
    exact ⟨ret_int (Int.neg_tmod ..).symm, (by repeat (first | (with_reducible assumption) | (with_reducible exact Ext.rfl' _) | (with_reducible exact Ext.new _ _) | (with_reducible refine Ext.alloc' ?_ _) | (with_reducible refine Ext.drew' ?_) | (with_reducible refine Ext.drewN' ?_ _) | (with_reducible refine Ext.set' ?_ ?_ _; rotate_left; (focus (first | omega | (simp; done) | (simp; omega)))) | (with_reducible refine Ext.then (b := ?_) ?_ ?_; rotate_left; rotate_left; (with_reducible assumption))))⟩
  · have hv : Hid (aroundV n m = n.tmod m) := by show _ = _; unfold aroundV; rw [if_neg h]
    rw [hv.out] at hr ⊢
    have hq : IntKind.i64.wrap (n.tmod m) = n.tmod m := by rw [IntKind.wrap_i64]; omega
    go_enter Try.func10, Try.ntmps10
    go_wp2_with fail
    go_ret
    exact ⟨ret_int (Int.tmod_eq_emod_of_nonneg (by omega)).symm, (by repeat (first | (with_reducible assumption) | (with_reducible exact Ext.rfl' _) | (with_reducible exact Ext.new _ _) | (with_reducible refine Ext.alloc' ?_ _) | (with_reducible refine Ext.drew' ?_) | (with_reducible refine Ext.drewN' ?_ _) | (with_reducible refine Ext.set' ?_ ?_ _; rotate_left; (focus (first | omega | (simp; done) | (simp; omega)))) | (with_reducible refine Ext.then (b := ?_) ?_ ?_; rotate_left; rotate_left; (with_reducible assumption))))⟩
def boundV (n m : Int) : Int := aroundV n (2 * m + 1) - m
theorem boundV_range {n m : Int} (hn : I64 n) (hm : 0 ≤ m) : -m ≤ boundV n m ∧ boundV n m ≤ m := by
  have := aroundV_range hn (show 0 < 2 * m + 1 by omega)
  unfold boundV; omega
theorem bound_c (n m : Int) (w : World) (hn : I64 n) (hm : 0 ≤ m) (hm' : m ≤ 2305843009213693951) :
    Calls Try.prog 12 #[.int .i64 n, .int .i64 m] w (RetV w (.int .i64 (boundV n m))) := by
  have hr := aroundV_range hn (show 0 < 2 * m + 1 by omega)
  have hs : Hid (boundV n m = aroundV n (2 * m + 1) - m) := rfl
  have hc := fun w => around_c n (2 * m + 1) w hn (by omega) (by omega)
  generalize boundV n m = q at hs ⊢
  generalize aroundV n (2 * m + 1) = r at *
  have w1 : IntKind.i64.wrap (2 * m) = 2 * m := wrap_id (by omega) (by omega)
  have w2 : IntKind.i64.wrap (2 * m + 1) = 2 * m + 1 := wrap_id (by omega) (by omega)
  have w3 : IntKind.i64.wrap (r - m) = r - m := wrap_id (by omega) (by omega)
  replace hc := Lib.hid hc
  go_enter Try.func12, Try.ntmps12
  go_wp2_with fail
  refine RetV_at (hc.out _) ?_
  intro w1 hx1
  go_wp2_with fail
  go_ret
  exact ⟨ret_int hs.out.symm, (by repeat (first | (with_reducible assumption) | (with_reducible exact Ext.rfl' _) | (with_reducible exact Ext.new _ _) | (with_reducible refine Ext.alloc' ?_ _) | (with_reducible refine Ext.drew' ?_) | (with_reducible refine Ext.drewN' ?_ _) | (with_reducible refine Ext.set' ?_ ?_ _; rotate_left; (focus (first | omega | (simp; done) | (simp; omega)))) | (with_reducible refine Ext.then (b := ?_) ?_ ?_; rotate_left; rotate_left; (with_reducible assumption))))⟩
/-- n / d in lowest terms -/
def ofS (n d : Int) : Rat2 × Int :=
  if 1099511627776 < n / (Int.gcd n d : Int) ∨ n / (Int.gcd n d : Int) < -1099511627776 ∨ 1048576 < d / (Int.gcd n d : Int) then (⟨0, 0⟩, 5) else (⟨n / (Int.gcd n d : Int), d / (Int.gcd n d : Int)⟩, 0)
def raE (r : Rat2) (e : Int) : Value := .tuple #[raA r, .int .i64 e]
theorem tdiv_gcd (n d : Int) : n.tdiv (Int.gcd n d : Int) = n / (Int.gcd n d : Int) ∧ d.tdiv (Int.gcd n d : Int) = d / (Int.gcd n d : Int) :=
  ⟨Int.tdiv_eq_ediv_of_dvd (Int.gcd_dvd_left ..), Int.tdiv_eq_ediv_of_dvd (Int.gcd_dvd_right ..)⟩
theorem quo_bd {n g : Int} (hg : 1 ≤ g) (h1 : -4611686018427387904 ≤ n) (h2 : n ≤ 4611686018427387904) : -4611686018427387904 ≤ n / g ∧ n / g ≤ 4611686018427387904 := by
  constructor
  · rw [Int.le_ediv_iff_mul_le (by omega)]
    have : -4611686018427387904 * g ≤ -4611686018427387904 * 1 := Int.mul_le_mul_of_nonpos_left (by omega) hg
    omega
  · have := Int.ediv_le_ediv (show 0 < g by omega) h2
    have h3 : 4611686018427387904 / g ≤ 4611686018427387904 := Int.ediv_le_self _ (by omega)
    omega
set_option maxRecDepth 100000 in
set_option maxHeartbeats 2000000 in
theorem of_c (n d : Int) (w : World) (hn : B62 n) (hd : 1 ≤ d) (hd' : d ≤ 4611686018427387904) :
    Calls Try.prog 55 #[.int .i64 n, .int .i64 d] w (RetV w (raE (ofS n d).1 (ofS n d).2)) := by
  have hc := fun w => common_c n d w hn (by unfold B62; omega)
  have hg1 : 1 ≤ (Int.gcd n d : Int) := by
    have : 0 < Int.gcd n d := Int.gcd_pos_of_ne_zero_right n (by omega)
    omega
  obtain ⟨t1, t2⟩ := tdiv_gcd n d
  have hs : Hid (ofS n d = if 1099511627776 < n / (Int.gcd n d : Int) ∨ n / (Int.gcd n d : Int) < -1099511627776 ∨ 1048576 < d / (Int.gcd n d : Int) then (⟨0, 0⟩, 5) else (⟨n / (Int.gcd n d : Int), d / (Int.gcd n d : Int)⟩, 0)) := rfl
  have q1 := quo_bd (n := n) hg1 hn.1 hn.2
  have q2 := quo_bd (n := d) hg1 (by omega) hd'
  generalize (Int.gcd n d : Int) = g at *
  generalize hx : n / g = x at *
  generalize hy : d / g = y at *
  have hg0 : (g == 0) = false := by simp; omega
  have w1 : IntKind.i64.wrap (n.tdiv g) = x := by rw [t1]; exact wrap_id (by omega) (by omega)
  have w2 : IntKind.i64.wrap (d.tdiv g) = y := by rw [t2]; exact wrap_id (by omega) (by omega)
  have hdn : ¬ d < 0 := by omega
  replace hc := Lib.hid hc
  clear hx hy t1 t2
  have hw := Ext.new w (.cells #[.int .i64 0, .int .i64 0] 40)
  have hO := Proofs.Ytmbkefgmiehdiaa.Own.new w #[.int .i64 0, .int .i64 0] 40
  go_enter Try.func55, Try.ntmps55
  go_wp2_with fail
  generalize w.alloc _ = W at *
  refine RetV_at (hc.out _) ?_
  intro w1 hx1
  replace hO := hO.keep hx1
  replace hw := hw.then hx1
  obtain ⟨c1, f1⟩ := hO.facts
  have z1 := hO.lt
  clear hx1
  by_cases h1 : 1099511627776 < x
  · rw [if_pos (.inl h1)] at hs
    go_wp2_with fail
    exact bodyPost_ret (v := raE ⟨0, 0⟩ 5) (by simp [raE, raA, results, Try.results55, go_sem, c1, f1, z1]) rfl ⟨by rw [hs.out], (by repeat (first | (with_reducible assumption) | (with_reducible exact Ext.rfl' _) | (with_reducible exact Ext.new _ _) | (with_reducible refine Ext.alloc' ?_ _) | (with_reducible refine Ext.drew' ?_) | (with_reducible refine Ext.drewN' ?_ _) | (with_reducible refine Ext.set' ?_ ?_ _; rotate_left; (focus (first | omega | (simp; done) | (simp; omega)))) | (with_reducible refine Ext.then (b := ?_) ?_ ?_; rotate_left; rotate_left; (with_reducible assumption))))⟩
  · by_cases h2 : x < -1099511627776
    · rw [if_pos (.inr (.inl h2))] at hs
      go_wp2_with fail
      exact bodyPost_ret (v := raE ⟨0, 0⟩ 5) (by simp [raE, raA, results, Try.results55, go_sem, c1, f1, z1]) rfl ⟨by rw [hs.out], (by repeat (first | (with_reducible assumption) | (with_reducible exact Ext.rfl' _) | (with_reducible exact Ext.new _ _) | (with_reducible refine Ext.alloc' ?_ _) | (with_reducible refine Ext.drew' ?_) | (with_reducible refine Ext.drewN' ?_ _) | (with_reducible refine Ext.set' ?_ ?_ _; rotate_left; (focus (first | omega | (simp; done) | (simp; omega)))) | (with_reducible refine Ext.then (b := ?_) ?_ ?_; rotate_left; rotate_left; (with_reducible assumption))))⟩
    · by_cases h3 : 1048576 < y
      · rw [if_pos (.inr (.inr h3))] at hs
        go_wp2_with fail
        exact bodyPost_ret (v := raE ⟨0, 0⟩ 5) (by simp [raE, raA, results, Try.results55, go_sem, c1, f1, z1]) rfl ⟨by rw [hs.out], (by repeat (first | (with_reducible assumption) | (with_reducible exact Ext.rfl' _) | (with_reducible exact Ext.new _ _) | (with_reducible refine Ext.alloc' ?_ _) | (with_reducible refine Ext.drew' ?_) | (with_reducible refine Ext.drewN' ?_ _) | (with_reducible refine Ext.set' ?_ ?_ _; rotate_left; (focus (first | omega | (simp; done) | (simp; omega)))) | (with_reducible refine Ext.then (b := ?_) ?_ ?_; rotate_left; rotate_left; (with_reducible assumption))))⟩
      · rw [if_neg (by omega)] at hs
        go_wp2_with fail
        exact bodyPost_ret (v := raE ⟨x, y⟩ 0) (by simp [raE, raA, results, Try.results55, go_sem, c1, f1, z1]) rfl ⟨by rw [hs.out], (by repeat (first | (with_reducible assumption) | (with_reducible exact Ext.rfl' _) | (with_reducible exact Ext.new _ _) | (with_reducible refine Ext.alloc' ?_ _) | (with_reducible refine Ext.drew' ?_) | (with_reducible refine Ext.drewN' ?_ _) | (with_reducible refine Ext.set' ?_ ?_ _; rotate_left; (focus (first | omega | (simp; done) | (simp; omega)))) | (with_reducible refine Ext.then (b := ?_) ?_ ?_; rotate_left; rotate_left; (with_reducible assumption))))⟩
/-- a quotient in lowest terms is small, if its parts are -/
theorem ofS_small {n d : Int} (h1 : -1073741824 ≤ n) (h2 : n ≤ 1073741824) (h3 : 1 ≤ d) (h4 : d ≤ 32768) : (ofS n d).2 = 0 ∧ smallB (ofS n d).1 = true := by
  have hg1 : 1 ≤ (Int.gcd n d : Int) := by
    have : 0 < Int.gcd n d := Int.gcd_pos_of_ne_zero_right n (by omega)
    omega
  have hc : Int.gcd (n / (Int.gcd n d : Int)) (d / (Int.gcd n d : Int)) = 1 := Int.gcd_ediv_gcd_ediv_gcd (by omega)
  have hdd : (d / (Int.gcd n d : Int)) * (Int.gcd n d : Int) = d := Int.ediv_mul_cancel (Int.gcd_dvd_right ..)
  have hnn : (n / (Int.gcd n d : Int)) * (Int.gcd n d : Int) = n := Int.ediv_mul_cancel (Int.gcd_dvd_left ..)
  unfold ofS
  generalize (Int.gcd n d : Int) = g at *
  generalize n / g = x at *
  generalize d / g = y at *
  have hy1 : 1 ≤ y := by
    rcases Int.lt_or_le y 1 with h | h
    · have : y * g ≤ 0 := Int.mul_nonpos_of_nonpos_of_nonneg (by omega) (by omega)
      omega
    · exact h
  have hy2 : y ≤ 32768 := by
    have : y * 1 ≤ y * g := Int.mul_le_mul_of_nonneg_left hg1 (by omega)
    omega
  have hx2 : x.natAbs ≤ 1073741824 := by
    have e : x.natAbs * g.natAbs = n.natAbs := by rw [← Int.natAbs_mul, hnn]
    have : x.natAbs * 1 ≤ x.natAbs * g.natAbs := Nat.mul_le_mul_left _ (by omega)
    omega
  rw [if_neg (by omega)]
  refine ⟨rfl, smallB_iff.2 ⟨ratOk_iff.2 ⟨hy1, ?_, ?_, ?_, hc⟩, hx2, hy2⟩⟩
  · dsimp only; omega
  · dsimp only; omega
  · dsimp only; omega
end Go.Proofs.Ytmbkefgmiehdiaa
