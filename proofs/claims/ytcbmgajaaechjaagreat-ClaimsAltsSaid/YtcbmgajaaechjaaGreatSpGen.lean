/- generators: Around, Bound, Of. -/
import Derived.Test.YtcbmgajaaechjaaGreatSpR
namespace Go.Proofs.YtcbmgajaaechjaaGreat
open Go.RowKit Go.Shelf
set_option linter.unusedSimpArgs false
set_option linter.unusedVariables false
/-- what Around returns -/
def aroundV (n m : Int) : Int := if n < 0 then (-(n + 1)).tmod m else n.tmod m
theorem aroundV_range {n m : Int} (hn : I64 n) (hm : 0 < m) : 0 ≤ aroundV n m ∧ aroundV n m < m := by
  unfold I64 at hn
  unfold aroundV
  split
  · exact ⟨Int.tmod_nonneg _ (by omega), Int.tmod_lt_of_pos _ hm⟩
  · exact ⟨Int.tmod_nonneg _ (by omega), Int.tmod_lt_of_pos _ hm⟩
theorem around_c (n m : Int) (w : World) (hn : I64 n) (hm : 0 < m) (hm' : m ≤ 9223372036854775807) :
    Calls Tryz.prog 53 #[.int .i64 n, .int .i64 m] w (RetV w (.int .i64 (aroundV n m))) := by
  have hr := aroundV_range hn hm
  have hn' := hn
  unfold I64 at hn'
  have hm0 : (m == 0) = false := by simp; omega
  by_cases h : n < 0
  · have hv : Hid (aroundV n m = (-(n + 1)).tmod m) := by show _ = _; unfold aroundV; rw [if_pos h]
    rw [hv.out] at hr ⊢
    have hq : IntKind.i64.wrap ((-(n + 1)).tmod m) = (-(n + 1)).tmod m := by rw [IntKind.wrap_i64]; omega
    go_enter Tryz.func53, Tryz.ntmps53
    go_wp2_with fail
    go_ret
    exact ⟨ret_int (Int.neg_tmod ..).symm, (by repeat (first | (with_reducible assumption) | (with_reducible exact Ext.rfl' _) | (with_reducible exact Ext.new _ _) | (with_reducible refine Ext.alloc' ?_ _) | (with_reducible refine Ext.drew' ?_) | (with_reducible refine Ext.drewN' ?_ _) | (with_reducible refine Ext.set' ?_ ?_ _; rotate_left; (focus (first | omega | (simp; done) | (simp; omega)))) | (with_reducible refine Ext.then (b := ?_) ?_ ?_; rotate_left; rotate_left; (with_reducible assumption))))⟩
  · have hv : Hid (aroundV n m = n.tmod m) := by show _ = _; unfold aroundV; rw [if_neg h]
    rw [hv.out] at hr ⊢
    have hq : IntKind.i64.wrap (n.tmod m) = n.tmod m := by rw [IntKind.wrap_i64]; omega
    go_enter Tryz.func53, Tryz.ntmps53
    go_wp2_with fail
    go_ret
    exact ⟨ret_int (Int.tmod_eq_emod_of_nonneg (by omega)).symm, (by repeat (first | (with_reducible assumption) | (with_reducible exact Ext.rfl' _) | (with_reducible exact Ext.new _ _) | (with_reducible refine Ext.alloc' ?_ _) | (with_reducible refine Ext.drew' ?_) | (with_reducible refine Ext.drewN' ?_ _) | (with_reducible refine Ext.set' ?_ ?_ _; rotate_left; (focus (first | omega | (simp; done) | (simp; omega)))) | (with_reducible refine Ext.then (b := ?_) ?_ ?_; rotate_left; rotate_left; (with_reducible assumption))))⟩
def boundV (n m : Int) : Int := aroundV n (2 * m + 1) - m
theorem boundV_range {n m : Int} (hn : I64 n) (hm : 0 ≤ m) : -m ≤ boundV n m ∧ boundV n m ≤ m := by
  have := aroundV_range hn (show 0 < 2 * m + 1 by omega)
  unfold boundV; omega
/-- n / d in lowest terms -/
def ofS (n d : Int) : Rat2 × Int :=
  if 1099511627776 < n / (Int.gcd n d : Int) ∨ n / (Int.gcd n d : Int) < -1099511627776 ∨ 1048576 < d / (Int.gcd n d : Int) then (⟨0, 0⟩, 5) else (⟨n / (Int.gcd n d : Int), d / (Int.gcd n d : Int)⟩, 0)
def raE (r : Rat2) (e : Int) : Value := .tuple #[raA r, .int .i64 e]
theorem tdiv_gcd (n d : Int) : n.tdiv (Int.gcd n d : Int) = n / (Int.gcd n d : Int) ∧ d.tdiv (Int.gcd n d : Int) = d / (Int.gcd n d : Int) :=
  ⟨Int.tdiv_eq_ediv_of_dvd (Int.gcd_dvd_left ..), Int.tdiv_eq_ediv_of_dvd (Int.gcd_dvd_right ..)⟩
theorem quo_bd {n g : Int} (hg : 1 ≤ g) (h1 : -4611686018427387904 ≤ n) (h2 : n ≤ 4611686018427387904) : -4611686018427387904 ≤ n / g ∧ n / g ≤ 4611686018427387904 := by
  constructor
  · rw [Int.le_ediv_iff_mul_le (by omega)]
    have : -4611686018427387904 * g ≤ -4611686018427387904 * 1 := Int.mul_le_mul_of_nonpos_left (by omega) hg
    omega
  · have := Int.ediv_le_ediv (show 0 < g by omega) h2
    have h3 : 4611686018427387904 / g ≤ 4611686018427387904 := Int.ediv_le_self _ (by omega)
    omega
/-- a quotient in lowest terms is small, if its parts are -/
theorem ofS_small {n d : Int} (h1 : -1073741824 ≤ n) (h2 : n ≤ 1073741824) (h3 : 1 ≤ d) (h4 : d ≤ 32768) : (ofS n d).2 = 0 ∧ smallB (ofS n d).1 = true := by
  have hg1 : 1 ≤ (Int.gcd n d : Int) := by
    have : 0 < Int.gcd n d := Int.gcd_pos_of_ne_zero_right n (by omega)
    omega
  have hc : Int.gcd (n / (Int.gcd n d : Int)) (d / (Int.gcd n d : Int)) = 1 := Int.gcd_ediv_gcd_ediv_gcd (by omega)
  have hdd : (d / (Int.gcd n d : Int)) * (Int.gcd n d : Int) = d := Int.ediv_mul_cancel (Int.gcd_dvd_right ..)
  have hnn : (n / (Int.gcd n d : Int)) * (Int.gcd n d : Int) = n := Int.ediv_mul_cancel (Int.gcd_dvd_left ..)
  unfold ofS
  generalize (Int.gcd n d : Int) = g at *
  generalize n / g = x at *
  generalize d / g = y at *
  have hy1 : 1 ≤ y := by
    rcases Int.lt_or_le y 1 with h | h
    · have : y * g ≤ 0 := Int.mul_nonpos_of_nonpos_of_nonneg (by omega) (by omega)
      omega
    · exact h
  have hy2 : y ≤ 32768 := by
    have : y * 1 ≤ y * g := Int.mul_le_mul_of_nonneg_left hg1 (by omega)
    omega
  have hx2 : x.natAbs ≤ 1073741824 := by
    have e : x.natAbs * g.natAbs = n.natAbs := by rw [← Int.natAbs_mul, hnn]
    have : x.natAbs * 1 ≤ x.natAbs * g.natAbs := Nat.mul_le_mul_left _ (by omega)
    omega
  rw [if_neg (by omega)]
  refine ⟨rfl, smallB_iff.2 ⟨ratOk_iff.2 ⟨hy1, ?_, ?_, ?_, hc⟩, hx2, hy2⟩⟩
  · dsimp only; omega
  · dsimp only; omega
  · dsimp only; omega
end Go.Proofs.YtcbmgajaaechjaaGreat
