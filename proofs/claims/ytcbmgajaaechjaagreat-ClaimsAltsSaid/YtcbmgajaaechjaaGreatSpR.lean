/- the reference of package ratio: common, Valid, Less, Of. -/
import Derived.Test.YtcbmgajaaechjaaGreatSpH
namespace Go.Proofs.YtcbmgajaaechjaaGreat
open Go.RowKit Go.Shelf
set_option linter.unusedSimpArgs false
set_option linter.unusedVariables false
def B62 (n : Int) : Prop := -4611686018427387904 ≤ n ∧ n ≤ 4611686018427387904
set_option maxRecDepth 100000 in
set_option maxHeartbeats 1000000 in
theorem common_c (a b : Int) (w : World) (ha : B62 a) (hb : B62 b) : Calls Tryz.prog 164 #[.int .i64 a, .int .i64 b] w (RetV w (.int .i64 (Int.gcd a b))) := by
  go_enter Tryz.func164, Tryz.ntmps164
  go_wp2
  go_loopw [0, 1] (fun u v wr => ∃ x y : Int, B62 x ∧ B62 y ∧ u = .int .i64 x ∧ v = .int .i64 y ∧ Hid (Int.gcd x y = Int.gcd a b) ∧ Ext w wr) (fun _ v _ => (intOf v).natAbs)
  case atStart => exact ⟨a, b, ha, hb, rfl, rfl, Lib.hid rfl, (by repeat (first | (with_reducible assumption) | (with_reducible exact Ext.rfl' _) | (with_reducible exact Ext.new _ _) | (with_reducible refine Ext.alloc' ?_ _) | (with_reducible refine Ext.drew' ?_) | (with_reducible refine Ext.drewN' ?_ _) | (with_reducible refine Ext.set' ?_ ?_ _; rotate_left; (focus (first | omega | (simp; done) | (simp; omega)))) | (with_reducible refine Ext.then (b := ?_) ?_ ?_; rotate_left; rotate_left; (with_reducible assumption))))⟩
  case round =>
    obtain ⟨x, y, hx, hy, rfl, rfl, hg, he⟩ := hrel
    by_cases h0 : y = 0
    · subst h0
      have h9 : Hid ((Int.gcd a b : Int) = x.natAbs) := Lib.hid (by rw [← hg.out, Int.gcd_zero_right])
      unfold B62 at hx
      by_cases hn : x < 0
      · go_wp2_with fail
        go_ret
        exact ⟨ret_int (by rw [h9.out]; omega), (by repeat (first | (with_reducible assumption) | (with_reducible exact Ext.rfl' _) | (with_reducible exact Ext.new _ _) | (with_reducible refine Ext.alloc' ?_ _) | (with_reducible refine Ext.drew' ?_) | (with_reducible refine Ext.drewN' ?_ _) | (with_reducible refine Ext.set' ?_ ?_ _; rotate_left; (focus (first | omega | (simp; done) | (simp; omega)))) | (with_reducible refine Ext.then (b := ?_) ?_ ?_; rotate_left; rotate_left; (with_reducible assumption))))⟩
      · go_wp2_with fail
        go_ret
        exact ⟨ret_int (by rw [h9.out]; omega), (by repeat (first | (with_reducible assumption) | (with_reducible exact Ext.rfl' _) | (with_reducible exact Ext.new _ _) | (with_reducible refine Ext.alloc' ?_ _) | (with_reducible refine Ext.drew' ?_) | (with_reducible refine Ext.drewN' ?_ _) | (with_reducible refine Ext.set' ?_ ?_ _; rotate_left; (focus (first | omega | (simp; done) | (simp; omega)))) | (with_reducible refine Ext.then (b := ?_) ?_ ?_; rotate_left; rotate_left; (with_reducible assumption))))⟩
    · have hb0 : (y != 0) = true := by simpa using h0
      have e1 : (x.tmod y).natAbs = x.natAbs % y.natAbs := Int.natAbs_tmod x y
      have e2 : x.natAbs % y.natAbs < y.natAbs := Nat.mod_lt _ (by omega)
      have hg2 : Hid (Int.gcd y (x.tmod y) = Int.gcd a b) := Lib.hid (by rw [← hg.out]; unfold Int.gcd; rw [e1, Nat.gcd_comm x.natAbs, Nat.gcd_rec y.natAbs x.natAbs, Nat.gcd_comm])
      have h7 : B62 (x.tmod y) := by unfold B62 at *; omega
      generalize hq : x.tmod y = q at *
      replace hq := Lib.hid hq
      go_wp2_with fail
      go_quiet (fail)
      rw [hq.out]
      go_wp2_with fail
      refine ⟨⟨y, q, hy, h7, rfl, rfl, hg2, (by repeat (first | (with_reducible assumption) | (with_reducible exact Ext.rfl' _) | (with_reducible exact Ext.new _ _) | (with_reducible refine Ext.alloc' ?_ _) | (with_reducible refine Ext.drew' ?_) | (with_reducible refine Ext.drewN' ?_ _) | (with_reducible refine Ext.set' ?_ ?_ _; rotate_left; (focus (first | omega | (simp; done) | (simp; omega)))) | (with_reducible refine Ext.then (b := ?_) ?_ ?_; rotate_left; rotate_left; (with_reducible assumption))))⟩, ?_⟩
      simp only [intOf]; omega
theorem ratOk_iff {r : Rat2} : RatOk r ↔ 1 ≤ r.den ∧ r.den ≤ 1048576 ∧ -1099511627776 ≤ r.num ∧ r.num ≤ 1099511627776 ∧ Int.gcd r.num r.den = 1 := by
  unfold RatOk Int.gcd
  omega
set_option maxRecDepth 100000 in
set_option maxHeartbeats 1000000 in
theorem rvalid_c (r : Rat2) (w : World) : Calls Tryz.prog 149 #[raA r] w (RetV w (.int .i64 (ErrIf (RatOk r) 1))) := by
  obtain ⟨n, d⟩ := r
  have hO := Proofs.YtcbmgajaaechjaaGreat.Own.new w #[.int .i64 n, .int .i64 d] 100
  unfold raA
  dsimp only
  by_cases hbad : d < 1 ∨ 1048576 < d ∨ n < -1099511627776 ∨ 1099511627776 < n
  · have hs : Hid (¬ RatOk ⟨n, d⟩) := by show ¬ _; rw [ratOk_iff]; dsimp only; omega
    clear hO
    by_cases h1 : d < 1
    · go_enter Tryz.func149, Tryz.ntmps149
      go_wp2_with fail
      go_ret
      exact ⟨ret_ek hs.out, (by repeat (first | (with_reducible assumption) | (with_reducible exact Ext.rfl' _) | (with_reducible exact Ext.new _ _) | (with_reducible refine Ext.alloc' ?_ _) | (with_reducible refine Ext.drew' ?_) | (with_reducible refine Ext.drewN' ?_ _) | (with_reducible refine Ext.set' ?_ ?_ _; rotate_left; (focus (first | omega | (simp; done) | (simp; omega)))) | (with_reducible refine Ext.then (b := ?_) ?_ ?_; rotate_left; rotate_left; (with_reducible assumption))))⟩
    · by_cases h2 : 1048576 < d
      · go_enter Tryz.func149, Tryz.ntmps149
        go_wp2_with fail
        go_ret
        exact ⟨ret_ek hs.out, (by repeat (first | (with_reducible assumption) | (with_reducible exact Ext.rfl' _) | (with_reducible exact Ext.new _ _) | (with_reducible refine Ext.alloc' ?_ _) | (with_reducible refine Ext.drew' ?_) | (with_reducible refine Ext.drewN' ?_ _) | (with_reducible refine Ext.set' ?_ ?_ _; rotate_left; (focus (first | omega | (simp; done) | (simp; omega)))) | (with_reducible refine Ext.then (b := ?_) ?_ ?_; rotate_left; rotate_left; (with_reducible assumption))))⟩
      · by_cases h3 : 1099511627776 < n
        · go_enter Tryz.func149, Tryz.ntmps149
          go_wp2_with fail
          go_ret
          exact ⟨ret_ek hs.out, (by repeat (first | (with_reducible assumption) | (with_reducible exact Ext.rfl' _) | (with_reducible exact Ext.new _ _) | (with_reducible refine Ext.alloc' ?_ _) | (with_reducible refine Ext.drew' ?_) | (with_reducible refine Ext.drewN' ?_ _) | (with_reducible refine Ext.set' ?_ ?_ _; rotate_left; (focus (first | omega | (simp; done) | (simp; omega)))) | (with_reducible refine Ext.then (b := ?_) ?_ ?_; rotate_left; rotate_left; (with_reducible assumption))))⟩
        · have h4 : n < -1099511627776 := by omega
          go_enter Tryz.func149, Tryz.ntmps149
          go_wp2_with fail
          go_ret
          exact ⟨ret_ek hs.out, (by repeat (first | (with_reducible assumption) | (with_reducible exact Ext.rfl' _) | (with_reducible exact Ext.new _ _) | (with_reducible refine Ext.alloc' ?_ _) | (with_reducible refine Ext.drew' ?_) | (with_reducible refine Ext.drewN' ?_ _) | (with_reducible refine Ext.set' ?_ ?_ _; rotate_left; (focus (first | omega | (simp; done) | (simp; omega)))) | (with_reducible refine Ext.then (b := ?_) ?_ ?_; rotate_left; rotate_left; (with_reducible assumption))))⟩
  · have h1 : ¬ d < 1 := by omega
    have h2 : ¬ 1048576 < d := by omega
    have h3 : ¬ 1099511627776 < n := by omega
    have h4 : ¬ n < -1099511627776 := by omega
    have hc := fun w => common_c n d w (by unfold B62; omega) (by unfold B62; omega)
    have hs : Hid ((((Int.gcd n d : Nat) : Int) = 1) ↔ RatOk ⟨n, d⟩) := by
      show _ ↔ _
      rw [ratOk_iff]; dsimp only; omega
    generalize (Int.gcd n d : Int) = g at *
    replace hc := Lib.hid hc
    clear hbad
    have hx := Ext.new w (.cells #[.int .i64 n, .int .i64 d] 100)
    clear hO
    go_enter Tryz.func149, Tryz.ntmps149
    go_wp2_with fail
    refine RetV_at (hc.out _) ?_
    intro w1 hx1
    by_cases hg : g = 1
    · have h9 := Lib.hid (hs.out.1 hg)
      have hgb : (g != 1) = false := by simpa using hg
      clear hs
      go_wp2_with fail
      go_ret
      exact ⟨ret_e0 h9.out, (by repeat (first | (with_reducible assumption) | (with_reducible exact Ext.rfl' _) | (with_reducible exact Ext.new _ _) | (with_reducible refine Ext.alloc' ?_ _) | (with_reducible refine Ext.drew' ?_) | (with_reducible refine Ext.drewN' ?_ _) | (with_reducible refine Ext.set' ?_ ?_ _; rotate_left; (focus (first | omega | (simp; done) | (simp; omega)))) | (with_reducible refine Ext.then (b := ?_) ?_ ?_; rotate_left; rotate_left; (with_reducible assumption))))⟩
    · have h9 := Lib.hid (fun h => hg (hs.out.2 h))
      have hgb : (g != 1) = true := by simpa using hg
      clear hs
      go_wp2_with fail
      go_ret
      exact ⟨ret_ek h9.out, (by repeat (first | (with_reducible assumption) | (with_reducible exact Ext.rfl' _) | (with_reducible exact Ext.new _ _) | (with_reducible refine Ext.alloc' ?_ _) | (with_reducible refine Ext.drew' ?_) | (with_reducible refine Ext.drewN' ?_ _) | (with_reducible refine Ext.set' ?_ ?_ _; rotate_left; (focus (first | omega | (simp; done) | (simp; omega)))) | (with_reducible refine Ext.then (b := ?_) ?_ ?_; rotate_left; rotate_left; (with_reducible assumption))))⟩
/-- numbers of a ratio whose products fit -/
def Rat2.bd (r : Rat2) : Prop := -1099511627776 ≤ r.num ∧ r.num ≤ 1099511627776 ∧ 0 ≤ r.den ∧ r.den ≤ 1048576
theorem RatOk.bd {r : Rat2} (h : RatOk r) : r.bd := by have := ratOk_iff.1 h; unfold Rat2.bd; omega
theorem RatOk.I {r : Rat2} (h : RatOk r) : r.I := by have := ratOk_iff.1 h; unfold Rat2.I I64; omega
theorem mul_bd2 {x y : Int} (h1 : -1099511627776 ≤ x) (h2 : x ≤ 1099511627776) (h3 : 0 ≤ y) (h4 : y ≤ 1048576) : -1152921504606846976 ≤ x * y ∧ x * y ≤ 1152921504606846976 := by
  have e1 : x * y ≤ 1099511627776 * 1048576 := Int.le_trans (Int.mul_le_mul_of_nonneg_right h2 h3) (Int.mul_le_mul_of_nonneg_left h4 (by omega))
  have e2 : -1099511627776 * 1048576 ≤ x * y := by
    have : -1099511627776 * y ≤ x * y := Int.mul_le_mul_of_nonneg_right h1 h3
    omega
  omega
set_option maxRecDepth 100000 in
set_option maxHeartbeats 1000000 in
theorem rless_c (a b : Rat2) (w : World) (ha : a.bd) (hb : b.bd) : Calls Tryz.prog 140 #[raA a, raA b] w (RetV w (.bool (lessR a b))) := by
  have hs : Hid (lessR a b = decide (a.num * b.den < b.num * a.den)) := rfl
  generalize lessR a b = q at hs ⊢
  obtain ⟨n, d⟩ := a
  obtain ⟨n', d'⟩ := b
  obtain ⟨a1, a2, a3, a4⟩ := ha
  obtain ⟨b1, b2, b3, b4⟩ := hb
  dsimp only at *
  have m1 := mul_bd2 a1 a2 b3 b4
  have m2 := mul_bd2 b1 b2 a3 a4
  clear a1 a2 a3 a4 b1 b2 b3 b4
  unfold raA
  dsimp only
  have hx := (Ext.new w (.cells #[.int .i64 n, .int .i64 d] 100)).alloc' (.cells #[.int .i64 n', .int .i64 d'] 100)
  have w1 : IntKind.i64.wrap (n * d') = n * d' := wrap_id (by omega) (by omega)
  have w2 : IntKind.i64.wrap (n' * d) = n' * d := wrap_id (by omega) (by omega)
  have w3 : wrap64 (n * d') = n * d' := wrap64_id (by omega) (by omega)
  have w4 : wrap64 (n' * d) = n' * d := wrap64_id (by omega) (by omega)
  go_enter Tryz.func140, Tryz.ntmps140
  go_wp2_with fail
  go_ret
  exact ⟨ret_bool hs.out.symm, hx⟩
end Go.Proofs.YtcbmgajaaechjaaGreat
