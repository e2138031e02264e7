/- wire.Reader: what Uint reads; Int. -/
import Derived.Test.YtebhdjeognpljaaReader2
namespace Go.Proofs.Ytebhdjeognpljaa
open Go.RowKit
set_option linter.unusedSimpArgs false
set_option linter.unusedVariables false
theorem pow_step {i : Nat} (h : i < 9) : 2 ^ (64 - 7 * i) = 128 * 2 ^ (64 - 7 * (i + 1)) := by
  rw [show 64 - 7 * i = 7 + (64 - 7 * (i + 1)) by omega, Nat.pow_add]
theorem u8_ofNat (x : UInt8) {n : Nat} (h : n = x.toNat) : n.toUInt8 = x := by
  subst h; exact UInt8.toNat.inj (by simp)
theorem uAt_sound : ∀ (l : List UInt8) (i n : Nat) (r : List UInt8), i ≤ 9 → uAt i l = some (n, r) → l = uvar n ++ r ∧ n < 2 ^ (64 - 7 * i) ∧ (0 < i → 0 < n)
  | [], i, n, r, _, h => by simp [uAt] at h
  | x :: l, i, n, r, hi, h => by
    have hx := x.toNat_lt
    rw [uAt] at h
    split at h
    · cases h
    rename_i hbad
    split at h
    · rename_i h128
      cases h
      refine ⟨?_, ?_, fun h0 => ?_⟩
      · rw [uvar_small h128, u8_ofNat x rfl]; rfl
      · rcases Nat.lt_or_ge i 9 with h9 | h9
        · rw [pow_step h9]
          have : 0 < 2 ^ (64 - 7 * (i + 1)) := Nat.pos_of_ne_zero (by simp)
          omega
        · obtain rfl : i = 9 := by omega
          omega
      · omega
    · rename_i h128
      cases hu : uAt (i + 1) l with
      | none => rw [hu] at h; cases h
      | some p =>
        obtain ⟨m, r'⟩ := p
        rw [hu] at h
        simp only [Option.map_some, Option.some.injEq, Prod.mk.injEq] at h
        obtain ⟨rfl, rfl⟩ := h
        have h9 : i < 9 := by
          rcases Nat.lt_or_ge i 9 with h9 | h9
          · exact h9
          · omega
        obtain ⟨h1, h2, h3⟩ := uAt_sound l (i + 1) m r' (by omega) hu
        have h3 := h3 (by omega)
        refine ⟨?_, ?_, fun _ => by omega⟩
        · rw [uvar_big (by omega), show (x.toNat % 128 + 128 * m) / 128 = m by omega, List.cons_append, ← h1]
          rw [u8_ofNat x (by omega)]
        · rw [pow_step h9]; omega
theorem uAt_complete (n : Nat) : ∀ (i : Nat) (r : List UInt8), i ≤ 9 → n < 2 ^ (64 - 7 * i) → (0 < i → 0 < n) → uAt i (uvar n ++ r) = some (n, r) := by
  induction n using Nat.strongRecOn with
  | ind n ih =>
    intro i r hi hn h0
    by_cases h : n < 128
    · rw [uvar_small h, List.singleton_append, uAt]
      have e : n.toUInt8.toNat = n := by simp [Nat.toUInt8]; omega
      rw [e, if_neg, if_pos h]
      rintro (⟨rfl, h1⟩ | ⟨h1, h2⟩)
      · omega
      · have := h0 h1; omega
    · have h9 : i < 9 := by
        rcases Nat.lt_or_ge i 9 with h9 | h9
        · exact h9
        · obtain rfl : i = 9 := by omega
          omega
      rw [pow_step h9] at hn
      rw [uvar_big h, List.cons_append, uAt]
      have e : (n % 128 + 128).toUInt8.toNat = n % 128 + 128 := by simp [Nat.toUInt8]; omega
      rw [e, if_neg (by omega), if_neg (by omega), ih (n / 128) (by omega) (i + 1) r (by omega) (by omega) (by omega)]
      simp only [Option.map_some, Option.some.injEq, Prod.mk.injEq, and_true]
      omega
theorem uintS_some {l : List UInt8} {n : Nat} {r : List UInt8} : uintS (some l) = (n, some r) ↔ l = uvar n ++ r ∧ n < 18446744073709551616 := by
  constructor
  · intro h
    simp only [uintS] at h
    split at h
    · rename_i hu
      cases h
      have := uAt_sound _ _ _ _ (by omega) hu
      exact ⟨this.1, this.2.1⟩
    · cases h
  · rintro ⟨rfl, h⟩
    simp only [uintS]
    rw [uAt_complete n 0 r (by omega) (by simpa using h) (by omega)]
theorem uintS_lt (s : RS) : (uintS s).1 < 18446744073709551616 := by
  cases hs : uintS s with
  | mk n t =>
    cases t with
    | some r =>
      cases s with
      | none => cases hs
      | some l => exact (uintS_some.1 hs).2
    | none =>
      have : n = 0 := by
        cases s with
        | none => cases hs; rfl
        | some l =>
          simp only [uintS] at hs
          split at hs
          · cases hs
          · cases hs; rfl
      subst this; simp
/-- what unzigzag returns -/
abbrev unzig := Lib.unzigzag
theorem unzig_zig {n : Int} : unzig (zig n) = n := by
  unfold unzig zig Lib.unzigzag Lib.zigzag
  split <;> split <;> omega
theorem zig_unzig (z : Nat) : zig (unzig z) = z := by
  unfold unzig zig Lib.unzigzag Lib.zigzag
  split <;> split <;> omega
theorem unzig_i64 {z : Nat} (h : z < 18446744073709551616) : I64 (unzig z) := by
  unfold unzig Lib.unzigzag I64
  split <;> omega
theorem xor64_comm (a b : Int) : bits .xor .i64 a b = bits .xor .i64 b a := by
  show IntKind.i64.wrap ((BitVec.ofInt 64 a ^^^ BitVec.ofInt 64 b).toNat : Int) = IntKind.i64.wrap ((BitVec.ofInt 64 b ^^^ BitVec.ofInt 64 a).toNat : Int)
  rw [BitVec.xor_comm]
theorem xor64_zero (a : Nat) (h : a < 9223372036854775808) : bits .xor .i64 (a : Int) 0 = a := by
  show IntKind.i64.wrap ((BitVec.ofInt 64 (a : Int) ^^^ BitVec.ofInt 64 0).toNat : Int) = _
  rw [show BitVec.ofInt 64 0 = 0#64 from rfl, BitVec.xor_zero, BitVec.ofInt_natCast, BitVec.toNat_ofNat, Nat.mod_eq_of_lt (by omega)]
  unfold IntKind.wrap; simp [IntKind.bits, IntKind.signed]; omega
theorem unzig_c (z : Nat) (w : World) (h : z < 18446744073709551616) : Calls Try.prog 92 #[.int .u64 z] w (RetV w (.int .i64 (unzig z))) := by
  have ha := Lib.u64_and1 (z : Int) (by omega) (by omega)
  rcases Nat.mod_two_eq_zero_or_one z with h2 | h2
  · have hv : Hid (unzig z = ((z / 2 : Nat) : Int)) := by show _ = _; unfold unzig Lib.unzigzag; rw [if_pos h2]
    go_enter Try.func92, Try.ntmps92
    go_wp2_with fail
    go_ret
    refine ⟨ret_int (k := .i64) ?_, (by repeat (first | (with_reducible assumption) | (with_reducible exact Ext.rfl' _) | (with_reducible exact Ext.new _ _) | (with_reducible refine Ext.alloc' ?_ _) | (with_reducible refine Ext.drew' ?_) | (with_reducible refine Ext.drewN' ?_ _) | (with_reducible refine Ext.set' ?_ ?_ _; rotate_left; (focus (first | omega | (simp; done) | (simp; omega)))) | (with_reducible refine Ext.then (b := ?_) ?_ ?_; rotate_left; rotate_left; (with_reducible assumption))))⟩
    rw [hv.out, show -((z : Int) % 2) = 0 by omega, show (z : Int) / 2 = ((z / 2 : Nat) : Int) by omega]
    exact xor64_zero _ (by omega)
  · have hv : Hid (unzig z = -((z / 2 : Nat) : Int) - 1) := by show _ = _; unfold unzig Lib.unzigzag; rw [if_neg (by omega)]
    go_enter Try.func92, Try.ntmps92
    go_wp2_with fail
    go_ret
    refine ⟨ret_int (k := .i64) ?_, (by repeat (first | (with_reducible assumption) | (with_reducible exact Ext.rfl' _) | (with_reducible exact Ext.new _ _) | (with_reducible refine Ext.alloc' ?_ _) | (with_reducible refine Ext.drew' ?_) | (with_reducible refine Ext.drewN' ?_ _) | (with_reducible refine Ext.set' ?_ ?_ _; rotate_left; (focus (first | omega | (simp; done) | (simp; omega)))) | (with_reducible refine Ext.then (b := ?_) ?_ ?_; rotate_left; rotate_left; (with_reducible assumption))))⟩
    rw [hv.out, show -((z : Int) % 2) = -1 by omega, show (z : Int) / 2 = ((z / 2 : Nat) : Int) by omega, xor64_comm]
    exact Lib.i64_not _ (by omega)
/-- what Int reads -/
def intS (s : RS) : Int × RS := (unzig (uintS s).1, (uintS s).2)
theorem intS_i64 (s : RS) : I64 (intS s).1 := unzig_i64 (uintS_lt s)
theorem rint_c {H : PH} (g : Nat) (s : RS) (w : World) (h : Rd H w g s) : Calls Try.prog 85 #[.pointer (some ⟨g, 0, none⟩)] w (RdP H w g (.int .i64 (intS s).1) (intS s).2) := by
  have hlt := uintS_lt s
  have hS : Hid (intS s = (unzig (uintS s).1, (uintS s).2)) := rfl
  go_enter Try.func85, Try.ntmps85
  go_wp2_with fail
  refine (ruint_c g s _ h).mono ?_
  rintro e w1 ⟨rfl, hR1, hX1⟩
  generalize (uintS s).1 = z at *
  generalize (uintS s).2 = t at *
  go_wp2_with fail
  refine (unzig_c z _ hlt).mono ?_
  rintro e w2 ⟨rfl, hb2⟩
  generalize unzig z = y at *
  go_wp2_with fail
  go_ret
  rw [hS.out]
  exact ⟨rfl, hR1.keep hb2, hX1.then (hb2.toW g none) (fun i h => by cases h)⟩
theorem intS_some {l : List UInt8} {n : Int} {r : List UInt8} : intS (some l) = (n, some r) ↔ l = encI n ++ r ∧ I64 n := by
  unfold intS encI
  constructor
  · intro h
    simp only [Prod.mk.injEq] at h
    have hz : uintS (some l) = ((uintS (some l)).1, some r) := Prod.ext rfl h.2
    have h1 := uintS_some.1 hz
    rw [← h.1, zig_unzig]
    exact ⟨h1.1, unzig_i64 h1.2⟩
  · rintro ⟨rfl, h⟩
    have hz := zig_le h
    have h1 : uintS (some (uvar (zig n) ++ r)) = (zig n, some r) := uintS_some.2 ⟨rfl, by omega⟩
    rw [h1]
    simp only [unzig_zig]
end Go.Proofs.Ytebhdjeognpljaa
