/- wire.Reader: Uint, Int. -/
import Derived.Test.YtebhdjeognpljaaReader
namespace Go.Proofs.Ytebhdjeognpljaa
open Go.RowKit
set_option linter.unusedSimpArgs false
set_option linter.unusedVariables false
/-- the number that begins as byte i of one -/
def uAt : Nat → List UInt8 → Option (Nat × List UInt8)
  | _, [] => none
  | i, x :: l => if i = 9 ∧ 1 < x.toNat ∨ 0 < i ∧ x.toNat = 0 then none else if x.toNat < 128 then some (x.toNat, l) else (uAt (i + 1) l).map fun p => (x.toNat % 128 + 128 * p.1, p.2)
def uintS : RS → Nat × RS
  | some l => match uAt 0 l with
    | some (n, r) => (n, some r)
    | none => (0, none)
  | none => (0, none)
/-- what the reader's box holds -/
theorem Rd.err {H : PH} {w : World} {g : Nat} {s : RS} (h : Rd H w g s) : ∃ e : Int, w.cell? ⟨g, 1, none⟩ = some (.int .i64 e) ∧ (e == 0) = s.isSome := by
  obtain ⟨a, n, c, e, l', h1, h2, -, ⟨rfl, rfl⟩ | ⟨rfl, h3⟩⟩ := h
  · exact ⟨0, by simpa using h1.facts.1 1, rfl⟩
  · exact ⟨e, by simpa using h1.facts.1 1, by simpa using h3⟩
set_option maxRecDepth 100000 in
theorem andNot128 : ∀ x : Nat, x < 256 → bits .andNot .u8 (x : Int) 128 = ((x % 128 : Nat) : Int) := by decide
theorem or_step (m x k : Nat) (hk : k ≤ 9) (hm : m < 2 ^ (7 * k)) (hx : x < 256) (h9 : k = 9 → x % 128 ≤ 1) :
    bits .or .u64 (m : Int) (IntKind.u64.wrap (IntKind.u64.wrap (bits .andNot .u8 (x : Int) 128) * 2 ^ (7 * k))) = ((m + 2 ^ (7 * k) * (x % 128) : Nat) : Int) := by
  have hp : 2 ^ (7 * k) * (x % 128) < 18446744073709551616 ∧ m < 18446744073709551616 := by
    rcases Nat.lt_or_ge k 9 with h | h
    · have h1 : (2 : Nat) ^ (7 * k) ≤ 2 ^ 56 := Nat.pow_le_pow_right (by omega) (by omega)
      have h2 : 2 ^ (7 * k) * (x % 128) ≤ 2 ^ 56 * 127 := Nat.mul_le_mul h1 (by omega)
      omega
    · obtain rfl : k = 9 := by omega
      have := h9 rfl
      omega
  rw [andNot128 x hx, IntKind.wrap_u64, IntKind.wrap_u64]
  have e1 : ((x % 128 : Nat) : Int) % 18446744073709551616 = ((x % 128 : Nat) : Int) := by omega
  have e2 : ((x % 128 : Nat) : Int) * 2 ^ (7 * k) = ((2 ^ (7 * k) * (x % 128) : Nat) : Int) := by push_cast; rw [Int.mul_comm]
  rw [e1, e2]
  have e3 : ((2 ^ (7 * k) * (x % 128) : Nat) : Int) % 18446744073709551616 = ((2 ^ (7 * k) * (x % 128) : Nat) : Int) := by omega
  rw [e3, bits_or_u64_nat _ _ hp.2 hp.1, Nat.or_comm, ← Nat.two_pow_add_eq_or_of_lt hm, Nat.add_comm]
set_option maxRecDepth 100000 in
set_option maxHeartbeats 2000000 in
theorem ruint_c {H : PH} (g : Nat) (s : RS) (w : World) (h : Rd H w g s) :
    Calls Try.prog 82 #[.pointer (some ⟨g, 0, none⟩)] w (RdP H w g (.int .u64 (uintS s).1) (uintS s).2) := by
  go_enter Try.func82, Try.ntmps82
  go_wp2_with fail
  go_loopw [3, 4] (fun n i wr => ∃ (s' : RS) (k : Nat) (mi : Int), n = .int .u64 mi ∧ i = .int .i64 k ∧ k ≤ 10 ∧ Rd H wr g s' ∧ ExtW w wr g none ∧
      Hid ((s' = none ∧ (uintS s) = (0, none)) ∨ ∃ m l l', mi = (m : Nat) ∧ m < 2 ^ (7 * k) ∧ s = some l ∧ s' = some l' ∧ k ≤ 9 ∧ uAt 0 l = (uAt k l').map fun p => (m + 2 ^ (7 * k) * p.1, p.2))) (fun _ i _ => 20 - (intOf i).toNat)
  case atStart =>
    refine ⟨s, 0, 0, rfl, rfl, by omega, h, ExtW.rfl' _ _ _, Lib.hid ?_⟩
    cases s with
    | none => exact .inl ⟨rfl, rfl⟩
    | some l => exact .inr ⟨0, l, l, rfl, by simp, rfl, rfl, by omega, by simp⟩
  case round =>
    obtain ⟨s', k, mi, rfl, rfl, hk, hR, hX, hs⟩ := hrel
    obtain ⟨er, he, hes⟩ := hR.err
    cases s' with
    | none =>
      have hu : uintS s = (0, none) := by
        rcases hs.out with ⟨-, h⟩ | ⟨m, l, l', -, -, -, h, -⟩
        · exact h
        · cases h
      replace hu := Lib.hid hu
      have hes' : (er == 0) = false := by simpa using hes
      clear hes hs
      go_wp2_with fail
      go_ret
      rw [hu.out]
      exact ⟨rfl, hR, hX⟩
    | some l' =>
      obtain rfl : er = 0 := by simpa using hes
      obtain ⟨m, l, hmi, hm1, rfl, hk1, hu⟩ : ∃ (m : Nat) (l : List UInt8), mi = (m : Int) ∧ m < 2 ^ (7 * k) ∧ s = some l ∧ k ≤ 9 ∧ uAt 0 l = (uAt k l').map fun p => (m + 2 ^ (7 * k) * p.1, p.2) := by
        rcases hs.out with ⟨h, -⟩ | ⟨m, l, l2, h1, h2, h3, h, h4, h5⟩
        · cases h
        · cases h; exact ⟨m, l, h1, h2, h3, h4, h5⟩
      clear hes hs h
      replace hm1 := Lib.hid hm1
      replace hu := Lib.hid hu
      go_wp2_with fail
      refine (next_c g _ _ hR).mono ?_
      rintro e w1 ⟨rfl, hR1, hX1⟩
      have hX2 := hX.then hX1 (fun i h => by cases h)
      clear hX hX1 hR he
      cases l' with
      | nil =>
        have hU : uintS (some l) = (0, none) := by simp only [uintS, hu.out, uAt, Option.map_none]
        have hR2 : Rd H w1 g none := hR1
        rw [show nextS (some []) = (0, none) from rfl]
        clear hR1 hu
        obtain ⟨er, he, hes⟩ := hR2.err
        have hes' : (er == 0) = false := by simpa using hes
        clear hes
        replace hU := Lib.hid hU
        by_cases hk0 : 0 < k
        · go_wp2_with (refine (fail_c g _ 2 _ hR2 (by omega)).mono ?_; rintro e w2 ⟨⟨v, rfl⟩, hR3, hX3⟩; have hX4 := hX2.then hX3 (fun i h => by cases h); obtain ⟨er2, he2, hes2⟩ := hR3.err; have hes3 : (er2 == 0) = false := (by simpa using hes2); clear hes2)
          all_goals
            go_roundw
            case rel => exact ⟨none, k + 1, _, rfl, by go_num, by omega, hR3, hX4, Lib.hid (.inl ⟨rfl, hU.out⟩)⟩
            case measure => simp [intOf]; omega
        · obtain rfl : k = 0 := by omega
          go_wp2_with fail
          go_roundw
          case rel => exact ⟨none, 1, _, rfl, rfl, by omega, hR2, hX2, Lib.hid (.inl ⟨rfl, hU.out⟩)⟩
          case measure => simp [intOf]
      | cons x l' =>
        have hx := x.toNat_lt
        have hR2 : Rd H w1 g (some l') := hR1
        rw [show nextS (some (x :: l')) = (x.toNat, some l') from rfl]
        clear hR1
        by_cases hbad : k = 9 ∧ 1 < x.toNat ∨ 0 < k ∧ x.toNat = 0
        · have hU : uintS (some l) = (0, none) := by
            simp only [uintS, hu.out, uAt, if_pos hbad, Option.map_none]
          replace hU := Lib.hid hU
          clear hu
          rcases hbad with ⟨rfl, h1⟩ | ⟨h1, h2⟩
          · go_wp2_with (refine (fail_c g _ 2 _ hR2 (by omega)).mono ?_; rintro e w2 ⟨⟨v, rfl⟩, hR3, hX3⟩; have hX4 := hX2.then hX3 (fun i h => by cases h); obtain ⟨er2, he2, hes2⟩ := hR3.err; have hes3 : (er2 == 0) = false := (by simpa using hes2); clear hes2)
            all_goals
              go_roundw
              case rel => exact ⟨none, 10, _, rfl, by go_num, by omega, hR3, hX4, Lib.hid (.inl ⟨rfl, hU.out⟩)⟩
              case measure => simp [intOf]
          · rw [h2]
            go_wp2_with (refine (fail_c g _ 2 _ hR2 (by omega)).mono ?_; rintro e w2 ⟨⟨v, rfl⟩, hR3, hX3⟩; have hX4 := hX2.then hX3 (fun i h => by cases h); obtain ⟨er2, he2, hes2⟩ := hR3.err; have hes3 : (er2 == 0) = false := (by simpa using hes2); clear hes2)
            all_goals
              go_roundw
              case rel => exact ⟨none, k + 1, _, rfl, by go_num, by omega, hR3, hX4, Lib.hid (.inl ⟨rfl, hU.out⟩)⟩
              case measure => simp [intOf]; omega
        · obtain ⟨er, he, hes⟩ := hR2.err
          obtain rfl : er = 0 := by simpa using hes
          clear hes
          by_cases h128 : x.toNat < 128
          · have hU : uintS (some l) = (m + 2 ^ (7 * k) * x.toNat, some l') := by
              simp only [uintS, hu.out, uAt, if_neg hbad, if_pos h128, Option.map_some]
            replace hU := Lib.hid hU
            clear hu
            by_cases hk9 : k = 9
            · subst hk9
              have hx1 : x.toNat = 1 := by omega
              have hv := Lib.hid (or_step m 1 9 (by omega) hm1.out (by omega) (fun _ => by omega))
              rw [hx1] at hU ⊢
              clear h128 hbad hx hx1
              go_wp2_with fail
              go_ret
              rw [hU.out]
              refine ⟨ret_int (k := .u64) ?_, hR2, hX2⟩
              simpa using hv.out
            · have hk9' : ((k : Int) == 9) = false := beq_eq_false_iff_ne.2 (by omega)
              have hv := Lib.hid (or_step m x.toNat k (by omega) hm1.out (by omega) (fun h => absurd h hk9))
              go_wp2_with fail
              all_goals
                go_ret
                rw [hU.out]
                refine ⟨ret_int (k := .u64) ?_, hR2, hX2⟩
                rw [Nat.mod_eq_of_lt h128] at hv
                exact hv.out
          · have hU : Hid (uAt 0 l = (uAt (k + 1) l').map fun p => (m + 2 ^ (7 * k) * (x.toNat % 128) + 2 ^ (7 * (k + 1)) * p.1, p.2)) := by
              show _ = _
              simp only [hu.out, uAt, if_neg hbad, if_neg h128, Option.map_map]
              congr 1
              funext p
              simp only [Function.comp, Prod.mk.injEq, and_true]
              rw [Nat.mul_add, show 7 * (k + 1) = 7 * k + 7 by omega, Nat.pow_add, show (2 : Nat) ^ 7 = 128 from rfl, Nat.mul_assoc]; omega
            clear hu
            have hk9 : k ≠ 9 := fun h => hbad (.inl ⟨h, by omega⟩)
            have hk9' : ((k : Int) == 9) = false := beq_eq_false_iff_ne.2 (by omega)
            have hv := Lib.hid (or_step m x.toNat k (by omega) hm1.out (by omega) (fun h => absurd h hk9))
            have hmm : Hid (m + 2 ^ (7 * k) * (x.toNat % 128) < 2 ^ (7 * (k + 1))) := by
              show _ < _
              rw [show 7 * (k + 1) = 7 * k + 7 by omega, Nat.pow_add]
              have := hm1.out
              have h2 : 2 ^ (7 * k) * (x.toNat % 128) ≤ 2 ^ (7 * k) * 127 := Nat.mul_le_mul_left _ (by omega)
              omega
            go_wp2_with fail
            all_goals
              go_roundw
              case rel => exact ⟨some l', k + 1, _, rfl, by go_num, by omega, hR2, hX2, Lib.hid (.inr ⟨_, _, _, hv.out, hmm.out, rfl, rfl, by omega, hU.out⟩)⟩
              case measure => simp [intOf]; omega
end Go.Proofs.Ytebhdjeognpljaa
