/- ThingHash: the plain law. -/
import Derived.Test.YtebhdjeognpljaaHash3
import Derived.Test.YtebhdjeognpljaaLives
namespace Go.Proofs.Ytebhdjeognpljaa
open Go.RowKit
set_option linter.unusedSimpArgs false
set_option linter.unusedVariables false
def fold32 (y : Nat) : Nat := y ^^^ y / 4294967296
theorem fold32_twice (y : Nat) (hy : y < 18446744073709551616) : fold32 (fold32 y) = y := by
  have h0 : y / 4294967296 / 4294967296 = 0 := by omega
  have e : ∀ z : Nat, z / 4294967296 = z >>> 32 := fun z => by rw [Nat.shiftRight_eq_div_pow]
  unfold fold32
  rw [e (y ^^^ y / 4294967296), Nat.shiftRight_xor_distrib, ← e, ← e, h0, Nat.xor_zero, Nat.xor_assoc, Nat.xor_self, Nat.xor_zero]
def mixN (s m : Nat) : Nat := fold32 ((s ^^^ m) * 11400714819323198485 % 18446744073709551616)
theorem mixN_lt (s m : Nat) : mixN s m < 18446744073709551616 := by
  have h : (s ^^^ m) * 11400714819323198485 % 18446744073709551616 < 18446744073709551616 := Nat.mod_lt _ (by omega)
  unfold mixN fold32
  generalize (s ^^^ m) * 11400714819323198485 % 18446744073709551616 = y at *
  exact Nat.xor_lt_two_pow (n := 64) (by omega) (by omega)
theorem xor_cancel_left {a b c : Nat} (h : a ^^^ b = a ^^^ c) : b = c := by
  have := congrArg (fun z => a ^^^ z) h
  simpa [← Nat.xor_assoc] using this
theorem mixN_inj {s m s' m' : Nat} (h1 : s < 18446744073709551616) (h2 : m < 18446744073709551616) (h1' : s' < 18446744073709551616) (h2' : m' < 18446744073709551616) (h : mixN s m = mixN s' m') : s ^^^ m = s' ^^^ m' := by
  have hx : s ^^^ m < 18446744073709551616 := Nat.xor_lt_two_pow (n := 64) h1 h2
  have hx' : s' ^^^ m' < 18446744073709551616 := Nat.xor_lt_two_pow (n := 64) h1' h2'
  unfold mixN at h
  generalize s ^^^ m = x at *
  generalize s' ^^^ m' = y at *
  have h3 := congrArg fold32 h
  rw [fold32_twice _ (Nat.mod_lt _ (by omega)), fold32_twice _ (Nat.mod_lt _ (by omega))] at h3
  have hi : ∀ z : Nat, z < 18446744073709551616 → z * 11400714819323198485 % 18446744073709551616 * 17428512612931826493 % 18446744073709551616 = z := by
    intro z hz
    rw [Nat.mod_mul_mod, Nat.mul_assoc, show 11400714819323198485 * 17428512612931826493 = 18446744073709551616 * 10771413168148108919 + 1 by decide, Nat.mul_add, Nat.mul_one, Nat.mul_left_comm, Nat.mul_add_mod]
    exact Nat.mod_eq_of_lt hz
  rw [← hi x hx, ← hi y hx', h3]
theorem mixI_nat (s m : Nat) (h1 : s < 18446744073709551616) (h2 : m < 18446744073709551616) : mixI s m = (mixN s m : Int) := by
  unfold mixI mixN fold32
  rw [bits_xor_u64_nat _ _ h1 h2, IntKind.wrap_u64]
  have e : ((s ^^^ m : Nat) : Int) * 11400714819323198485 % 18446744073709551616 = (((s ^^^ m) * 11400714819323198485 % 18446744073709551616 : Nat) : Int) := by rw [Int.natCast_emod, Int.natCast_mul]; rfl
  rw [e]
  have hy : (s ^^^ m) * 11400714819323198485 % 18446744073709551616 < 18446744073709551616 := Nat.mod_lt _ (by omega)
  generalize (s ^^^ m) * 11400714819323198485 % 18446744073709551616 = y at *
  exact xorShift_u64 y 4294967296 hy
/-- a state: a number below 2^64 -/
def W64 (s : Int) : Prop := ∃ n : Nat, s = n ∧ n < 18446744073709551616
theorem W64.mix {s m : Int} (h : W64 s) (k : W64 m) : W64 (mixI s m) := by
  obtain ⟨n, rfl, h⟩ := h
  obtain ⟨p, rfl, k⟩ := k
  exact ⟨_, mixI_nat n p h k, mixN_lt n p⟩
theorem mixI_left {s s' m : Int} (h : W64 s) (h' : W64 s') (k : W64 m) (e : mixI s m = mixI s' m) : s = s' := by
  obtain ⟨n, rfl, h⟩ := h
  obtain ⟨n', rfl, h'⟩ := h'
  obtain ⟨p, rfl, k⟩ := k
  rw [mixI_nat n p h k, mixI_nat n' p h' k] at e
  have := mixN_inj h k h' k (by exact_mod_cast e)
  rw [Nat.xor_comm n, Nat.xor_comm n'] at this
  rw [xor_cancel_left this]
theorem mixI_right {s m m' : Int} (h : W64 s) (k : W64 m) (k' : W64 m') (e : mixI s m = mixI s m') : m = m' := by
  obtain ⟨n, rfl, h⟩ := h
  obtain ⟨p, rfl, k⟩ := k
  obtain ⟨p', rfl, k'⟩ := k'
  rw [mixI_nat n p h k, mixI_nat n p' h k'] at e
  rw [xor_cancel_left (mixN_inj h k h k' (by exact_mod_cast e))]
theorem W64.wrap (x : Int) : W64 (IntKind.u64.wrap x) := by
  rw [IntKind.wrap_u64]
  exact ⟨(x % 18446744073709551616).toNat, by omega, by omega⟩
theorem W64.fold {s : Int} (h : W64 s) : ∀ l : List Int, (∀ x ∈ l, W64 x) → W64 (foldM s l) := by
  intro l
  induction l generalizing s with
  | nil => intro _; exact h
  | cons x l ih => intro hx; exact ih (h.mix (hx x (by simp))) fun y hy => hx y (by simp [hy])
theorem W64.zero : W64 0 := ⟨0, rfl, by omega⟩
theorem wordTo_W64 (zs : List UInt8) (i : Nat) : ∀ j, W64 (wordTo zs i j)
  | 0 => W64.zero
  | j + 1 => by
    obtain ⟨a, ha, h1⟩ := wordTo_W64 zs i j
    obtain ⟨b, hb, h2⟩ := W64.wrap (IntKind.u64.wrap ((zs[i + j]?.getD 0).toNat : Int) * 2 ^ (8 * j))
    rw [wordTo, ha, hb, bits_or_u64_nat a b h1 h2]
    exact ⟨_, rfl, Nat.or_lt_two_pow (n := 64) (by omega) (by omega)⟩
/-- a thing with one class -/
def ofCls (a : Int) : Thing := .mk [a] [] []
def b4 (a : Nat) : List UInt8 := [1, UInt8.ofNat (2 * a), 0, 0]
theorem ofCls_enc (a : Nat) (h : a < 64) : enc (ofCls a) = b4 a := by
  have hz : zig (a : Int) = 2 * a := by show Lib.zigzag (a : Int) = 2 * a; unfold Lib.zigzag; simp; omega
  have hz0 : zig 0 = 0 := by decide
  have e1 : encI (a : Int) = [UInt8.ofNat (2 * a)] := by unfold encI; rw [hz]; exact Lib.uvarint_small (by omega)
  have e0 : encI 0 = [0] := by unfold encI; rw [hz0]; exact Lib.uvarint_small (by omega)
  show encInts [(a : Int)] ++ encI 0 ++ encVs [] ++ encI 0 ++ encTs [] = _
  rw [e0, encInts]
  simp only [encL, List.flatMap_cons, List.flatMap_nil, e1, encVs, encTs, List.length_cons, List.length_nil]
  rw [show uvar (0 + 1) = [1] from Lib.uvarint_small (by omega)]
  rfl
theorem ofCls_valid (a : Int) (h : 0 ≤ a) (h' : a < 64) : validV (ofCls a) = 0 := by
  have h1 : Thing.size (ofCls a) = 1 := rfl
  have h2 : Thing.deep (ofCls a) = 1 := rfl
  rw [validV, h1, h2, if_pos (by omega)]
  refine ErrIf_t ?_
  rw [Thing.formed_iff]
  simp only [ofCls, Thing.vals, Thing.cls, Thing.parts]
  refine ⟨(fun x hx => by cases hx), (fun k hk => ?_), (fun k hk => by simp at hk), (fun p hp => by cases hp)⟩
  simp at hk; subst hk; simp [h, h']
theorem b4_word : ∀ a : Nat, a < 64 → wordsOf (b4 a) = [((1 + 512 * a : Nat) : Int)] := by decide
theorem bytesI_inj (s : ByteArray) (a b : Nat) (ha : a < 64) (hb : b < 64) : bytesI s (b4 a) = bytesI s (b4 b) ↔ a = b := by
  refine ⟨fun h => ?_, fun h => by rw [h]⟩
  have hw : ∀ c : Nat, c < 64 → IntKind.u64.wrap (w64 ((1 + 512 * c : Nat) : Int)) = ((1 + 512 * c : Nat) : Int) := by decide
  unfold bytesI sumI at h
  rw [b4_word a ha, b4_word b hb] at h
  simp only [List.map_cons, List.map_nil, List.cons_append, List.nil_append, hw a ha, hw b hb, foldM, List.foldl_cons, List.foldl_nil, b4, List.length_cons, List.length_nil] at h
  have hm : ∀ q : Int, W64 (mixI (mixI (foldM 0 (wordsOf s.data.toList)) (IntKind.u64.wrap (s.data.toList.length : Int))) (IntKind.u64.wrap q)) := by
    intro q
    refine W64.mix (W64.mix (W64.fold W64.zero _ fun x hx => ?_) (W64.wrap _)) (W64.wrap _)
    obtain ⟨k, -, rfl⟩ := List.mem_map.1 hx
    exact wordTo_W64 _ _ _
  unfold foldM at hm
  have sa : ∀ c : Nat, c < 64 → W64 ((1 + 512 * c : Nat) : Int) := fun c hc => ⟨_, rfl, by omega⟩
  have h1 := mixI_left (((hm _).mix (sa a ha)).mix (W64.wrap _)) (((hm _).mix (sa b hb)).mix (W64.wrap _)) W64.zero h
  have h2 := mixI_left ((hm _).mix (sa a ha)) ((hm _).mix (sa b hb)) (W64.wrap _) h1
  have h3 := mixI_right (hm _) (sa a ha) (sa b hb) h2
  omega
end Go.Proofs.Ytebhdjeognpljaa
