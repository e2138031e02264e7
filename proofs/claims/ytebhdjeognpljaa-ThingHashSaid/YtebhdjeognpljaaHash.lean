/- package hash: mix, words. -/
import Derived.RangeFuncNested
import Derived.RangeFuncBound
import Derived.RangeFuncCalls
import Derived.RangeFuncLeaves
import Derived.Shelf.Abstract
import Derived.Shelf.RegionOpen
import Derived.OwnWalkIn
import Derived.TacticsInMore
import Derived.LoopNIn
import Derived.LoopIn
import Derived.RangeFuncFrom
import Derived.Laws.Bits64
import Derived.Laws.Bits64b
import Derived.Test.YtebhdjeognpljaaOwnS
namespace Go.Proofs.Ytebhdjeognpljaa
open Go.RowKit
set_option linter.unusedSimpArgs false
set_option linter.unusedVariables false
attribute [local go_sem] Oper.semAt_some
def mixI (s m : Int) : Int := bits .xor .u64 (IntKind.u64.wrap (bits .xor .u64 s m * 11400714819323198485)) (IntKind.u64.wrap (bits .xor .u64 s m * 11400714819323198485) / 4294967296)
theorem mix_c (s m : Int) (w : World) : Calls Try.prog 76 #[.int .u64 s, .int .u64 m] w (RetV w (.int .u64 (mixI s m))) := by
  go_enter Try.func76, Try.ntmps76
  go_wp2_with fail
  go_ret
  exact ⟨rfl, (by repeat (first | (with_reducible assumption) | (with_reducible exact Ext.rfl' _) | (with_reducible exact Ext.new _ _) | (with_reducible refine Ext.alloc' ?_ _) | (with_reducible refine Ext.drew' ?_) | (with_reducible refine Ext.drewN' ?_ _) | (with_reducible refine Ext.set' ?_ ?_ _; rotate_left; (focus (first | omega | (simp; done) | (simp; omega)))) | (with_reducible refine Ext.then (b := ?_) ?_ ?_; rotate_left; rotate_left; (with_reducible assumption))))⟩
/-- j bytes from i on, as a word; the words of a list -/
def wordTo (zs : List UInt8) (i : Nat) : Nat → Int
  | 0 => 0
  | j + 1 => bits .or .u64 (wordTo zs i j) (IntKind.u64.wrap (IntKind.u64.wrap ((zs[i + j]?.getD 0).toNat : Int) * 2 ^ (8 * j)))
def wordsTo (zs : List UInt8) (k : Nat) : List Int := (List.range k).map fun q => wordTo zs (q * 8) (min 8 (zs.length - q * 8))
def wordsOf (zs : List UInt8) : List Int := wordsTo zs ((zs.length + 7) / 8)
theorem wordsTo_succ (zs : List UInt8) (k : Nat) : wordsTo zs (k + 1) = wordsTo zs k ++ [wordTo zs (k * 8) (min 8 (zs.length - k * 8))] := by simp [wordsTo, List.range_succ]
theorem wordsTo_len (zs : List UInt8) (k : Nat) : (wordsTo zs k).length = k := by simp [wordsTo]
/-- what a round keeps: all below n₀, and the iterator's own box -/
def KB (n₀ Bs : Nat) (W W' : World) : Prop := Below n₀ W W' ∧ W'.cell? ⟨Bs, 0, none⟩ = W.cell? ⟨Bs, 0, none⟩
theorem KB.rfl' (n₀ Bs : Nat) (W : World) : KB n₀ Bs W W := ⟨Below.refl _ _, rfl⟩
theorem KB.then {n₀ Bs : Nat} {A B C : World} (h : KB n₀ Bs A B) (k : KB n₀ Bs B C) : KB n₀ Bs A C := ⟨h.1.trans k.1, k.2.trans h.2⟩
def wordsPost (zs : List UInt8) (J Jx : List Int → World → Prop) (e : Ending) (W' : World) : Prop := (∃ v, e = .returned v) ∧ ((∃ ys, ys = wordsOf zs ∧ J ys W') ∨ (∃ pre, Jx pre W'))
set_option maxRecDepth 100000 in
set_option maxHeartbeats 1000000 in
theorem wordsB_in (n l Bs n₀ : Nat) (sv : Value) (zs : List UInt8) (hn : 1 ≤ n) (hreach : zs.length ≤ 1000000) (J Jx : List Int → World → Prop)
    (hY : ∀ pre x W, J pre W → pre.length < zs.length → YieldAt Fence.wide (n - 1) Try.prog l #[.int .u64 x] W fun e W' =>
      (e = .returned (.bool true) ∧ J (pre ++ [x]) W' ∧ KB n₀ Bs W W') ∨ (e = .returned (.bool false) ∧ Jx (pre ++ [x]) W'))
    (W : World) (hZ : ∀ wr, KB n₀ Bs W wr → wr.cell? ⟨Bs, 0, none⟩ = some (sv) ∧ BytesR (ph wr) sv zs) (h0 : J [] W) :
    CallsIn Fence.wide n Try.prog 74 #[.func (.yield l) #[] #[], .pointer (some ⟨Bs, 0, none⟩)] W (wordsPost zs J Jx) := by
  refine callsIn_of_wp Try.func74 rfl trivial ?_ rfl
  simp only [Try.ntmps74, List.size_toArray, List.length_cons, List.length_nil, Nat.reduceAdd, Nat.reduceSub, Array.replicate_succ, Array.replicate_zero, List.push_toArray, List.append_toArray, List.nil_append, List.cons_append]
  replace hZ := Lib.hid hZ
  replace hY := Lib.hid hY
  gi_wp2
  gi_loopw [3] (fun i wr => ∃ k : Nat, k ≤ (zs.length + 7) / 8 ∧ i = .int .i64 ((k : Int) * 8) ∧ J (wordsTo zs k) wr ∧ KB n₀ Bs W wr) (fun i _ => zs.length + 8 - (intOf i).toNat)
  case atStart => exact ⟨0, by omega, val_int (by simp), h0, KB.rfl' _ _ _⟩
  case round =>
    obtain ⟨k, hk, rfl, hJ, hnx⟩ := hrel
    obtain ⟨hBs', hR⟩ := hZ.out wr hnx
    obtain ⟨ra, rc, rfl, -, hR⟩ := hR.form
    have hL : Hid (zs.length = zs.length) := rfl
    by_cases hlt : k * 8 < zs.length
    · have hd0 : decide ((k : Int) * 8 < (zs.length : Int)) = true := by simp; omega
      have hd1 : decide (((k * 8 : Nat) : Int) < (zs.length : Int)) = true := by simp; omega
      gi_wp2
      gi_loopw [4, 5] (fun x j wr' => ∃ m : Nat, j = .int .i64 ((k : Int) * 8 + m) ∧ x = .int .u64 (wordTo zs (k * 8) m) ∧ m ≤ 8 ∧ k * 8 + m ≤ zs.length ∧ wr' = wr) (fun _ j _ => k * 8 + 8 - (intOf j).toNat)
      case atStart => exact ⟨0, val_int (by simp), rfl, by omega, by omega, rfl⟩
      case round =>
        obtain ⟨m, rfl, rfl, hm1, hm3, rfl⟩ := hrel
        by_cases hml : m < 8 ∧ k * 8 + m < zs.length
        · obtain ⟨g1, g2'⟩ := hml
          have g2 : k * 8 + m < zs.length := by have := hL.out; omega
          have hw : Hid (wordTo zs (k * 8) (m + 1) = bits .or .u64 (wordTo zs (k * 8) m) (IntKind.u64.wrap (IntKind.u64.wrap ((zs[k * 8 + m]).toNat : Int) * 2 ^ (8 * m)))) := by
            show _ = _
            rw [wordTo, List.getElem?_eq_getElem g2]; first | rfl | (subst hR; simp; rfl)
          obtain ⟨b, o, rfl, hcx, -⟩ := BytesR.at hR (k * 8 + m) g2; clear hR
          have he : 8 * (k * 8 + m - k * 8) = 8 * m := by omega
          generalize wordTo zs (k * 8) m = x at *
          gi_wp2
          all_goals
            go_roundw
            case rel => exact ⟨m + 1, val_int (by omega), val_int (by first | exact hw.out.symm | (rw [hw.out, he])), by omega, by omega, by first | trivial | rfl⟩
            case measure => simp [intOf] <;> omega
        · have hm : m = min 8 (zs.length - k * 8) := by have := hL.out; omega
          have hs := Lib.hid (wordsTo_succ zs k)
          rw [← hm] at hs
          have hlen := wordsTo_len zs k
          generalize wordTo zs (k * 8) m = x at *
          obtain ⟨fn, tmps, assign, body, hy, hYR⟩ := hY.out _ x wr hJ (by have := hL.out; omega)
          have hc1 : ¬ (k * 8 + m < k * 8 + 8 ∧ k * 8 + m < zs.length) := by omega
          by_cases h8 : zs.length < k * 8 + 8
          all_goals
            gi_wp2
            refine hYR.mono ?_
            rintro e W3 (⟨rfl, hJ3, hk3⟩ | ⟨rfl, hJx3⟩)
            · have hn3 := hnx.then hk3
              gi_wp2
              go_roundw
              case rel => exact ⟨k + 1, by have := hL.out; omega, val_int (by omega), by rw [hs.out]; exact hJ3, hn3⟩
              case measure => have := hL.out; simp [intOf] <;> omega
            · gi_wp2
              refine bodyPost_ret (results_none rfl _ _ _) rfl ?_
              exact ⟨⟨_, rfl⟩, .inr ⟨_, hJx3⟩⟩
    · have hkk : k = (zs.length + 7) / 8 := by have := hL.out; omega
      have hfin : Hid (wordsTo zs k = wordsOf zs) := by show _ = _; rw [wordsOf, ← hkk]
      gi_wp2
      go_end0
      exact ⟨⟨_, rfl⟩, .inl ⟨_, hfin.out, hJ⟩⟩
set_option maxRecDepth 100000 in
set_option maxHeartbeats 1000000 in
theorem wordsS_in (n l Bs n₀ : Nat) (sv : ByteArray) (zs : List UInt8) (hn : 1 ≤ n) (hreach : zs.length ≤ 1000000) (J Jx : List Int → World → Prop)
    (hY : ∀ pre x W, J pre W → pre.length < zs.length → YieldAt Fence.wide (n - 1) Try.prog l #[.int .u64 x] W fun e W' =>
      (e = .returned (.bool true) ∧ J (pre ++ [x]) W' ∧ KB n₀ Bs W W') ∨ (e = .returned (.bool false) ∧ Jx (pre ++ [x]) W'))
    (W : World) (hZ : ∀ wr, KB n₀ Bs W wr → wr.cell? ⟨Bs, 0, none⟩ = some (.string sv) ∧ zs = sv.data.toList) (h0 : J [] W) :
    CallsIn Fence.wide n Try.prog 90 #[.func (.yield l) #[] #[], .pointer (some ⟨Bs, 0, none⟩)] W (wordsPost zs J Jx) := by
  refine callsIn_of_wp Try.func90 rfl trivial ?_ rfl
  simp only [Try.ntmps90, List.size_toArray, List.length_cons, List.length_nil, Nat.reduceAdd, Nat.reduceSub, Array.replicate_succ, Array.replicate_zero, List.push_toArray, List.append_toArray, List.nil_append, List.cons_append]
  replace hZ := Lib.hid hZ
  replace hY := Lib.hid hY
  gi_wp2
  gi_loopw [3] (fun i wr => ∃ k : Nat, k ≤ (zs.length + 7) / 8 ∧ i = .int .i64 ((k : Int) * 8) ∧ J (wordsTo zs k) wr ∧ KB n₀ Bs W wr) (fun i _ => zs.length + 8 - (intOf i).toNat)
  case atStart => exact ⟨0, by omega, val_int (by simp), h0, KB.rfl' _ _ _⟩
  case round =>
    obtain ⟨k, hk, rfl, hJ, hnx⟩ := hrel
    obtain ⟨hBs', hR⟩ := hZ.out wr hnx
    have hsv : sv.size ≤ 1000000 := (by have : zs.length = sv.size := (by rw [hR]; simp); omega)
    have hL : Hid (zs.length = sv.size) := (by show _ = _; rw [hR]; simp)
    by_cases hlt : k * 8 < sv.size
    · have hd0 : decide ((k : Int) * 8 < (sv.size : Int)) = true := by simp; omega
      have hd1 : decide (((k * 8 : Nat) : Int) < (sv.size : Int)) = true := by simp; omega
      gi_wp2
      gi_loopw [4, 5] (fun x j wr' => ∃ m : Nat, j = .int .i64 ((k : Int) * 8 + m) ∧ x = .int .u64 (wordTo zs (k * 8) m) ∧ m ≤ 8 ∧ k * 8 + m ≤ sv.size ∧ wr' = wr) (fun _ j _ => k * 8 + 8 - (intOf j).toNat)
      case atStart => exact ⟨0, val_int (by simp), rfl, by omega, by omega, rfl⟩
      case round =>
        obtain ⟨m, rfl, rfl, hm1, hm3, rfl⟩ := hrel
        by_cases hml : m < 8 ∧ k * 8 + m < sv.size
        · obtain ⟨g1, g2'⟩ := hml
          have g2 : k * 8 + m < zs.length := by have := hL.out; omega
          have hw : Hid (wordTo zs (k * 8) (m + 1) = bits .or .u64 (wordTo zs (k * 8) m) (IntKind.u64.wrap (IntKind.u64.wrap ((sv[k * 8 + m]).toNat : Int) * 2 ^ (8 * m)))) := by
            show _ = _
            rw [wordTo, List.getElem?_eq_getElem g2]; first | rfl | (subst hR; simp; rfl)
          skip
          have he : 8 * (k * 8 + m - k * 8) = 8 * m := by omega
          generalize wordTo zs (k * 8) m = x at *
          gi_wp2
          all_goals
            go_roundw
            case rel => exact ⟨m + 1, val_int (by omega), val_int (by first | exact hw.out.symm | (rw [hw.out, he])), by omega, by omega, by first | trivial | rfl⟩
            case measure => simp [intOf] <;> omega
        · have hm : m = min 8 (zs.length - k * 8) := by have := hL.out; omega
          have hs := Lib.hid (wordsTo_succ zs k)
          rw [← hm] at hs
          have hlen := wordsTo_len zs k
          generalize wordTo zs (k * 8) m = x at *
          obtain ⟨fn, tmps, assign, body, hy, hYR⟩ := hY.out _ x wr hJ (by have := hL.out; omega)
          have hc1 : ¬ (k * 8 + m < k * 8 + 8 ∧ k * 8 + m < sv.size) := by omega
          by_cases h8 : sv.size < k * 8 + 8
          all_goals
            gi_wp2
            refine hYR.mono ?_
            rintro e W3 (⟨rfl, hJ3, hk3⟩ | ⟨rfl, hJx3⟩)
            · have hn3 := hnx.then hk3
              gi_wp2
              go_roundw
              case rel => exact ⟨k + 1, by have := hL.out; omega, val_int (by omega), by rw [hs.out]; exact hJ3, hn3⟩
              case measure => have := hL.out; simp [intOf] <;> omega
            · gi_wp2
              refine bodyPost_ret (results_none rfl _ _ _) rfl ?_
              exact ⟨⟨_, rfl⟩, .inr ⟨_, hJx3⟩⟩
    · have hkk : k = (zs.length + 7) / 8 := by have := hL.out; omega
      have hfin : Hid (wordsTo zs k = wordsOf zs) := by show _ = _; rw [wordsOf, ← hkk]
      gi_wp2
      go_end0
      exact ⟨⟨_, rfl⟩, .inl ⟨_, hfin.out, hJ⟩⟩
end Go.Proofs.Ytebhdjeognpljaa
