/- Days and dates, in plain numbers.; package civil: in, Leap, Length, before, Weekday.; package civil: months, the iterator.; package civil: number.; package civil: Date.; package civil: Add. -/
import Derived.Test.YtcmdekhhclgdcaaGreatDoorBase
import Derived.RangeFuncNested
import Derived.RangeFuncBound
import Derived.RangeFuncCalls
import Derived.RangeFuncLeaves
import Derived.Shelf.Abstract
import Derived.Shelf.RegionOpen
import Derived.OwnWalkIn
import Derived.TacticsInMore
import Derived.LoopNIn
import Derived.LoopIn
import Derived.RangeFuncFrom
import Derived.Test.YtcmdekhhclgdcaaGreatDoorOwnS
import Derived.Test.YtcmdekhhclgdcaaGreatDoorCalmA
namespace Go.Proofs.YtcmdekhhclgdcaaGreatDoor
open Go.RowKit
set_option linter.unusedSimpArgs false
set_option linter.unusedVariables false
def leapB (y : Int) : Bool := decide (y % 4 = 0) && (decide (y % 100 ≠ 0) || decide (y % 400 = 0))
def lenM (y m : Int) : Int := if m = 2 then (if leapB y then 29 else 28) else if m = 4 ∨ m = 6 ∨ m = 9 ∨ m = 11 then 30 else 31
theorem lenM_le (y m : Int) : 28 ≤ lenM y m ∧ lenM y m ≤ 31 := by
  unfold lenM; split
  · split <;> omega
  · split <;> omega
/-- days from the year 1 to a year -/
def bef (y : Int) : Int := 365 * (y - 1) + (y - 1) / 4 - (y - 1) / 100 + (y - 1) / 400
theorem leapB_iff (y : Int) : leapB y = true ↔ y % 4 = 0 ∧ (y % 100 ≠ 0 ∨ y % 400 = 0) := by unfold leapB; simp
theorem bef_succ (y : Int) : bef (y + 1) = bef y + 365 + (if leapB y then 1 else 0) := by
  unfold bef
  by_cases h : leapB y = true
  · rw [if_pos h]; rw [leapB_iff] at h; omega
  · rw [if_neg h]; rw [leapB_iff] at h; omega
theorem bef_mono {a b : Int} (h : a ≤ b) : bef a + 365 * (b - a) ≤ bef b := by unfold bef; omega
theorem bef_up {a b : Int} (h : a ≤ b) : bef b ≤ bef a + 366 * (b - a) := by unfold bef; omega
/-- days of the first m months -/
def dayM (y : Int) : Nat → Int
  | 0 => 0
  | m + 1 => dayM y m + lenM y (m + 1)
theorem dayM_ge (y : Int) : ∀ m : Nat, 28 * (m : Int) ≤ dayM y m ∧ dayM y m ≤ 31 * (m : Int)
  | 0 => by simp [dayM]
  | m + 1 => by
    have := dayM_ge y m
    have := lenM_le y (m + 1)
    rw [dayM]; omega
theorem dayM_mono (y : Int) : ∀ {a b : Nat}, a ≤ b → dayM y a ≤ dayM y b := by
  intro a b h
  induction b with
  | zero =>
    obtain rfl : a = 0 := (by omega)
    exact Int.le_refl _
  | succ b ih =>
    by_cases hb : a = b + 1
    · subst hb; exact Int.le_refl _
    · have := ih (by omega)
      have := lenM_le y (b + 1)
      rw [dayM]; omega
theorem dayM_12 (y : Int) : dayM y 12 = 365 + (if leapB y then 1 else 0) := by
  simp [dayM, lenM]
  by_cases h : leapB y = true <;> simp [h]
/-- day d is day k of month m of year y -/
structure IsDate (d y m k : Int) : Prop where
  y0 : 1900 ≤ y
  m0 : 1 ≤ m
  m1 : m ≤ 12
  k0 : 1 ≤ k
  k1 : k ≤ lenM y m
  eq : d = bef y - bef 1900 + dayM y (m - 1).toNat + k - 1
theorem IsDate.lo {d y m k : Int} (h : IsDate d y m k) : bef y - bef 1900 ≤ d ∧ d < bef (y + 1) - bef 1900 := by
  obtain ⟨h0, h1, h2, h3, h4, h5⟩ := h
  have e := bef_succ y
  have e2 := dayM_12 y
  have e3 := dayM_mono y (a := (m - 1).toNat + 1) (b := 12) (by omega)
  rw [dayM, show (((m - 1).toNat : Int) + 1) = m by omega] at e3
  have e4 := dayM_ge y (m - 1).toNat
  omega
theorem IsDate.uniq {d y m k y' m' k' : Int} (h : IsDate d y m k) (h' : IsDate d y' m' k') : y = y' ∧ m = m' ∧ k = k' := by
  have e1 := h.lo
  have e2 := h'.lo
  have ey : y = y' := by
    rcases Int.lt_trichotomy y y' with hl | hl | hl
    · have := bef_mono (a := y + 1) (b := y') (by omega); omega
    · exact hl
    · have := bef_mono (a := y' + 1) (b := y) (by omega); omega
  subst ey
  obtain ⟨h0, h1, h2, h3, h4, h5⟩ := h
  obtain ⟨g0, g1, g2, g3, g4, g5⟩ := h'
  have em : m = m' := by
    rcases Int.lt_trichotomy m m' with hl | hl | hl
    · have e3 := dayM_mono y (a := (m - 1).toNat + 1) (b := (m' - 1).toNat) (by omega)
      rw [dayM, show (((m - 1).toNat : Int) + 1) = m by omega] at e3
      omega
    · exact hl
    · have e3 := dayM_mono y (a := (m' - 1).toNat + 1) (b := (m - 1).toNat) (by omega)
      rw [dayM, show (((m' - 1).toNat : Int) + 1) = m' by omega] at e3
      omega
  subst em
  exact ⟨rfl, rfl, by omega⟩
/-- the number of a date -/
def numV (y m k : Int) : Int := bef y - bef 1900 + dayM y (m - 1).toNat + k - 1
/-- a day is some months later -/
noncomputable def dateV (d : Int) : Int × Int × Int := @dite _ (∃ p : Int × Int × Int, IsDate d p.1 p.2.1 p.2.2) (Classical.propDecidable _) (fun h => Classical.choose h) (fun _ => (0, 0, 0))
theorem dateV_eq {d y m k : Int} (h : IsDate d y m k) : dateV d = (y, m, k) := by
  have hex : ∃ p : Int × Int × Int, IsDate d p.1 p.2.1 p.2.2 := ⟨(y, m, k), h⟩
  unfold dateV
  rw [dif_pos hex]
  obtain ⟨e1, e2, e3⟩ := (Classical.choose_spec hex).uniq h
  exact Prod.ext e1 (Prod.ext e2 e3)
theorem bef1900 : bef 1900 = 693595 := by unfold bef; omega
/-- the end of a number of months from a date on -/
def addD (p : Int × Int × Int) (many : Int) : Int :=
  let all := 12 * p.1 + p.2.1 - 1 + many
  numV (all / 12) (all % 12 + 1) (min p.2.2 (lenM (all / 12) (all % 12 + 1)))
/-- Add: the day and the error -/
noncomputable def addV (d many : Int) : Int × Int :=
  if d < 0 ∨ d > 131072 then (0, 5) else if many < 0 ∨ many > 12000 then (0, 1) else
  if addD (dateV d) many ≤ 131072 then (addD (dateV d) many, 0) else (0, 5)
end Go.Proofs.YtcmdekhhclgdcaaGreatDoor
namespace Go.Proofs.YtcmdekhhclgdcaaGreatDoor
open Go.RowKit
set_option linter.unusedSimpArgs false
set_option linter.unusedVariables false
theorem RetV_at {P : Program} {f : FuncId} {args : Array Value} {w : World} {v : Value} {K : Ending → World → Prop} (h : Calls P f args w (RetV w v)) (hK : ∀ w', Ext w w' → K (.returned v) w') : Calls P f args w K :=
  h.mono fun e w' ⟨h1, h2⟩ => by subst h1; exact hK w' h2
/-- a call that returns one value and leaves the world alone -/
def RetP (w : World) (v : Value) (e : Ending) (w' : World) : Prop := e = .returned v ∧ w = w'
theorem RetP_at {P : Program} {f : FuncId} {args : Array Value} {w : World} {v : Value} {K : Ending → World → Prop} (h : Calls P f args w (RetP w v)) (hK : K (.returned v) w) : Calls P f args w K :=
  h.mono fun e w' ⟨h1, h2⟩ => by subst h1 h2; exact hK
theorem RetP.v {P : Program} {f : FuncId} {args : Array Value} {w : World} {v : Value} (h : Calls P f args w (RetP w v)) : Calls P f args w (RetV w v) :=
  h.mono fun e w' ⟨h1, h2⟩ => by subst h2; exact ⟨h1, Ext.rfl' _⟩
abbrev two (a b : Int) : Value := .tuple #[.int .i64 a, .int .i64 b]
def inB (n lo hi : Int) : Bool := decide (lo ≤ n) && decide (n ≤ hi)
theorem inB_t {n lo hi : Int} (h : lo ≤ n ∧ n ≤ hi) : inB n lo hi = true := by unfold inB; simp [h]
theorem inB_f {n lo hi : Int} (h : ¬ (lo ≤ n ∧ n ≤ hi)) : inB n lo hi = false := by unfold inB; simp; omega
theorem inB_iff {n lo hi : Int} : inB n lo hi = true ↔ lo ≤ n ∧ n ≤ hi := by unfold inB; simp
theorem civilIn_c (n lo hi : Int) (w : World) : Calls Tryz.prog 96 #[.int .i64 n, .int .i64 lo, .int .i64 hi] w (RetP w (.bool (inB n lo hi))) := by
  by_cases h1 : lo ≤ n
  · by_cases h2 : n ≤ hi
    · have h := inB_t ⟨h1, h2⟩
      rw [h]; clear h
      go_enter Tryz.func96, Tryz.ntmps96
      go_wp2_with fail
      go_ret
      exact ⟨rfl, rfl⟩
    · have h : inB n lo hi = false := inB_f (by omega)
      rw [h]; clear h
      go_enter Tryz.func96, Tryz.ntmps96
      go_wp2_with fail
      go_ret
      exact ⟨rfl, rfl⟩
  · have h : inB n lo hi = false := inB_f (by omega)
    rw [h]; clear h
    have hd : decide (lo ≤ n) = false := by simpa using h1
    go_enter Tryz.func96, Tryz.ntmps96
    go_wp2_with fail
    go_ret
    exact ⟨rfl, rfl⟩
theorem tmod_eq {a b : Int} (h : 0 ≤ a) (hb : 0 ≤ b) : a.tmod b = a % b := Int.tmod_eq_emod_of_nonneg h
theorem leap_c (y : Int) (w : World) (h0 : 0 ≤ y) (h1 : y ≤ 1000000) : Calls Tryz.prog 100 #[.int .i64 y] w (RetP w (.bool (leapB y))) := by
  go_enter Tryz.func100, Tryz.ntmps100
  go_wp2_with fail
  all_goals
    go_ret
    exact ⟨ret_bool (by rw [Bool.eq_iff_iff, leapB_iff]; simp <;> omega), rfl⟩
/-- the table of the lengths of months lies in memory -/
def lenT : Array Value := #[.int .i64 31, .int .i64 28, .int .i64 31, .int .i64 30, .int .i64 31, .int .i64 30, .int .i64 31, .int .i64 31, .int .i64 30, .int .i64 31, .int .i64 30, .int .i64 31]
def VL (h : PH) : Prop := ∀ j u, lenT[j]? = some u → cellAt h 1 j = some u
theorem VL.mono {h h' : PH} (v : VL h) (l : PLe h h') : VL h' := fun j u hu => cellAt_mono l (v j u hu)
theorem lenT_at (m : Nat) (h1 : 1 ≤ m) (h2 : m ≤ 12) : lenT[m - 1]? = some (.int .i64 (if m = 2 then 28 else if m = 4 ∨ m = 6 ∨ m = 9 ∨ m = 11 then 30 else 31)) := by
  match m, h1, h2 with
  | 1, _, _ => rfl
  | 2, _, _ => rfl
  | 3, _, _ => rfl
  | 4, _, _ => rfl
  | 5, _, _ => rfl
  | 6, _, _ => rfl
  | 7, _, _ => rfl
  | 8, _, _ => rfl
  | 9, _, _ => rfl
  | 10, _, _ => rfl
  | 11, _, _ => rfl
  | 12, _, _ => rfl
/-- Length: the number and the error -/
def lenV (y m : Int) : Int × Int := if 1 ≤ m ∧ m ≤ 12 then (lenM y m, 0) else (0, 1)
theorem length_c (y m : Int) (w : World) (hV : VL (ph w)) (h0 : 0 ≤ y) (h1 : y ≤ 1000000) :
    Calls Tryz.prog 77 #[.int .i64 y, .int .i64 m] w (RetP w (two (lenV y m).1 (lenV y m).2)) := by
  by_cases hm : 1 ≤ m ∧ m ≤ 12
  · have hv : lenV y m = (lenM y m, 0) := if_pos hm
    rw [hv]
    obtain ⟨k, rfl⟩ : ∃ k : Nat, m = k := ⟨m.toNat, by omega⟩
    by_cases h2 : k = 2
    · subst h2
      have hl : lenM y ((2 : Nat) : Int) = if leapB y then 29 else 28 := if_pos rfl
      have hc := hV 1 _ (lenT_at 2 (by omega) (by omega))
      rw [← cell_ph] at hc
      simp only [if_true] at hc
      simp only []
      generalize lenM y ((2 : Nat) : Int) = z at *
      replace hl := Lib.hid hl
      clear hv
      go_enter Tryz.func77, Tryz.ntmps77
      go_wp2_with fail
      refine RetP_at (civilIn_c _ 1 12 _) ?_
      rw [inB_t (by omega)]
      go_wp2_with fail
      refine RetP_at (leap_c y _ h0 h1) ?_
      cases hb : leapB y with
      | true =>
        have hz : Hid (z = 29) := by show _ = _; rw [hl.out, hb]; rfl
        clear hb
        go_wp2_with fail
        exact bodyPost_ret (v := .tuple #[.int .i64 29, .int .i64 0]) (by simp [results, Tryz.results77, go_sem]) rfl ⟨by rw [hz.out], rfl⟩
      | false =>
        have hz : Hid (z = 28) := by show _ = _; rw [hl.out, hb]; rfl
        clear hb
        go_wp2_with fail
        exact bodyPost_ret (v := .tuple #[.int .i64 28, .int .i64 0]) (by simp [results, Tryz.results77, go_sem]) rfl ⟨by rw [hz.out], rfl⟩
    · have hl : lenM y k = if k = 4 ∨ k = 6 ∨ k = 9 ∨ k = 11 then 30 else 31 := by
        unfold lenM
        rw [if_neg (by omega)]
        by_cases h : k = 4 ∨ k = 6 ∨ k = 9 ∨ k = 11
        · rw [if_pos h, if_pos (by omega)]
        · rw [if_neg h, if_neg (by omega)]
      have hc := hV (k - 1) _ (lenT_at k (by omega) (by omega))
      rw [← cell_ph, if_neg h2, ← hl] at hc
      clear hl
      generalize lenM y k = z at *
      have hk2 : ((k : Int) == 2) = false := by rw [beq_eq_false_iff_ne]; omega
      have hs1 : ((k : Int) - 1).toNat = k - 1 := by omega
      go_enter Tryz.func77, Tryz.ntmps77
      go_wp2_with fail
      refine RetP_at (civilIn_c _ 1 12 _) ?_
      rw [inB_t (by omega)]
      go_wp2_with fail
      exact bodyPost_ret (v := .tuple #[.int .i64 z, .int .i64 0]) (by simp [results, Tryz.results77, go_sem]) rfl ⟨rfl, rfl⟩
  · have hv : lenV y m = (0, 1) := if_neg hm
    rw [hv]
    go_enter Tryz.func77, Tryz.ntmps77
    go_wp2_with fail
    refine RetP_at (civilIn_c _ 1 12 _) ?_
    rw [inB_f hm]
    go_wp2_with fail
    exact bodyPost_ret (v := .tuple #[.int .i64 0, .int .i64 1]) (by simp [results, Tryz.results77, go_sem]) rfl ⟨rfl, rfl⟩
theorem before_c (y : Int) (w : World) (h0 : 1 ≤ y) (h1 : y ≤ 1000000) : Calls Tryz.prog 106 #[.int .i64 y] w (RetP w (.int .i64 (bef y))) := by
  go_enter Tryz.func106, Tryz.ntmps106
  go_wp2_with fail
  go_ret
  exact ⟨ret_int (by unfold bef; first | rfl | omega), rfl⟩
def wkV (d : Int) : Int × Int := if 0 ≤ d ∧ d ≤ 131072 then (d % 7, 0) else (0, 5)
theorem weekday_c (d : Int) (w : World) : Calls Tryz.prog 92 #[.int .i64 d] w (RetP w (two (wkV d).1 (wkV d).2)) := by
  by_cases h : 0 ≤ d ∧ d ≤ 131072
  · rw [show wkV d = (d % 7, 0) from if_pos h]
    go_enter Tryz.func92, Tryz.ntmps92
    go_wp2_with fail
    refine RetP_at (civilIn_c _ 0 131072 _) ?_
    rw [inB_t h]
    go_wp2_with fail
    exact bodyPost_ret (v := .tuple #[.int .i64 (d % 7), .int .i64 0]) (by simp [results, Tryz.results92, go_sem]) rfl ⟨rfl, rfl⟩
  · rw [show wkV d = (0, 5) from if_neg h]
    go_enter Tryz.func92, Tryz.ntmps92
    go_wp2_with fail
    refine RetP_at (civilIn_c _ 0 131072 _) ?_
    rw [inB_f h]
    go_wp2_with fail
    exact bodyPost_ret (v := .tuple #[.int .i64 0, .int .i64 5]) (by simp [results, Tryz.results92, go_sem]) rfl ⟨rfl, rfl⟩
end Go.Proofs.YtcmdekhhclgdcaaGreatDoor
namespace Go.Proofs.YtcmdekhhclgdcaaGreatDoor
open Go.RowKit Go.Shelf
set_option linter.unusedSimpArgs false
set_option linter.unusedVariables false
attribute [local go_sem] Oper.semAt_some
/-- what a round keeps: all below n₀, and the iterator's own box -/
def KB (n₀ Bs : Nat) (W W' : World) : Prop := Below n₀ W W' ∧ W'.cell? ⟨Bs, 0, none⟩ = W.cell? ⟨Bs, 0, none⟩
theorem KB.rfl' (n₀ Bs : Nat) (W : World) : KB n₀ Bs W W := ⟨Below.refl _ _, rfl⟩
theorem KB.then {n₀ Bs : Nat} {A B C : World} (h : KB n₀ Bs A B) (k : KB n₀ Bs B C) : KB n₀ Bs A C := ⟨h.1.trans k.1, k.2.trans h.2⟩
/-- the first k months -/
def monthsTo (k : Nat) : List (Fin 12) := (List.finRange 12).take k
theorem monthsTo_succ {k : Nat} (h : k < 12) : monthsTo (k + 1) = monthsTo k ++ [⟨k, h⟩] := by
  unfold monthsTo
  rw [List.take_succ_eq_append_getElem (by simpa using h)]
  simp
theorem monthsTo_len {k : Nat} (h : k ≤ 12) : (monthsTo k).length = k := by simp [monthsTo]; omega
theorem monthsTo_all : monthsTo 12 = List.finRange 12 := by unfold monthsTo; rw [List.take_of_length_le (by simp)]
def seqPost {α : Type} (zs : List α) (J Jx : List α → World → Prop) (e : Ending) (W' : World) : Prop := (∃ v, e = .returned v) ∧ ((∃ ys, ys = zs ∧ J ys W') ∨ (∃ pre, Jx pre W'))
theorem months_p (y : Int) (w : World) : Calls Tryz.prog 107 #[.int .i64 y] w fun e w' => e = .returned (.func (.func 117) #[] #[.pointer (some ⟨w.heap.size, 0, none⟩)]) ∧ w' = w.alloc (.cells #[.int .i64 y] 3) := by
  go_enter Tryz.func107, Tryz.ntmps107
  go_wp2_with fail
  go_ret
  exact ⟨rfl, rfl⟩
set_option maxRecDepth 100000 in
set_option maxHeartbeats 1000000 in
theorem months_in (n l Bs n₀ : Nat) (y : Int) (hn : 2 ≤ n) (hy0 : 0 ≤ y) (hy1 : y ≤ 1000000) (J Jx : List (Fin 12) → World → Prop)
    (hY : ∀ pre x W, J pre W → pre.length < 12 → YieldAt Fence.wide (n - 1) Tryz.prog l #[.int .i64 ((x.val : Int) + 1), .int .i64 (dayM y x.val)] W fun e W' =>
      (e = .returned (.bool true) ∧ J (pre ++ [x]) W' ∧ KB n₀ Bs W W') ∨ (e = .returned (.bool false) ∧ Jx (pre ++ [x]) W'))
    (W : World) (hZ : ∀ wr, KB n₀ Bs W wr → wr.cell? ⟨Bs, 0, none⟩ = some (.int .i64 y) ∧ VL (ph wr)) (h0 : J [] W) :
    CallsIn Fence.wide n Tryz.prog 117 #[.func (.yield l) #[] #[], .pointer (some ⟨Bs, 0, none⟩)] W (seqPost (List.finRange 12) J Jx) := by
  refine callsIn_of_wp Tryz.func117 rfl trivial ?_ rfl
  simp only [Tryz.ntmps117, List.size_toArray, List.length_cons, List.length_nil, Nat.reduceAdd, Nat.reduceSub, Array.replicate_succ, Array.replicate_zero, List.push_toArray, List.append_toArray, List.nil_append, List.cons_append]
  replace hZ := Lib.hid hZ
  replace hY := Lib.hid hY
  have hn1 : 1 ≤ n := by omega
  gi_wp2
  gi_loopw [3, 4] (fun d i wr => ∃ k : Nat, k ≤ 12 ∧ i = .int .i64 ((k : Int) + 1) ∧ d = .int .i64 (dayM y k) ∧ J (monthsTo k) wr ∧ KB n₀ Bs W wr) (fun _ i _ => 13 - (intOf i).toNat)
  case atStart => exact ⟨0, by omega, rfl, rfl, h0, KB.rfl' _ _ _⟩
  case round =>
    obtain ⟨k, hk, rfl, rfl, hJ, hkb⟩ := hrel
    obtain ⟨hc, hV⟩ := hZ.out wr hkb
    have hdm := dayM_ge y k
    by_cases hlt : k < 12
    · have hs := Lib.hid (monthsTo_succ hlt)
      obtain ⟨fn, tmps, assign, body, hy, hYR⟩ := hY.out _ ⟨k, hlt⟩ wr hJ (by rw [monthsTo_len hk]; exact hlt)
      dsimp only at hy
      gi_wp2
      refine hYR.mono ?_
      rintro e W3 (⟨rfl, hJ3, hk3⟩ | ⟨rfl, hJx3⟩)
      · have hn3 := hkb.then hk3
        obtain ⟨hc3, hV3⟩ := hZ.out W3 hn3
        have hlc := length_c y ((k : Int) + 1) W3 hV3 hy0 hy1
        rw [show lenV y ((k : Int) + 1) = (lenM y ((k : Int) + 1), 0) from if_pos (by omega)] at hlc
        have hlm := lenM_le y ((k : Int) + 1)
        have hds : Hid (dayM y (k + 1) = dayM y k + lenM y ((k : Int) + 1)) := rfl
        generalize lenM y ((k : Int) + 1) = z at *
        generalize dayM y k = d at *
        gi_wp2_with (refine ⟨trivial, ?_⟩; gi_at_call 77; refine (callsIn_wide.2 hlc).mono ?_; rintro e w' ⟨rfl, rfl⟩)
        go_roundw
        case rel => exact ⟨k + 1, by omega, val_int (by omega), val_int hds.out.symm, by rw [hs.out]; exact hJ3, hn3⟩
        case measure => simp [intOf]; omega
      · gi_wp2
        refine bodyPost_ret (results_none rfl _ _ _) rfl ?_
        exact ⟨⟨_, rfl⟩, .inr ⟨_, hJx3⟩⟩
    · obtain rfl : k = 12 := by omega
      gi_wp2
      go_end0
      rw [monthsTo_all] at hJ
      exact ⟨⟨_, rfl⟩, .inl ⟨_, rfl, hJ⟩⟩
theorem KB.put {n₀ Bs : Nat} {w : World} (hn : n₀ ≤ w.heap.size) (hB : Bs < w.heap.size) (W : World) (l : Nat) (o o' : Obj) (hl : w.heap.size ≤ l) (h : W.heap[l]? = some o) (h1 : o.isCells = false) (h2 : o.isWalk = false) : KB n₀ Bs W (W.putObj l o') :=
  ⟨belowK_b (w := w) hn W l o o' hl h h1 h2, (belowK_b (w := w) (n₀ := w.heap.size) (Nat.le_refl _) W l o o' hl h h1 h2).cell (p := ⟨Bs, 0, none⟩) hB⟩
theorem cell_new_l (W : World) (v : Value) (t : TypeId) : (W.alloc (.cells #[v] t)).cell? ⟨W.heap.size, 0, none⟩ = some v ∧ (W.alloc (.cells #[v] t)).frozen? ⟨W.heap.size, 0, none⟩ = false :=
  have h := World.alloc_heap_new W (.cells #[v] t)
  ⟨by unfold World.cell?; rw [h]; rfl, by unfold World.frozen?; rw [h]; rfl⟩
theorem cell_alloc_l {W : World} {a : Addr} {v : Value} (o : Obj) (h : W.cell? a = some v) : (W.alloc o).cell? a = some v := cell_kept h (World.grownBy_alloc W o none) (fun r e => by cases e)
theorem frozen_alloc_l {W : World} {a : Addr} {v : Value} (o : Obj) (h : W.cell? a = some v) (hf : W.frozen? a = false) : (W.alloc o).frozen? a = false := (frozen_kept h (World.grownBy_alloc W o none) (fun r e => by cases e)).trans hf
theorem cell_set_other {W : World} {b B j : Nat} {v : Value} (h : b ≠ B) : (W.setCell ⟨b, j, none⟩ v).cell? ⟨B, 0, none⟩ = W.cell? ⟨B, 0, none⟩ := by
  unfold World.cell?
  rw [Below.heap_setCell _ _ _ _ (fun e => h e.symm)]
theorem own_kept {W W' : World} {row : Option Nat} {b : Nat} {c : Array Value} {T : TypeId} (h : Proofs.YtcmdekhhclgdcaaGreatDoor.Own W b c T) (hg : W.grownBy W' row) (hrow : ∀ r, row = some r → ∃ o : Obj, W.heap[r]? = some o ∧ o.isCells = false) : Proofs.YtcmdekhhclgdcaaGreatDoor.Own W' b c T :=
  h.grown hg fun e => by
    obtain ⟨o, h1, h2⟩ := hrow b e.symm
    unfold Proofs.YtcmdekhhclgdcaaGreatDoor.Own at h
    rw [h] at h1
    cases h1
    cases h2
theorem cell_set_at {W : World} {b B j o : Nat} {v : Value} (h : b ≠ B) : (W.setCell ⟨b, j, none⟩ v).cell? ⟨B, o, none⟩ = W.cell? ⟨B, o, none⟩ := by
  unfold World.cell?
  rw [Below.heap_setCell _ _ _ _ (fun e => h e.symm)]
end Go.Proofs.YtcmdekhhclgdcaaGreatDoor
namespace Go.Proofs.YtcmdekhhclgdcaaGreatDoor
open Go.RowKit Go.Shelf
set_option linter.unusedSimpArgs false
set_option linter.unusedVariables false
attribute [local go_sem] Oper.semAt_some
theorem RetP_cell {w w' : World} (h : Ext w w') {b o : Nat} {v : Value} (hc : w.cell? ⟨b, o, none⟩ = some v) : w'.cell? ⟨b, o, none⟩ = some v := h.cell1 hc
theorem dayM_372 (y : Int) (k : Fin 12) : 0 ≤ dayM y k.val ∧ dayM y k.val ≤ 341 := by
  have := dayM_ge y k.val
  have := k.isLt
  omega
theorem VL.lt {w : World} (v : VL (ph w)) : 1 < w.heap.size := by
  have h := v 0 _ rfl
  rw [← cell_ph] at h
  exact cell_lt h
theorem VL.below {n : Nat} {W W' : World} (v : VL (ph W)) (b : Below n W W') (hn : 1 < n) : VL (ph W') := by
  intro j u hu
  have h := v j u hu
  unfold cellAt ph at *
  rw [b.block 1 hn]; exact h
/-- what the loop of number adds -/
def accN (y : Int) (m : Nat) (s : Int) (pre : List (Fin 12)) : Int := pre.foldl (fun s k => if k.val + 1 = m then s + dayM y k.val else s) s
theorem accN_snoc (y : Int) (m : Nat) (s : Int) (pre : List (Fin 12)) (k : Fin 12) : accN y m s (pre ++ [k]) = if k.val + 1 = m then accN y m s pre + dayM y k.val else accN y m s pre := by simp [accN]
theorem accN_bd (y : Int) (m : Nat) (s : Int) : ∀ (pre : List (Fin 12)), s ≤ accN y m s pre ∧ accN y m s pre ≤ s + 341 * pre.length := by
  intro pre
  induction pre generalizing s with
  | nil => simp [accN]
  | cons k pre ih =>
    have h1 := dayM_372 y k
    simp only [accN, List.foldl_cons, List.length_cons]
    split
    · have := ih (s + dayM y k.val)
      unfold accN at this; omega
    · have := ih s
      unfold accN at this; omega
theorem accN_all (y : Int) (m : Nat) (s : Int) (h1 : 1 ≤ m) (h2 : m ≤ 12) : accN y m s (List.finRange 12) = s + dayM y (m - 1) := by
  have h : ∀ K, K ≤ 12 → accN y m s (monthsTo K) = if m ≤ K then s + dayM y (m - 1) else s := by
    intro K
    induction K with
    | zero => intro _; rw [if_neg (by omega)]; rfl
    | succ K ih =>
      intro hK
      rw [monthsTo_succ (by omega), accN_snoc, ih (by omega)]
      by_cases e : K + 1 = m
      · subst e
        rw [if_pos rfl, if_neg (by omega), if_pos (Nat.le_refl _)]; rfl
      · rw [if_neg e]
        by_cases h : m ≤ K
        · rw [if_pos h, if_pos (by omega)]
        · rw [if_neg h, if_neg (by omega)]
  rw [← monthsTo_all, h 12 (Nat.le_refl _), if_pos h2]
set_option maxRecDepth 100000 in
set_option maxHeartbeats 2000000 in
theorem number_in (y d : Int) (m : Nat) (w : World) (hV : VL (ph w)) (hy0 : 1 ≤ y) (hy1 : y ≤ 100000) (hm0 : 1 ≤ m) (hm1 : m ≤ 12) (hd0 : 0 ≤ d) (hd1 : d ≤ 1000) :
    CallsIn Fence.wide 5 Tryz.prog 97 #[.agg #[.int .i64 y, .int .i64 m, .int .i64 d]] w fun e W' => e = .returned (.int .i64 (numV y m d)) ∧ Below w.heap.size w W' := by
  have hb1 := bef_mono (a := 1) (b := y) hy0
  have hb2 := bef_up (a := 1) (b := y) hy0
  have hb3 : bef 1 = 0 := by unfold bef; omega
  have hb4 := bef1900
  have q1 : 0 ≤ bef y := by omega
  have q2 : bef y ≤ 36600000 := by omega
  have q3 : 693595 ≤ bef 1900 := by omega
  have q4 : bef 1900 ≤ 693595 := by omega
  clear hb1 hb2 hb3 hb4
  refine callsIn_of_wp_marks Tryz.func97 rfl trivial ?_ rfl
  simp only [Tryz.ntmps97, List.size_toArray, List.length_cons, List.length_nil, Nat.reduceAdd, Nat.reduceSub, Array.replicate_succ, Array.replicate_zero, List.push_toArray, List.append_toArray, List.nil_append, List.cons_append]
  gi_wp2
  refine wpIn_wide.2 ?_
  have hO := Own.new w #[.int .i64 y, .int .i64 m, .int .i64 d] 81
  have hxW := Ext.new w (.cells #[.int .i64 y, .int .i64 m, .int .i64 d] 81)
  have hszW : (w.alloc (.cells #[.int .i64 y, .int .i64 m, .int .i64 d] 81)).heap.size = w.heap.size + 1 := by simp
  generalize w.alloc _ = W at *
  obtain ⟨hoc, hof⟩ := hO.facts
  have hltW := hO.lt
  have hw1 : IntKind.i64.wrap (bef y - bef 1900) = bef y - bef 1900 := by rw [IntKind.wrap_i64]; omega
  have hw2 : IntKind.i64.wrap (bef y - bef 1900 + d) = bef y - bef 1900 + d := by rw [IntKind.wrap_i64]; omega
  have hw3 : IntKind.i64.wrap (bef y - bef 1900 + d - 1) = bef y - bef 1900 + d - 1 := by rw [IntKind.wrap_i64]; omega
  (refine wp_region_I 10 (by kernel_rfl) (by kernel_rfl) ?_; simp only [List.toList_toArray, List.take_succ_cons, List.take_zero, List.drop_succ_cons, List.drop_zero])
  (refine walkI_is (u := ?_) rfl (by simp) rfl ?_ ?_; rotate_left; (focus (intro A w' hS hA K hK; (simp only [List.map_cons, List.map_nil, knows, Is, Op.operands, Call.operands, List.lookup_cons, List.lookup_nil, Nat.reduceBEq, Bool.false_eq_true, if_false, if_true, Act.eval, Array.getD_eq_getD_getElem?, List.getElem?_toArray, List.getElem?_cons_succ, List.getElem?_cons_zero, Option.getD_some, and_true, true_and, List.append_toArray, List.nil_append, List.cons_append, List.toList_toArray, Array.toList_append, Option.toArray, List.append_nil] at hA); first | fail | (obtain ⟨hSc, hSf, hSs⟩ := hS.cells; go_simp; exact hK _ (by repeat (first | (with_reducible assumption) | (with_reducible exact Ext.rfl' _) | (with_reducible exact Ext.new _ _) | (with_reducible refine Ext.alloc' ?_ _) | (with_reducible refine Ext.drew' ?_) | (with_reducible refine Ext.drewN' ?_ _) | (with_reducible refine Ext.set' ?_ ?_ _; rotate_left; (focus (first | omega | (simp; done) | (simp; omega)))) | (with_reducible refine Ext.then (b := ?_) ?_ ?_; rotate_left; rotate_left; (with_reducible assumption))))))); (try simp only [List.nil_append, List.cons_append]))
  (refine walkI_is (u := ?_) rfl (by simp) rfl ?_ ?_; rotate_left; (focus (intro A w' hS hA K hK; (simp only [List.map_cons, List.map_nil, knows, Is, Op.operands, Call.operands, List.lookup_cons, List.lookup_nil, Nat.reduceBEq, Bool.false_eq_true, if_false, if_true, Act.eval, Array.getD_eq_getD_getElem?, List.getElem?_toArray, List.getElem?_cons_succ, List.getElem?_cons_zero, Option.getD_some, and_true, true_and, List.append_toArray, List.nil_append, List.cons_append, List.toList_toArray, Array.toList_append, Option.toArray, List.append_nil] at hA); first | fail | (obtain ⟨hSc, hSf, hSs⟩ := hS.cells; go_simp; exact hK _ (by repeat (first | (with_reducible assumption) | (with_reducible exact Ext.rfl' _) | (with_reducible exact Ext.new _ _) | (with_reducible refine Ext.alloc' ?_ _) | (with_reducible refine Ext.drew' ?_) | (with_reducible refine Ext.drewN' ?_ _) | (with_reducible refine Ext.set' ?_ ?_ _; rotate_left; (focus (first | omega | (simp; done) | (simp; omega)))) | (with_reducible refine Ext.then (b := ?_) ?_ ?_; rotate_left; rotate_left; (with_reducible assumption))))))); (try simp only [List.nil_append, List.cons_append]))
  (refine walkI_is (u := ?_) rfl (by simp) rfl ?_ ?_; rotate_left; (focus (intro A w' hS hA K hK; (simp only [List.map_cons, List.map_nil, knows, Is, Op.operands, Call.operands, List.lookup_cons, List.lookup_nil, Nat.reduceBEq, Bool.false_eq_true, if_false, if_true, Act.eval, Array.getD_eq_getD_getElem?, List.getElem?_toArray, List.getElem?_cons_succ, List.getElem?_cons_zero, Option.getD_some, and_true, true_and, List.append_toArray, List.nil_append, List.cons_append, List.toList_toArray, Array.toList_append, Option.toArray, List.append_nil] at hA); first | (go_simp; refine RetP_at (before_c y _ (by omega) (by omega)) ?_; exact hK _ (by repeat (first | (with_reducible assumption) | (with_reducible exact Ext.rfl' _) | (with_reducible exact Ext.new _ _) | (with_reducible refine Ext.alloc' ?_ _) | (with_reducible refine Ext.drew' ?_) | (with_reducible refine Ext.drewN' ?_ _) | (with_reducible refine Ext.set' ?_ ?_ _; rotate_left; (focus (first | omega | (simp; done) | (simp; omega)))) | (with_reducible refine Ext.then (b := ?_) ?_ ?_; rotate_left; rotate_left; (with_reducible assumption))))) | (obtain ⟨hSc, hSf, hSs⟩ := hS.cells; go_simp; exact hK _ (by repeat (first | (with_reducible assumption) | (with_reducible exact Ext.rfl' _) | (with_reducible exact Ext.new _ _) | (with_reducible refine Ext.alloc' ?_ _) | (with_reducible refine Ext.drew' ?_) | (with_reducible refine Ext.drewN' ?_ _) | (with_reducible refine Ext.set' ?_ ?_ _; rotate_left; (focus (first | omega | (simp; done) | (simp; omega)))) | (with_reducible refine Ext.then (b := ?_) ?_ ?_; rotate_left; rotate_left; (with_reducible assumption))))))); (try simp only [List.nil_append, List.cons_append]))
  (refine walkI_is (u := ?_) rfl (by simp) rfl ?_ ?_; rotate_left; (focus (intro A w' hS hA K hK; (simp only [List.map_cons, List.map_nil, knows, Is, Op.operands, Call.operands, List.lookup_cons, List.lookup_nil, Nat.reduceBEq, Bool.false_eq_true, if_false, if_true, Act.eval, Array.getD_eq_getD_getElem?, List.getElem?_toArray, List.getElem?_cons_succ, List.getElem?_cons_zero, Option.getD_some, and_true, true_and, List.append_toArray, List.nil_append, List.cons_append, List.toList_toArray, Array.toList_append, Option.toArray, List.append_nil] at hA); first | (go_simp; refine RetP_at (before_c 1900 _ (by omega) (by omega)) ?_; exact hK _ (by repeat (first | (with_reducible assumption) | (with_reducible exact Ext.rfl' _) | (with_reducible exact Ext.new _ _) | (with_reducible refine Ext.alloc' ?_ _) | (with_reducible refine Ext.drew' ?_) | (with_reducible refine Ext.drewN' ?_ _) | (with_reducible refine Ext.set' ?_ ?_ _; rotate_left; (focus (first | omega | (simp; done) | (simp; omega)))) | (with_reducible refine Ext.then (b := ?_) ?_ ?_; rotate_left; rotate_left; (with_reducible assumption))))) | (obtain ⟨hSc, hSf, hSs⟩ := hS.cells; go_simp; exact hK _ (by repeat (first | (with_reducible assumption) | (with_reducible exact Ext.rfl' _) | (with_reducible exact Ext.new _ _) | (with_reducible refine Ext.alloc' ?_ _) | (with_reducible refine Ext.drew' ?_) | (with_reducible refine Ext.drewN' ?_ _) | (with_reducible refine Ext.set' ?_ ?_ _; rotate_left; (focus (first | omega | (simp; done) | (simp; omega)))) | (with_reducible refine Ext.then (b := ?_) ?_ ?_; rotate_left; rotate_left; (with_reducible assumption))))))); (try simp only [List.nil_append, List.cons_append]))
  (refine walkI_is (u := ?_) rfl (by simp) rfl ?_ ?_; rotate_left; (focus (intro A w' hS hA K hK; (simp only [List.map_cons, List.map_nil, knows, Is, Op.operands, Call.operands, List.lookup_cons, List.lookup_nil, Nat.reduceBEq, Bool.false_eq_true, if_false, if_true, Act.eval, Array.getD_eq_getD_getElem?, List.getElem?_toArray, List.getElem?_cons_succ, List.getElem?_cons_zero, Option.getD_some, and_true, true_and, List.append_toArray, List.nil_append, List.cons_append, List.toList_toArray, Array.toList_append, Option.toArray, List.append_nil] at hA); first | fail | (obtain ⟨hSc, hSf, hSs⟩ := hS.cells; go_simp; exact hK _ (by repeat (first | (with_reducible assumption) | (with_reducible exact Ext.rfl' _) | (with_reducible exact Ext.new _ _) | (with_reducible refine Ext.alloc' ?_ _) | (with_reducible refine Ext.drew' ?_) | (with_reducible refine Ext.drewN' ?_ _) | (with_reducible refine Ext.set' ?_ ?_ _; rotate_left; (focus (first | omega | (simp; done) | (simp; omega)))) | (with_reducible refine Ext.then (b := ?_) ?_ ?_; rotate_left; rotate_left; (with_reducible assumption))))))); (try simp only [List.nil_append, List.cons_append]))
  (refine walkI_is (u := ?_) rfl (by simp) rfl ?_ ?_; rotate_left; (focus (intro A w' hS hA K hK; (simp only [List.map_cons, List.map_nil, knows, Is, Op.operands, Call.operands, List.lookup_cons, List.lookup_nil, Nat.reduceBEq, Bool.false_eq_true, if_false, if_true, Act.eval, Array.getD_eq_getD_getElem?, List.getElem?_toArray, List.getElem?_cons_succ, List.getElem?_cons_zero, Option.getD_some, and_true, true_and, List.append_toArray, List.nil_append, List.cons_append, List.toList_toArray, Array.toList_append, Option.toArray, List.append_nil] at hA); first | fail | (obtain ⟨hSc, hSf, hSs⟩ := hS.cells; go_simp; exact hK _ (by repeat (first | (with_reducible assumption) | (with_reducible exact Ext.rfl' _) | (with_reducible exact Ext.new _ _) | (with_reducible refine Ext.alloc' ?_ _) | (with_reducible refine Ext.drew' ?_) | (with_reducible refine Ext.drewN' ?_ _) | (with_reducible refine Ext.set' ?_ ?_ _; rotate_left; (focus (first | omega | (simp; done) | (simp; omega)))) | (with_reducible refine Ext.then (b := ?_) ?_ ?_; rotate_left; rotate_left; (with_reducible assumption))))))); (try simp only [List.nil_append, List.cons_append]))
  (refine walkI_is (u := ?_) rfl (by simp) rfl ?_ ?_; rotate_left; (focus (intro A w' hS hA K hK; (simp only [List.map_cons, List.map_nil, knows, Is, Op.operands, Call.operands, List.lookup_cons, List.lookup_nil, Nat.reduceBEq, Bool.false_eq_true, if_false, if_true, Act.eval, Array.getD_eq_getD_getElem?, List.getElem?_toArray, List.getElem?_cons_succ, List.getElem?_cons_zero, Option.getD_some, and_true, true_and, List.append_toArray, List.nil_append, List.cons_append, List.toList_toArray, Array.toList_append, Option.toArray, List.append_nil] at hA); first | fail | (obtain ⟨hSc, hSf, hSs⟩ := hS.cells; go_simp; exact hK _ (by repeat (first | (with_reducible assumption) | (with_reducible exact Ext.rfl' _) | (with_reducible exact Ext.new _ _) | (with_reducible refine Ext.alloc' ?_ _) | (with_reducible refine Ext.drew' ?_) | (with_reducible refine Ext.drewN' ?_ _) | (with_reducible refine Ext.set' ?_ ?_ _; rotate_left; (focus (first | omega | (simp; done) | (simp; omega)))) | (with_reducible refine Ext.then (b := ?_) ?_ ?_; rotate_left; rotate_left; (with_reducible assumption))))))); (try simp only [List.nil_append, List.cons_append]))
  (refine walkI_is (u := ?_) rfl (by simp) rfl ?_ ?_; rotate_left; (focus (intro A w' hS hA K hK; (simp only [List.map_cons, List.map_nil, knows, Is, Op.operands, Call.operands, List.lookup_cons, List.lookup_nil, Nat.reduceBEq, Bool.false_eq_true, if_false, if_true, Act.eval, Array.getD_eq_getD_getElem?, List.getElem?_toArray, List.getElem?_cons_succ, List.getElem?_cons_zero, Option.getD_some, and_true, true_and, List.append_toArray, List.nil_append, List.cons_append, List.toList_toArray, Array.toList_append, Option.toArray, List.append_nil] at hA); first | fail | (obtain ⟨hSc, hSf, hSs⟩ := hS.cells; go_simp; exact hK _ (by repeat (first | (with_reducible assumption) | (with_reducible exact Ext.rfl' _) | (with_reducible exact Ext.new _ _) | (with_reducible refine Ext.alloc' ?_ _) | (with_reducible refine Ext.drew' ?_) | (with_reducible refine Ext.drewN' ?_ _) | (with_reducible refine Ext.set' ?_ ?_ _; rotate_left; (focus (first | omega | (simp; done) | (simp; omega)))) | (with_reducible refine Ext.then (b := ?_) ?_ ?_; rotate_left; rotate_left; (with_reducible assumption))))))); (try simp only [List.nil_append, List.cons_append]))
  (refine walkI_is (u := ?_) rfl (by simp) rfl ?_ ?_; rotate_left; (focus (intro A w' hS hA K hK; (simp only [List.map_cons, List.map_nil, knows, Is, Op.operands, Call.operands, List.lookup_cons, List.lookup_nil, Nat.reduceBEq, Bool.false_eq_true, if_false, if_true, Act.eval, Array.getD_eq_getD_getElem?, List.getElem?_toArray, List.getElem?_cons_succ, List.getElem?_cons_zero, Option.getD_some, and_true, true_and, List.append_toArray, List.nil_append, List.cons_append, List.toList_toArray, Array.toList_append, Option.toArray, List.append_nil] at hA); first | fail | (obtain ⟨hSc, hSf, hSs⟩ := hS.cells; go_simp; exact hK _ (by repeat (first | (with_reducible assumption) | (with_reducible exact Ext.rfl' _) | (with_reducible exact Ext.new _ _) | (with_reducible refine Ext.alloc' ?_ _) | (with_reducible refine Ext.drew' ?_) | (with_reducible refine Ext.drewN' ?_ _) | (with_reducible refine Ext.set' ?_ ?_ _; rotate_left; (focus (first | omega | (simp; done) | (simp; omega)))) | (with_reducible refine Ext.then (b := ?_) ?_ ?_; rotate_left; rotate_left; (with_reducible assumption))))))); (try simp only [List.nil_append, List.cons_append]))
  (refine walkI_step (fun v w' => ∃ g, v = .pointer (some ⟨g, 0, none⟩) ∧ Own w' g #[.int .i64 0] 3 ∧ W.heap.size ≤ g) rfl (by simp) rfl (fun v a b _ ⟨g, q1, q2, q3⟩ e => ⟨g, q1, q2.keep e, q3⟩) ?_ ?_; (focus (intro A w' hS hA K hK; (simp only [List.map_cons, List.map_nil, knows, Is, Op.operands, Call.operands, List.lookup_cons, List.lookup_nil, Nat.reduceBEq, Bool.false_eq_true, if_false, if_true, Act.eval, Array.getD_eq_getD_getElem?, List.getElem?_toArray, List.getElem?_cons_succ, List.getElem?_cons_zero, Option.getD_some, and_true, true_and, List.append_toArray, List.nil_append, List.cons_append, List.toList_toArray, Array.toList_append, Option.toArray, List.append_nil] at hA); (have hs' := hS.size; go_simp; exact hK _ _ (Ext.new _ _) ⟨_, rfl, Own.new _ _ _, hs'⟩))); (try simp only [List.nil_append, List.cons_append]))
  (refine walkI_nil ?_; simp only [List.nil_append, List.cons_append, fins, Is, forall_eq, Act.put, List.setIfInBounds_toArray, List.set_cons_zero, List.set_cons_succ])
  rintro w2 hx2 v9 ⟨g, rfl, ho, hg⟩
  clear hw1 hw2 hw3
  have hbd1 : -700000 ≤ bef y - bef 1900 + d - 1 := by omega
  have hbd2 : bef y - bef 1900 + d - 1 ≤ 36700000 := by omega
  obtain ⟨gc, gf⟩ := ho.facts
  have hgl := ho.lt
  have hb2' : Below w.heap.size w (w2.setCell ⟨g, 0, none⟩ (.int .i64 (bef y - bef 1900 + d - 1))) := (hxW.then hx2).set' (show w.heap.size ≤ g by omega) _
  have hO2 := (hO.keep hx2).setOther (p := ⟨g, 0, none⟩) (by simp; omega) (.int .i64 (bef y - bef 1900 + d - 1))
  have ho2 := ho.set 0 (.int .i64 (bef y - bef 1900 + d - 1))
  have hV2 : VL (ph (w2.setCell ⟨g, 0, none⟩ (.int .i64 (bef y - bef 1900 + d - 1)))) := hV.mono (Ext.ple hb2')
  generalize hbase : bef y - bef 1900 + d - 1 = base at *
  replace hbase := Lib.hid hbase
  go_wp2_with fail
  generalize hW3 : w2.setCell _ _ = W3 at *
  have hsz3 : w2.heap.size ≤ W3.heap.size := by rw [← hW3]; simp
  clear hW3
  obtain ⟨gc3, gf3⟩ := ho2.facts
  obtain ⟨oc3, of3⟩ := hO2.facts
  have k0 := gc3 0
  have k1 := gf3 0
  have k2 := oc3 1
  have k3 := oc3 0
  simp at k0 k2 k3
  have hg3 : w.heap.size < W3.heap.size := by omega
  have hg4 : g < W3.heap.size := by omega
  have hwV := hV.lt
  clear gc gf hoc hof gc3 gf3 oc3 of3 hO ho hO2 ho2 hx2 hxW hgl hltW
  gi_wp2_with (refine ⟨trivial, ?_⟩; gi_at_call 107; refine (callsIn_wide.2 (months_p _ _)).mono ?_; rintro e w' ⟨rfl, rfl⟩)
  have hb0 := cell_new_l W3 (.int .i64 y) 3
  have hB0 : Below w.heap.size w (W3.alloc (.cells #[.int .i64 y] 3)) := Below.alloc hb2' (by omega) _
  refine wpIn_rangeFunc_ownF rfl (by omega) (gf := 117) (lb := #[.pointer (some ⟨W3.heap.size, 0, none⟩)]) rfl trivial (enters_of Tryz.func117 (by kernel_rfl) rfl)
    (encs := fun x : Fin 12 => #[.int .i64 ((x.val : Int) + 1), .int .i64 (dayM y x.val)]) (Kp := KB w.heap.size W3.heap.size) (S := fun ys => ys = List.finRange 12) (Sp := fun _ => True) (N := 12)
    (w0 := W3.alloc (.cells #[.int .i64 y] 3))
    ?seq KB.then (KB.put (by simp; omega) (by simp)) (Below.refl _ _) (fun _ => rfl)
    (fun pre W => (W.cell? ⟨g, 0, none⟩ = some (.int .i64 (accN y m base pre)) ∧ W.frozen? ⟨g, 0, none⟩ = false ∧ W.cell? ⟨w.heap.size, 1, none⟩ = some (.int .i64 m)) ∧ Below w.heap.size w W)
    (fun _ _ _ => False)
    (OwnFrom.and (Own.from (fun s A B row hs hg hr => ⟨cell_kept hs.1 hg hr, (frozen_kept hs.1 hg hr).trans hs.2.1, cell_kept hs.2.2 hg hr⟩) _) (ownFrom_below (Nat.le_refl _) (by simp; omega)))
    (fun _ _ _ _ _ hs _ _ => hs)
    ⟨⟨cell_alloc_l _ k0, frozen_alloc_l _ k0 k1, cell_alloc_l _ k2⟩, hB0⟩
    ?a1 ?assign ?body ?done ?stop
  case assign =>
    intro l x W K hK
    gi_wp2
    exact hK
  case seq =>
    intro l J Jx W hW _ _ hY h0
    refine months_in 4 l W3.heap.size w.heap.size y (by omega) (by omega) (by omega) J Jx hY W ?_ h0 |>.mono ?_
    rotate_left
    · rintro e W' ⟨h1, ⟨ys, h2, h3⟩ | ⟨pre, h2⟩⟩
      · exact ⟨h1, .inl ⟨ys, h2, h3⟩⟩
      · exact ⟨h1, .inr ⟨pre, trivial, h2⟩⟩
    intro wr hkb
    exact ⟨hkb.2.trans ((hW.cell (p := ⟨_, 0, none⟩) (by simp)).trans hb0.1), (hV2.mono (Ext.ple ((Ext.new W3 _).then hW))).below hkb.1 hwV⟩
  case body =>
    rintro l pre x W ⟨⟨hc, hf, hm⟩, hB⟩ hlen
    have hx := dayM_372 y x
    have hab := accN_bd y m base pre
    have hs := Lib.hid (accN_snoc y m base pre x)
    generalize accN y m base pre = acc at *
    by_cases e : x.val + 1 = m
    · have eb : ((x.val : Int) + 1 == (m : Int)) = true := by rw [beq_iff_eq]; omega
      have hs2 : Hid (accN y m base (pre ++ [x]) = acc + dayM y x.val) := by show _ = _; rw [hs.out, if_pos e]
      clear hs e
      gi_wp2
      refine ⟨KeepsOthers.setCell _ _ _, ⟨(Below.refl w.heap.size W).setCell (p := ⟨g, 0, none⟩) (show w.heap.size ≤ g by omega) _, cell_set_other (by omega)⟩, ⟨?_, ?_, ?_⟩, hB.setCell (p := ⟨g, 0, none⟩) (show w.heap.size ≤ g by omega) _⟩
      · rw [hs2.out]; exact World.cell?_setCell_same' _ _ _ (by rw [hc]; rfl)
      · rw [World.frozen?_setCell]; exact hf
      · rw [cell_set_at (by omega)]; exact hm
    · have eb : ((x.val : Int) + 1 == (m : Int)) = false := by rw [beq_eq_false_iff_ne]; omega
      have hs2 : Hid (accN y m base (pre ++ [x]) = acc) := by show _ = _; rw [hs.out, if_neg e]
      clear hs e
      gi_wp2
      exact ⟨KeepsOthers.refl _, KB.rfl' _ _ _, ⟨by rw [hs2.out]; exact hc, hf, hm⟩, hB⟩
  case done =>
    rintro D xs W hD rfl ⟨⟨hc, hf, hm⟩, hB⟩ hK
    rw [accN_all _ _ _ hm0 hm1] at hc
    gi_wp2
    refine ⟨by simp, .inl ⟨_, _, rfl, run_takeDeferred hK, ?_⟩⟩
    refine ⟨_, results_tmp rfl _ _ _, ?_, hB.trans (belowK_b (w := w) (Nat.le_refl _) _ D _ _ (by simp at hD; omega) hK rfl rfl)⟩
    refine ret_int (a := base + dayM y (m - 1)) ?_
    rw [numV, ← hbase.out, show ((m : Int) - 1).toNat = m - 1 by omega]; omega
  case stop =>
    rintro D c pre W _ _ h _
    exact h.elim
theorem number_c (y d : Int) (m : Nat) (w : World) (hV : VL (ph w)) (hy0 : 1 ≤ y) (hy1 : y ≤ 100000) (hm0 : 1 ≤ m) (hm1 : m ≤ 12) (hd0 : 0 ≤ d) (hd1 : d ≤ 1000) :
    Calls Tryz.prog 97 #[.agg #[.int .i64 y, .int .i64 m, .int .i64 d]] w (RetV w (.int .i64 (numV y m d))) :=
  (callsIn_wide (n := 5)).1 (number_in y d m w hV hy0 hy1 hm0 hm1 hd0 hd1)
end Go.Proofs.YtcmdekhhclgdcaaGreatDoor
namespace Go.Proofs.YtcmdekhhclgdcaaGreatDoor
open Go.RowKit Go.Shelf
set_option linter.unusedSimpArgs false
set_option linter.unusedVariables false
attribute [local go_sem] Oper.semAt_some
/-- what the loop of Date leaves: the month and the day -/
def accD (y rest : Int) (pre : List (Fin 12)) : Int × Int := pre.foldl (fun s k => if dayM y k.val ≤ rest then ((k.val : Int) + 1, rest - dayM y k.val + 1) else s) (0, 0)
theorem accD_snoc (y rest : Int) (pre : List (Fin 12)) (k : Fin 12) : accD y rest (pre ++ [k]) = if dayM y k.val ≤ rest then ((k.val : Int) + 1, rest - dayM y k.val + 1) else accD y rest pre := by simp [accD]
theorem accD_all (y rest : Int) (h0 : 0 ≤ rest) (h1 : rest < dayM y 12) : 1 ≤ (accD y rest (List.finRange 12)).1 ∧ (accD y rest (List.finRange 12)).1 ≤ 12 ∧ 1 ≤ (accD y rest (List.finRange 12)).2 ∧
    (accD y rest (List.finRange 12)).2 ≤ lenM y (accD y rest (List.finRange 12)).1 ∧ dayM y ((accD y rest (List.finRange 12)).1 - 1).toNat + (accD y rest (List.finRange 12)).2 - 1 = rest := by
  have h : ∀ K, 1 ≤ K → K ≤ 12 → ∃ j : Nat, j < K ∧ accD y rest (monthsTo K) = ((j : Int) + 1, rest - dayM y j + 1) ∧ dayM y j ≤ rest ∧ ∀ i, j < i → i < K → rest < dayM y i := by
    intro K
    induction K with
    | zero => intro h; omega
    | succ K ih =>
      intro _ hK
      rw [monthsTo_succ (by omega), accD_snoc]
      by_cases e : dayM y K ≤ rest
      · exact ⟨K, by omega, by rw [if_pos e], e, fun i h1 h2 => by omega⟩
      · rw [if_neg e]
        by_cases hK0 : K = 0
        · subst hK0; simp [dayM] at e; omega
        · obtain ⟨j, q1, q2, q3, q4⟩ := ih (by omega) (by omega)
          refine ⟨j, by omega, q2, q3, fun i h1 h2 => ?_⟩
          by_cases hi : i = K
          · subst hi; omega
          · exact q4 i h1 (by omega)
  obtain ⟨j, q1, q2, q3, q4⟩ := h 12 (by omega) (by omega)
  rw [monthsTo_all] at q2
  rw [q2]
  have hlt : rest < dayM y (j + 1) := by
    by_cases e : j + 1 = 12
    · rw [e]; exact h1
    · exact q4 (j + 1) (by omega) (by omega)
  rw [dayM] at hlt
  simp only []
  rw [show ((j : Int) + 1 - 1).toNat = j by omega]
  omega
/-- Date: the date and the error -/
noncomputable def dateE (d : Int) : (Int × Int × Int) × Int := if 0 ≤ d ∧ d ≤ 131072 then (dateV d, 0) else ((0, 0, 0), 5)
def DateP (w : World) (d : Int) (e : Ending) (w' : World) : Prop := e = .returned (.tuple #[.agg #[.int .i64 (dateE d).1.1, .int .i64 (dateE d).1.2.1, .int .i64 (dateE d).1.2.2], .int .i64 (dateE d).2]) ∧ Below w.heap.size w w'
set_option maxRecDepth 100000 in
set_option maxHeartbeats 2000000 in
theorem date_in (d : Int) (w : World) (hV : VL (ph w)) : CallsIn Fence.wide 5 Tryz.prog 93 #[.int .i64 d] w (DateP w d) := by
  have hwV := hV.lt
  refine callsIn_of_wp_marks Tryz.func93 rfl trivial ?_ rfl
  simp only [Tryz.ntmps93, List.size_toArray, List.length_cons, List.length_nil, Nat.reduceAdd, Nat.reduceSub, Array.replicate_succ, Array.replicate_zero, List.push_toArray, List.append_toArray, List.nil_append, List.cons_append]
  by_cases hr : 0 ≤ d ∧ d ≤ 131072
  · have hDE : Hid (dateE d = (dateV d, 0)) := if_pos hr
    refine wpIn_wide.2 ?_
    go_wp2_with fail
    refine RetP_at (civilIn_c d 0 131072 _) ?_
    rw [inB_t hr]
    go_wp2_with fail
    have hO := Own.new w #[.int .i64 0, .int .i64 0, .int .i64 0] 81
    have hxW := Ext.new w (.cells #[.int .i64 0, .int .i64 0, .int .i64 0] 81)
    have hszW : w.heap.size + 1 ≤ (w.alloc (.cells #[.int .i64 0, .int .i64 0, .int .i64 0] 81)).heap.size := by simp
    have hVW := hV.mono hxW.ple
    generalize w.alloc _ = W at *
    have hb4 := bef1900
    have q3 : 693595 ≤ bef 1900 := by omega
    have q4 : bef 1900 ≤ 693595 := by omega
    have h0 := bef_up (a := 1900) (b := 1900 + d / 366) (by omega)
    have h00 : bef (1900 + d / 366) - bef 1900 ≤ d := by omega
    clear hb4 h0
    go_loopw [4] (fun i wr => ∃ y : Int, i = .int .i64 y ∧ 1900 ≤ y ∧ y ≤ 2300 ∧ bef y - bef 1900 ≤ d ∧ wr = W) (fun i _ => 2301 - (intOf i).toNat)
    case atStart => exact ⟨1900 + d / 366, by first | rfl | go_num, by omega, by omega, h00, rfl⟩
    case round =>
      obtain ⟨y, rfl, hy0, hy1, hyd, rfl⟩ := hrel
      have e1 := bef_mono (a := 1900) (b := y) hy0
      have e2 := bef_up (a := y) (b := y + 1) (by omega)
      have e3 := bef_mono (a := y) (b := y + 1) (by omega)
      have q5 : 0 ≤ bef (y + 1) := by omega
      have q6 : bef (y + 1) ≤ 1000000 := by omega
      have q7 : 693595 ≤ bef y := by omega
      have q8 : bef y ≤ 1000000 := by omega
      have hy2 : y + 1 ≤ 2300 ∨ d < bef (y + 1) - bef 1900 := by have := bef_mono (a := 1900) (b := y + 1) (by omega); omega
      clear e1 e2 e3
      go_wp2_with fail
      refine RetP_at (before_c (y + 1) _ (by omega) (by omega)) ?_
      go_wp2_with fail
      refine RetP_at (before_c 1900 _ (by omega) (by omega)) ?_
      by_cases hlt : bef (y + 1) - bef 1900 ≤ d
      · go_wp2_with fail
        go_roundw
        case rel => exact ⟨y + 1, rfl, by omega, by omega, hlt, trivial⟩
        case measure => simp [intOf]; omega
      · have e4 := bef_succ y
        have e5 := dayM_12 y
        generalize hrs : d - bef y + bef 1900 = rest at *
        have r0 : 0 ≤ rest := by omega
        have r1 : rest < dayM y 12 := by omega
        have r2 : rest ≤ 366 := by split at e4 <;> omega
        have r3 : Hid (d = bef y - bef 1900 + rest) := by show _ = _; omega
        replace hrs := Lib.hid hrs
        clear e4 e5 hy2
        have q9 : IntKind.i64.wrap (d - bef y) = d - bef y := by rw [IntKind.wrap_i64]; omega
        go_wp2_with fail
        refine RetP_at (before_c y _ (by omega) (by omega)) ?_
        go_wp2_with fail
        refine RetP_at (before_c 1900 _ (by omega) (by omega)) ?_
        go_wp2_with fail
        rw [hrs.out]
        have oR : Own (wr.alloc (.cells #[.int .i64 rest] 3)) wr.heap.size #[.int .i64 rest] 3 := Own.new _ _ _
        have oD : Own ((wr.alloc (.cells #[.int .i64 rest] 3)).alloc (.cells #[.int .i64 y, .int .i64 0, .int .i64 0] 81)) (wr.heap.size + 1) #[.int .i64 y, .int .i64 0, .int .i64 0] 81 := Own.new' _ _ _ (by simp)
        replace oR := oR.alloc (.cells #[.int .i64 y, .int .i64 0, .int .i64 0] 81)
        have oO := (hO.alloc (.cells #[.int .i64 rest] 3)).alloc (.cells #[.int .i64 y, .int .i64 0, .int .i64 0] 81)
        have hx3 : Ext w ((wr.alloc (.cells #[.int .i64 rest] 3)).alloc (.cells #[.int .i64 y, .int .i64 0, .int .i64 0] 81)) := (by repeat (first | (with_reducible assumption) | (with_reducible exact Ext.rfl' _) | (with_reducible exact Ext.new _ _) | (with_reducible refine Ext.alloc' ?_ _) | (with_reducible refine Ext.drew' ?_) | (with_reducible refine Ext.drewN' ?_ _) | (with_reducible refine Ext.set' ?_ ?_ _; rotate_left; (focus (first | omega | (simp; done) | (simp; omega)))) | (with_reducible refine Ext.then (b := ?_) ?_ ?_; rotate_left; rotate_left; (with_reducible assumption))))
        have hs3 : ((wr.alloc (.cells #[.int .i64 rest] 3)).alloc (.cells #[.int .i64 y, .int .i64 0, .int .i64 0] 81)).heap.size = wr.heap.size + 2 := by simp
        refine (months_p y _).mono ?_
        rintro e w' ⟨rfl, rfl⟩
        go_wp2_with fail
        refine (wpIn_wide (n := 5)).1 ?_
        generalize (wr.alloc (.cells #[.int .i64 rest] 3)).alloc (.cells #[.int .i64 y, .int .i64 0, .int .i64 0] 81) = W3 at *
        have hb0 := cell_new_l W3 (.int .i64 y) 3
        rw [hs3] at hb0
        have hV3 := hV.mono hx3.ple
        replace oR := oR.alloc (.cells #[.int .i64 y] 3)
        replace oD := oD.alloc (.cells #[.int .i64 y] 3)
        replace oO := oO.alloc (.cells #[.int .i64 y] 3)
        refine wpIn_rangeFunc_ownF rfl (by omega) (gf := 117) (lb := #[.pointer (some ⟨wr.heap.size + 2, 0, none⟩)]) rfl trivial (enters_of Tryz.func117 (by kernel_rfl) rfl)
          (encs := fun x : Fin 12 => #[.int .i64 ((x.val : Int) + 1), .int .i64 (dayM y x.val)]) (Kp := KB w.heap.size (wr.heap.size + 2)) (S := fun ys => ys = List.finRange 12) (Sp := fun _ => True) (N := 12)
          (w0 := W3.alloc (.cells #[.int .i64 y] 3))
          ?seq KB.then (KB.put (by simp; omega) (by simp; omega)) (Below.refl _ _) (fun _ => rfl)
          (fun pre W => (Own W wr.heap.size #[.int .i64 rest] 3 ∧ Own W (wr.heap.size + 1) #[.int .i64 y, .int .i64 (accD y rest pre).1, .int .i64 (accD y rest pre).2] 81 ∧ Own W w.heap.size #[.int .i64 0, .int .i64 0, .int .i64 0] 81) ∧ Below w.heap.size w W)
          (fun _ _ _ => False)
          (OwnFrom.and (Own.from (fun s A B row hs hg hr => ⟨own_kept hs.1 hg hr, own_kept hs.2.1 hg hr, own_kept hs.2.2 hg hr⟩) _) (ownFrom_below (Nat.le_refl _) (by simp; omega)))
          (fun _ _ _ _ _ hs _ _ => hs)
          ⟨⟨oR, oD, oO⟩, Below.alloc hx3 (by omega) _⟩
          ?a1 ?assign ?body ?done ?stop
        case assign =>
          intro l x W K hK
          gi_wp2
          exact hK
        case seq =>
          intro l J Jx W hW _ _ hY h0
          refine months_in 4 l (wr.heap.size + 2) w.heap.size y (by omega) (by omega) (by omega) J Jx hY W ?_ h0 |>.mono ?_
          rotate_left
          · rintro e W' ⟨h1, ⟨ys, h2, h3⟩ | ⟨pre, h2⟩⟩
            · exact ⟨h1, .inl ⟨ys, h2, h3⟩⟩
            · exact ⟨h1, .inr ⟨pre, trivial, h2⟩⟩
          intro wr' hkb
          exact ⟨hkb.2.trans ((hW.cell (p := ⟨_, 0, none⟩) (by simp; omega)).trans hb0.1), (hV3.mono (Ext.ple ((Ext.new W3 _).then hW))).below hkb.1 hwV⟩
        case body =>
          rintro l pre x W ⟨⟨o1, o2, o3⟩, hB⟩ hlen
          have hx := dayM_372 y x
          have hs := Lib.hid (accD_snoc y rest pre x)
          obtain ⟨c1, f1⟩ := o1.facts
          obtain ⟨c2, f2⟩ := o2.facts
          have l1 := o1.lt
          have l2 := o2.lt
          by_cases e : dayM y x.val ≤ rest
          · have hs2 : Hid (accD y rest (pre ++ [x]) = ((x.val : Int) + 1, rest - dayM y x.val + 1)) := by show _ = _; rw [hs.out, if_pos e]
            clear hs
            have FIN : ∀ W : World, (Own W wr.heap.size #[.int .i64 rest] 3 ∧ Own W (wr.heap.size + 1) #[.int .i64 y, .int .i64 (accD y rest pre).1, .int .i64 (accD y rest pre).2] 81 ∧ Own W w.heap.size #[.int .i64 0, .int .i64 0, .int .i64 0] 81) → Below w.heap.size w W →
                KeepsOthers W ((W.drew.setCell ⟨wr.heap.size + 1, 1, none⟩ (.int .i64 ((x.val : Int) + 1))).setCell ⟨wr.heap.size + 1, 2, none⟩ (.int .i64 (rest - dayM y x.val + 1))) ∧
                KB w.heap.size (wr.heap.size + 2) W ((W.drew.setCell ⟨wr.heap.size + 1, 1, none⟩ (.int .i64 ((x.val : Int) + 1))).setCell ⟨wr.heap.size + 1, 2, none⟩ (.int .i64 (rest - dayM y x.val + 1))) ∧
                ((Own ((W.drew.setCell ⟨wr.heap.size + 1, 1, none⟩ (.int .i64 ((x.val : Int) + 1))).setCell ⟨wr.heap.size + 1, 2, none⟩ (.int .i64 (rest - dayM y x.val + 1))) wr.heap.size #[.int .i64 rest] 3 ∧
                  Own ((W.drew.setCell ⟨wr.heap.size + 1, 1, none⟩ (.int .i64 ((x.val : Int) + 1))).setCell ⟨wr.heap.size + 1, 2, none⟩ (.int .i64 (rest - dayM y x.val + 1))) (wr.heap.size + 1) #[.int .i64 y, .int .i64 (accD y rest (pre ++ [x])).1, .int .i64 (accD y rest (pre ++ [x])).2] 81 ∧
                  Own ((W.drew.setCell ⟨wr.heap.size + 1, 1, none⟩ (.int .i64 ((x.val : Int) + 1))).setCell ⟨wr.heap.size + 1, 2, none⟩ (.int .i64 (rest - dayM y x.val + 1))) w.heap.size #[.int .i64 0, .int .i64 0, .int .i64 0] 81) ∧
                  Below w.heap.size w ((W.drew.setCell ⟨wr.heap.size + 1, 1, none⟩ (.int .i64 ((x.val : Int) + 1))).setCell ⟨wr.heap.size + 1, 2, none⟩ (.int .i64 (rest - dayM y x.val + 1)))) := by
              rintro W ⟨o1, o2, o3⟩ hB
              have hg : w.heap.size ≤ wr.heap.size + 1 := by omega
              have hb' : Below w.heap.size W ((W.drew.setCell ⟨wr.heap.size + 1, 1, none⟩ (.int .i64 ((x.val : Int) + 1))).setCell ⟨wr.heap.size + 1, 2, none⟩ (.int .i64 (rest - dayM y x.val + 1))) := ((Below.drew (Below.refl w.heap.size W)).setCell (p := ⟨wr.heap.size + 1, 1, none⟩) hg _).setCell (p := ⟨wr.heap.size + 1, 2, none⟩) hg _
              refine ⟨((KeepsOthers.drew W).trans (KeepsOthers.setCell _ _ _)).trans (KeepsOthers.setCell _ _ _), ⟨hb', ?_⟩, ⟨(o1.drew.setOther (by simp) _).setOther (by simp) _, ?_, (o3.drew.setOther (by simp; omega) _).setOther (by simp; omega) _⟩, hB.trans hb'⟩
              · rw [cell_set_other (by simp), cell_set_other (by simp)]; rfl
              · have h := (o2.drew.set 1 (.int .i64 ((x.val : Int) + 1))).set 2 (.int .i64 (rest - dayM y x.val + 1))
                rw [hs2.out]
                exact h
            have hw1 : IntKind.i64.wrap (rest - dayM y x.val) = rest - dayM y x.val := by rw [IntKind.wrap_i64]; omega
            have hw2 : IntKind.i64.wrap (rest - dayM y x.val + 1) = rest - dayM y x.val + 1 := by rw [IntKind.wrap_i64]; omega
            gi_wp2
            (refine wpIn_region_any (by kernel_rfl) (wpAny_in (noDefer_of (by kernel_rfl)) _ _ _ _ ?_); change wpAny _ _ _ _ _ _ _ (World.drew _))
            (refine wpAny_take (i := 0) (v := ?_) rfl (by kernel_rfl) (by kernel_rfl) (by kernel_rfl) (fun _ _ _ h => h) (Or.inl ⟨by rfl, ?_⟩) ?_; rotate_left; (focus ((intro w; go_simp); try (with_reducible rfl))); (try simp only [Act.put, List.setIfInBounds_toArray, List.set_cons_zero, List.set_cons_succ]))
            (refine wpAny_take (i := 2) (v := ?_) rfl (by kernel_rfl) (by kernel_rfl) (by kernel_rfl) (fun _ _ _ h => h) (Or.inl ⟨by rfl, ?_⟩) ?_; rotate_left; (focus ((intro w; go_simp); try (with_reducible rfl))); (try simp only [Act.put, List.setIfInBounds_toArray, List.set_cons_zero, List.set_cons_succ]))
            (refine wpAny_take (i := 5) (v := ?_) rfl (by kernel_rfl) (by kernel_rfl) (by kernel_rfl) (fun _ _ _ h => h) (Or.inl ⟨by rfl, ?_⟩) ?_; rotate_left; (focus ((intro w; go_simp); try (with_reducible rfl))); (try simp only [Act.put, List.setIfInBounds_toArray, List.set_cons_zero, List.set_cons_succ]))
            (refine wpAny_ready (rs := [1, 6]) (by kernel_rfl) (by simp) ?_; refine AllReady.cons rfl (fun K hK => ?_) (AllReady.cons rfl (fun K hK => ?_) AllReady.nil); (focus (go_simp; refine hK _ _ ?_; clear hK K)); rotate_left; (focus (go_simp; refine hK _ _ ?_; clear hK K)); rotate_left)
            · (refine wpAny_take (i := 3) (v := ?_) rfl (by kernel_rfl) (by kernel_rfl) (by kernel_rfl) (fun _ _ _ h => h) (Or.inl ⟨by rfl, ?_⟩) ?_; rotate_left; (focus ((intro w; go_simp); try (with_reducible rfl))); (try simp only [Act.put, List.setIfInBounds_toArray, List.set_cons_zero, List.set_cons_succ]))
              (refine wpAny_take (i := 4) (v := ?_) rfl (by kernel_rfl) (by kernel_rfl) (by kernel_rfl) (fun _ _ _ h => h) (Or.inl ⟨by rfl, ?_⟩) ?_; rotate_left; (focus ((intro w; go_simp); try (with_reducible rfl))); (try simp only [Act.put, List.setIfInBounds_toArray, List.set_cons_zero, List.set_cons_succ]))
              (refine wpAny_ready (rs := [6]) (by kernel_rfl) (by simp) ?_; refine AllReady.cons rfl (fun K hK => ?_) AllReady.nil; go_simp; refine hK _ _ ?_; clear hK K)
              (refine wpAny_take (i := 7) (v := ?_) rfl (by kernel_rfl) (by kernel_rfl) (by kernel_rfl) (fun _ _ _ h => h) (Or.inl ⟨by rfl, ?_⟩) ?_; rotate_left; (focus ((intro w; go_simp); try (with_reducible rfl))); (try simp only [Act.put, List.setIfInBounds_toArray, List.set_cons_zero, List.set_cons_succ]))
              (refine wpAny_ready (rs := [8]) (by kernel_rfl) (by simp) ?_; refine AllReady.cons rfl (fun K hK => ?_) AllReady.nil; go_simp; refine hK _ _ ?_; clear hK K)
              refine wpAny_done (by kernel_rfl) ?_ _
              show Exit.inBlock 3 _ .normal _ _
              gi_wp2
              exact FIN W ⟨o1, o2, o3⟩ hB
            · (refine wpAny_ready (rs := [1]) (by kernel_rfl) (by simp) ?_; refine AllReady.cons rfl (fun K hK => ?_) AllReady.nil; go_simp; refine hK _ _ ?_; clear hK K)
              (refine wpAny_take (i := 3) (v := ?_) rfl (by kernel_rfl) (by kernel_rfl) (by kernel_rfl) (fun _ _ _ h => h) (Or.inl ⟨by rfl, ?_⟩) ?_; rotate_left; (focus ((intro w; go_simp); try (with_reducible rfl))); (try simp only [Act.put, List.setIfInBounds_toArray, List.set_cons_zero, List.set_cons_succ]))
              (refine wpAny_take (i := 4) (v := ?_) rfl (by kernel_rfl) (by kernel_rfl) (by kernel_rfl) (fun _ _ _ h => h) (Or.inl ⟨by rfl, ?_⟩) ?_; rotate_left; (focus ((intro w; go_simp); try (with_reducible rfl))); (try simp only [Act.put, List.setIfInBounds_toArray, List.set_cons_zero, List.set_cons_succ]))
              (refine wpAny_take (i := 7) (v := ?_) rfl (by kernel_rfl) (by kernel_rfl) (by kernel_rfl) (fun _ _ _ h => h) (Or.inl ⟨by rfl, ?_⟩) ?_; rotate_left; (focus ((intro w; go_simp); try (with_reducible rfl))); (try simp only [Act.put, List.setIfInBounds_toArray, List.set_cons_zero, List.set_cons_succ]))
              (refine wpAny_ready (rs := [8]) (by kernel_rfl) (by simp) ?_; refine AllReady.cons rfl (fun K hK => ?_) AllReady.nil; go_simp; refine hK _ _ ?_; clear hK K)
              refine wpAny_done (by kernel_rfl) ?_ _
              show Exit.inBlock 3 _ .normal _ _
              gi_wp2
              exact FIN W ⟨o1, o2, o3⟩ hB
          · have hs2 : Hid (accD y rest (pre ++ [x]) = accD y rest pre) := by show _ = _; rw [hs.out, if_neg e]
            clear hs
            gi_wp2
            exact ⟨KeepsOthers.refl _, KB.rfl' _ _ _, ⟨o1, by rw [hs2.out]; exact o2, o3⟩, hB⟩
        case done =>
          rintro D xs W hD rfl ⟨⟨o1, o2, o3⟩, hB⟩ hK
          obtain ⟨g1, g2, g3, g4, g5⟩ := accD_all y rest r0 r1
          obtain ⟨c2, f2⟩ := o2.facts
          obtain ⟨c3, f3⟩ := o3.facts
          generalize accD y rest (List.finRange 12) = md at *
          obtain ⟨mm, dd⟩ := md
          replace g5 := Lib.hid g5
          dsimp only at g1 g2 g3 g4 c2 o2
          gi_wp2
          go_wp2_with fail
          have o4 := ((o3.set 0 (.int .i64 y)).set 1 (.int .i64 mm)).set 2 (.int .i64 dd)
          have b4 : Below w.heap.size w (((W.setCell ⟨w.heap.size, 0, none⟩ (.int .i64 y)).setCell ⟨w.heap.size, 1, none⟩ (.int .i64 mm)).setCell ⟨w.heap.size, 2, none⟩ (.int .i64 dd)) :=
            ((hB.setCell (p := ⟨w.heap.size, 0, none⟩) (Nat.le_refl _) _).setCell (p := ⟨w.heap.size, 1, none⟩) (Nat.le_refl _) _).setCell (p := ⟨w.heap.size, 2, none⟩) (Nat.le_refl _) _
          have hDw : wr.heap.size + 2 < D := by simp at hD; omega
          have k4 : (((W.setCell ⟨w.heap.size, 0, none⟩ (.int .i64 y)).setCell ⟨w.heap.size, 1, none⟩ (.int .i64 mm)).setCell ⟨w.heap.size, 2, none⟩ (.int .i64 dd)).heap[D]? = some (Obj.deferred (some [])) := by
            rw [Below.heap_setCell _ _ _ _ (show D ≠ w.heap.size by omega), Below.heap_setCell _ _ _ _ (show D ≠ w.heap.size by omega), Below.heap_setCell _ _ _ _ (show D ≠ w.heap.size by omega)]
            exact hK
          generalize ((W.setCell ⟨w.heap.size, 0, none⟩ (.int .i64 y)).setCell ⟨w.heap.size, 1, none⟩ (.int .i64 mm)).setCell ⟨w.heap.size, 2, none⟩ (.int .i64 dd) = W4 at *
          have b5 := belowK_b (w := wr) (Nat.le_refl _) W4 D _ (.deferred none) (by omega) k4 rfl rfl
          obtain ⟨c4, -⟩ := o4.facts
          have r0' := (b5.cell (p := ⟨w.heap.size, 0, none⟩) (show w.heap.size < wr.heap.size by omega)).trans (c4 0)
          have r1' := (b5.cell (p := ⟨w.heap.size, 1, none⟩) (show w.heap.size < wr.heap.size by omega)).trans (c4 1)
          have r2' := (b5.cell (p := ⟨w.heap.size, 2, none⟩) (show w.heap.size < wr.heap.size by omega)).trans (c4 2)
          simp at r0' r1' r2'
          refine ⟨by simp, .inl ⟨_, _, rfl, run_takeDeferred k4, ?_⟩⟩
          have hdv : dateV d = (y, mm, dd) := dateV_eq ⟨by omega, by omega, by omega, by omega, by omega, by have h1 := g5.out; have h2 := r3.out; omega⟩
          refine ⟨.tuple #[.agg #[.int .i64 y, .int .i64 mm, .int .i64 dd], .int .i64 0], by simp [results, Tryz.results93, go_sem, r0', r1', r2'], ?_⟩
          unfold DateP
          rw [hDE.out, hdv]
          exact ⟨rfl, b4.trans (b5.mono (by omega))⟩
        case stop =>
          rintro D c pre W _ _ h _
          exact h.elim
  · have hD : Hid (dateE d = ((0, 0, 0), 5)) := if_neg hr
    refine wpIn_wide.2 ?_
    go_wp2_with fail
    refine RetP_at (civilIn_c d 0 131072 _) ?_
    rw [inB_f hr]
    go_wp2_with fail
    exact ⟨.tuple #[.agg #[.int .i64 0, .int .i64 0, .int .i64 0], .int .i64 5], by simp [results, Tryz.results93, go_sem], by unfold DateP; rw [hD.out]; exact ⟨rfl, (by repeat (first | (with_reducible assumption) | (with_reducible exact Ext.rfl' _) | (with_reducible exact Ext.new _ _) | (with_reducible refine Ext.alloc' ?_ _) | (with_reducible refine Ext.drew' ?_) | (with_reducible refine Ext.drewN' ?_ _) | (with_reducible refine Ext.set' ?_ ?_ _; rotate_left; (focus (first | omega | (simp; done) | (simp; omega)))) | (with_reducible refine Ext.then (b := ?_) ?_ ?_; rotate_left; rotate_left; (with_reducible assumption))))⟩⟩
theorem date_c (d : Int) (w : World) (hV : VL (ph w)) : Calls Tryz.prog 93 #[.int .i64 d] w (DateP w d) := (callsIn_wide (n := 5)).1 (date_in d w hV)
end Go.Proofs.YtcmdekhhclgdcaaGreatDoor
namespace Go.Proofs.YtcmdekhhclgdcaaGreatDoor
open Go.RowKit Go.Shelf
set_option linter.unusedSimpArgs false
set_option linter.unusedVariables false
attribute [local go_sem] Oper.semAt_some
theorem isDate_ex (d : Int) (h0 : 0 ≤ d) : ∃ y m k, IsDate d y m k := by
  have hy : ∀ n : Nat, ∃ y : Int, 1900 ≤ y ∧ bef y - bef 1900 ≤ d ∧ (d < bef (y + 1) - bef 1900 ∨ y = 1900 + n) := by
    intro n
    induction n with
    | zero => exact ⟨1900, by omega, by omega, .inr (by omega)⟩
    | succ n ih =>
      obtain ⟨y, a, b, c | c⟩ := ih
      · exact ⟨y, a, b, .inl c⟩
      · by_cases h : d < bef (y + 1) - bef 1900
        · exact ⟨y, a, b, .inl h⟩
        · exact ⟨y + 1, by omega, by omega, .inr (by omega)⟩
  obtain ⟨y, a, b, c⟩ := hy d.toNat
  have hlt : d < bef (y + 1) - bef 1900 := by
    rcases c with c | c
    · exact c
    · have := bef_mono (a := 1900) (b := y + 1) (by omega)
      omega
  have e4 := bef_succ y
  have e5 := dayM_12 y
  obtain ⟨g1, g2, g3, g4, g5⟩ := accD_all y (d - bef y + bef 1900) (by omega) (by omega)
  exact ⟨y, _, _, a, g1, g2, g3, g4, by omega⟩
theorem dateV_is (d : Int) (h0 : 0 ≤ d) : IsDate d (dateV d).1 (dateV d).2.1 (dateV d).2.2 := by
  obtain ⟨y, m, k, h⟩ := isDate_ex d h0
  rw [dateV_eq h]; exact h
theorem IsDate.y1 {d y m k : Int} (h : IsDate d y m k) (hd : d ≤ 131072) : y ≤ 2300 := by
  have h1 := h.lo.1
  have := bef_mono (a := 1900) (b := y) h.y0
  omega
theorem lenM_bd (y m : Int) : 28 ≤ lenM y m ∧ lenM y m ≤ 31 := by
  unfold lenM
  repeat' split
  all_goals omega
set_option maxRecDepth 100000 in
set_option maxHeartbeats 2000000 in
theorem add_c (d many : Int) (w : World) (hV : VL (ph w)) : Calls Tryz.prog 72 #[.int .i64 d, .int .i64 many] w (RetV w (two (addV d many).1 (addV d many).2)) := by
  by_cases h1 : 0 ≤ d ∧ d ≤ 131072
  · by_cases h2 : 0 ≤ many ∧ many ≤ 12000
    · have hI := dateV_is d h1.1
      have hE : Hid (addV d many = if addD (dateV d) many ≤ 131072 then (addD (dateV d) many, 0) else (0, 5)) := by
        show _ = _
        unfold addV; rw [if_neg (by omega), if_neg (by omega)]
      have hDE : dateE d = (dateV d, 0) := if_pos h1
      have hDc := date_c d w hV
      unfold DateP at hDc
      rw [hDE] at hDc
      generalize dateV d = p at *
      obtain ⟨y, m, k⟩ := p
      dsimp only at hI hDc
      have hy := hI.y1 h1.2
      obtain ⟨hy0, hm0, hm1, hk0, hk1, -⟩ := hI
      have hlm := lenM_bd y m
      have hk2 : k ≤ 31 := by omega
      clear hk1 hlm hDE
      go_enter Tryz.func72, Tryz.ntmps72
      go_wp2_with fail
      refine hDc.mono ?_
      rintro e w1 ⟨rfl, hx1⟩
      go_wp2_with fail
      refine RetP_at (civilIn_c many 0 12000 _) ?_
      rw [inB_t h2]
      have hO := Own.new w1 #[.int .i64 y, .int .i64 m, .int .i64 k] 81
      have hxW : Ext w (w1.alloc (.cells #[.int .i64 y, .int .i64 m, .int .i64 k] 81)) := (by repeat (first | (with_reducible assumption) | (with_reducible exact Ext.rfl' _) | (with_reducible exact Ext.new _ _) | (with_reducible refine Ext.alloc' ?_ _) | (with_reducible refine Ext.drew' ?_) | (with_reducible refine Ext.drewN' ?_ _) | (with_reducible refine Ext.set' ?_ ?_ _; rotate_left; (focus (first | omega | (simp; done) | (simp; omega)))) | (with_reducible refine Ext.then (b := ?_) ?_ ?_; rotate_left; rotate_left; (with_reducible assumption))))
      have hg : w.heap.size ≤ w1.heap.size := hx1.size
      have hsz : w1.heap.size < (w1.alloc (.cells #[.int .i64 y, .int .i64 m, .int .i64 k] 81)).heap.size := by simp
      generalize w1.alloc _ = W at *
      obtain ⟨oc, of⟩ := hO.facts
      have w1' : IntKind.i64.wrap (12 * y) = 12 * y := by rw [IntKind.wrap_i64]; omega
      have w2' : IntKind.i64.wrap (12 * y + m) = 12 * y + m := by rw [IntKind.wrap_i64]; omega
      have w3' : IntKind.i64.wrap (12 * y + m - 1) = 12 * y + m - 1 := by rw [IntKind.wrap_i64]; omega
      have w4' : IntKind.i64.wrap (12 * y + m - 1 + many) = 12 * y + m - 1 + many := by rw [IntKind.wrap_i64]; omega
      go_wp2_with fail
      clear w1' w2' w3' w4' oc of
      have hyy : 1900 ≤ (12 * y + m - 1 + many) / 12 ∧ (12 * y + m - 1 + many) / 12 ≤ 3400 := by omega
      have hmm : 1 ≤ (12 * y + m - 1 + many) % 12 + 1 ∧ (12 * y + m - 1 + many) % 12 + 1 ≤ 12 := by omega
      have hAD : addD (y, m, k) many = numV ((12 * y + m - 1 + many) / 12) ((12 * y + m - 1 + many) % 12 + 1) (min k (lenM ((12 * y + m - 1 + many) / 12) ((12 * y + m - 1 + many) % 12 + 1))) := rfl
      rw [hAD] at hE
      clear hAD hm0 hm1
      generalize 12 * y + m - 1 + many = all at *
      have o2 := (hO.set 0 (.int .i64 (all / 12))).set 1 (.int .i64 (all % 12 + 1))
      have x2 : Ext w ((W.setCell ⟨w1.heap.size, 0, none⟩ (.int .i64 (all / 12))).setCell ⟨w1.heap.size, 1, none⟩ (.int .i64 (all % 12 + 1))) :=
        (hxW.setCell (p := ⟨w1.heap.size, 0, none⟩) hg _).setCell (p := ⟨w1.heap.size, 1, none⟩) hg _
      generalize (W.setCell ⟨w1.heap.size, 0, none⟩ (.int .i64 (all / 12))).setCell ⟨w1.heap.size, 1, none⟩ (.int .i64 (all % 12 + 1)) = W2 at *
      generalize all / 12 = yy at *
      obtain ⟨mm, hM⟩ : ∃ mm : Nat, all % 12 + 1 = (mm : Int) := ⟨(all % 12 + 1).toNat, by omega⟩
      rw [hM] at hmm hE o2 ⊢
      obtain ⟨q1, q2⟩ := hyy
      obtain ⟨q3, q4⟩ := hmm
      have hlm := lenM_bd yy mm
      have hLV : lenV yy mm = (lenM yy mm, 0) := if_pos ⟨q3, q4⟩
      have hV2 := hV.mono x2.ple
      refine RetP_at (length_c yy mm _ hV2 (by omega) (by omega)) ?_
      rw [hLV]
      clear hLV
      generalize lenM yy mm = L at *
      dsimp only [two]
      obtain ⟨oc, of⟩ := o2.facts
      simp only [Array.setIfInBounds, Array.set, List.size_toArray, List.length_cons, List.length_nil, List.set_cons_zero, List.set_cons_succ] at oc o2
      by_cases hkl : k ≤ L
      · rw [show min k L = k by omega] at hE
        go_wp2_with fail
        have x3 : Ext w (W2.setCell ⟨w1.heap.size, 2, none⟩ (.int .i64 k)) := x2.setCell (p := ⟨w1.heap.size, 2, none⟩) hg _
        refine RetV_at (number_c yy k mm _ (hV.mono x3.ple) (by omega) (by omega) (by omega) (by omega) (by omega) (by omega)) ?_
        intro w4 hx4
        have x4 := x3.then hx4
        generalize numV yy mm k = z at *
        clear hV2 hx4 x3 x2 hxW oc of o2 hO
        by_cases hz : z ≤ 131072
        · have hE2 : Hid (addV d many = (z, 0)) := by show _ = _; rw [hE.out, if_pos hz]
          clear hE
          go_wp2_with fail
          go_ret2
          rw [hE2.out]
          exact ⟨rfl, x4⟩
        · have hE2 : Hid (addV d many = (0, 5)) := by show _ = _; rw [hE.out, if_neg hz]
          clear hE
          go_wp2_with fail
          go_ret2
          rw [hE2.out]
          exact ⟨rfl, x4⟩
      · rw [show min k L = L by omega] at hE
        go_wp2_with fail
        have x3 : Ext w (W2.setCell ⟨w1.heap.size, 2, none⟩ (.int .i64 L)) := x2.setCell (p := ⟨w1.heap.size, 2, none⟩) hg _
        refine RetV_at (number_c yy L mm _ (hV.mono x3.ple) (by omega) (by omega) (by omega) (by omega) (by omega) (by omega)) ?_
        intro w4 hx4
        have x4 := x3.then hx4
        generalize numV yy mm L = z at *
        clear hV2 hx4 x3 x2 hxW oc of o2 hO
        by_cases hz : z ≤ 131072
        · have hE2 : Hid (addV d many = (z, 0)) := by show _ = _; rw [hE.out, if_pos hz]
          clear hE
          go_wp2_with fail
          go_ret2
          rw [hE2.out]
          exact ⟨rfl, x4⟩
        · have hE2 : Hid (addV d many = (0, 5)) := by show _ = _; rw [hE.out, if_neg hz]
          clear hE
          go_wp2_with fail
          go_ret2
          rw [hE2.out]
          exact ⟨rfl, x4⟩
    · have hE : Hid (addV d many = (0, 1)) := by show _ = _; unfold addV; rw [if_neg (by omega), if_pos (by omega)]
      have hDE : dateE d = (dateV d, 0) := if_pos h1
      have hDc := date_c d w hV
      unfold DateP at hDc
      rw [hDE] at hDc
      generalize dateV d = p at *
      clear hDE
      go_enter Tryz.func72, Tryz.ntmps72
      go_wp2_with fail
      refine hDc.mono ?_
      rintro e w1 ⟨rfl, hx1⟩
      go_wp2_with fail
      refine RetP_at (civilIn_c many 0 12000 _) ?_
      rw [inB_f h2]
      have hxW : Ext w (w1.alloc (.cells #[.int .i64 p.1, .int .i64 p.2.1, .int .i64 p.2.2] 81)) := (by repeat (first | (with_reducible assumption) | (with_reducible exact Ext.rfl' _) | (with_reducible exact Ext.new _ _) | (with_reducible refine Ext.alloc' ?_ _) | (with_reducible refine Ext.drew' ?_) | (with_reducible refine Ext.drewN' ?_ _) | (with_reducible refine Ext.set' ?_ ?_ _; rotate_left; (focus (first | omega | (simp; done) | (simp; omega)))) | (with_reducible refine Ext.then (b := ?_) ?_ ?_; rotate_left; rotate_left; (with_reducible assumption))))
      generalize w1.alloc _ = W at *
      go_wp2_with fail
      go_ret2
      rw [hE.out]
      exact ⟨rfl, hxW⟩
  · have hE : Hid (addV d many = (0, 5)) := by show _ = _; unfold addV; rw [if_pos (by omega)]
    have hDE : dateE d = ((0, 0, 0), 5) := if_neg h1
    have hDc := date_c d w hV
    unfold DateP at hDc
    rw [hDE] at hDc
    clear hDE
    go_enter Tryz.func72, Tryz.ntmps72
    go_wp2_with fail
    refine hDc.mono ?_
    rintro e w1 ⟨rfl, hx1⟩
    dsimp only
    go_wp2_with fail
    go_ret2
    rw [hE.out]
    exact ⟨rfl, (by repeat (first | (with_reducible assumption) | (with_reducible exact Ext.rfl' _) | (with_reducible exact Ext.new _ _) | (with_reducible refine Ext.alloc' ?_ _) | (with_reducible refine Ext.drew' ?_) | (with_reducible refine Ext.drewN' ?_ _) | (with_reducible refine Ext.set' ?_ ?_ _; rotate_left; (focus (first | omega | (simp; done) | (simp; omega)))) | (with_reducible refine Ext.then (b := ?_) ?_ ?_; rotate_left; rotate_left; (with_reducible assumption))))⟩
end Go.Proofs.YtcmdekhhclgdcaaGreatDoor
