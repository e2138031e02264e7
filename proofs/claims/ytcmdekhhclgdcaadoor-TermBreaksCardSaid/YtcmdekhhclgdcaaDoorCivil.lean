/- package civil: in, Leap, Length, before, Weekday. -/
import Derived.Test.YtcmdekhhclgdcaaDoorCivilLaw
namespace Go.Proofs.YtcmdekhhclgdcaaDoor
open Go.RowKit
set_option linter.unusedSimpArgs false
set_option linter.unusedVariables false
theorem RetV_at {P : Program} {f : FuncId} {args : Array Value} {w : World} {v : Value} {K : Ending → World → Prop} (h : Calls P f args w (RetV w v)) (hK : ∀ w', Ext w w' → K (.returned v) w') : Calls P f args w K :=
  h.mono fun e w' ⟨h1, h2⟩ => by subst h1; exact hK w' h2
/-- a call that returns one value and leaves the world alone -/
def RetP (w : World) (v : Value) (e : Ending) (w' : World) : Prop := e = .returned v ∧ w = w'
theorem RetP_at {P : Program} {f : FuncId} {args : Array Value} {w : World} {v : Value} {K : Ending → World → Prop} (h : Calls P f args w (RetP w v)) (hK : K (.returned v) w) : Calls P f args w K :=
  h.mono fun e w' ⟨h1, h2⟩ => by subst h1 h2; exact hK
theorem RetP.v {P : Program} {f : FuncId} {args : Array Value} {w : World} {v : Value} (h : Calls P f args w (RetP w v)) : Calls P f args w (RetV w v) :=
  h.mono fun e w' ⟨h1, h2⟩ => by subst h2; exact ⟨h1, Ext.rfl' _⟩
abbrev two (a b : Int) : Value := .tuple #[.int .i64 a, .int .i64 b]
def inB (n lo hi : Int) : Bool := decide (lo ≤ n) && decide (n ≤ hi)
theorem inB_t {n lo hi : Int} (h : lo ≤ n ∧ n ≤ hi) : inB n lo hi = true := by unfold inB; simp [h]
theorem inB_f {n lo hi : Int} (h : ¬ (lo ≤ n ∧ n ≤ hi)) : inB n lo hi = false := by unfold inB; simp; omega
theorem inB_iff {n lo hi : Int} : inB n lo hi = true ↔ lo ≤ n ∧ n ≤ hi := by unfold inB; simp
theorem civilIn_c (n lo hi : Int) (w : World) : Calls Tryd.prog 62 #[.int .i64 n, .int .i64 lo, .int .i64 hi] w (RetP w (.bool (inB n lo hi))) := by
  by_cases h1 : lo ≤ n
  · by_cases h2 : n ≤ hi
    · have h := inB_t ⟨h1, h2⟩
      rw [h]; clear h
      go_enter Tryd.func62, Tryd.ntmps62
      go_wp2_with fail
      go_ret
      exact ⟨rfl, rfl⟩
    · have h : inB n lo hi = false := inB_f (by omega)
      rw [h]; clear h
      go_enter Tryd.func62, Tryd.ntmps62
      go_wp2_with fail
      go_ret
      exact ⟨rfl, rfl⟩
  · have h : inB n lo hi = false := inB_f (by omega)
    rw [h]; clear h
    have hd : decide (lo ≤ n) = false := by simpa using h1
    go_enter Tryd.func62, Tryd.ntmps62
    go_wp2_with fail
    go_ret
    exact ⟨rfl, rfl⟩
theorem tmod_eq {a b : Int} (h : 0 ≤ a) (hb : 0 ≤ b) : a.tmod b = a % b := Int.tmod_eq_emod_of_nonneg h
theorem leap_c (y : Int) (w : World) (h0 : 0 ≤ y) (h1 : y ≤ 1000000) : Calls Tryd.prog 88 #[.int .i64 y] w (RetP w (.bool (leapB y))) := by
  go_enter Tryd.func88, Tryd.ntmps88
  go_wp2_with fail
  all_goals
    go_ret
    exact ⟨ret_bool (by rw [Bool.eq_iff_iff, leapB_iff]; simp <;> omega), rfl⟩
/-- the table of the lengths of months lies in memory -/
def lenT : Array Value := #[.int .i64 31, .int .i64 28, .int .i64 31, .int .i64 30, .int .i64 31, .int .i64 30, .int .i64 31, .int .i64 31, .int .i64 30, .int .i64 31, .int .i64 30, .int .i64 31]
def VL (h : PH) : Prop := ∀ j u, lenT[j]? = some u → cellAt h 1 j = some u
theorem VL.mono {h h' : PH} (v : VL h) (l : PLe h h') : VL h' := fun j u hu => cellAt_mono l (v j u hu)
theorem lenT_at (m : Nat) (h1 : 1 ≤ m) (h2 : m ≤ 12) : lenT[m - 1]? = some (.int .i64 (if m = 2 then 28 else if m = 4 ∨ m = 6 ∨ m = 9 ∨ m = 11 then 30 else 31)) := by
  match m, h1, h2 with
  | 1, _, _ => rfl
  | 2, _, _ => rfl
  | 3, _, _ => rfl
  | 4, _, _ => rfl
  | 5, _, _ => rfl
  | 6, _, _ => rfl
  | 7, _, _ => rfl
  | 8, _, _ => rfl
  | 9, _, _ => rfl
  | 10, _, _ => rfl
  | 11, _, _ => rfl
  | 12, _, _ => rfl
/-- Length: the number and the error -/
def lenV (y m : Int) : Int × Int := if 1 ≤ m ∧ m ≤ 12 then (lenM y m, 0) else (0, 1)
theorem length_c (y m : Int) (w : World) (hV : VL (ph w)) (h0 : 0 ≤ y) (h1 : y ≤ 1000000) :
    Calls Tryd.prog 63 #[.int .i64 y, .int .i64 m] w (RetP w (two (lenV y m).1 (lenV y m).2)) := by
  by_cases hm : 1 ≤ m ∧ m ≤ 12
  · have hv : lenV y m = (lenM y m, 0) := if_pos hm
    rw [hv]
    obtain ⟨k, rfl⟩ : ∃ k : Nat, m = k := ⟨m.toNat, by omega⟩
    by_cases h2 : k = 2
    · subst h2
      have hl : lenM y ((2 : Nat) : Int) = if leapB y then 29 else 28 := if_pos rfl
      have hc := hV 1 _ (lenT_at 2 (by omega) (by omega))
      rw [← cell_ph] at hc
      simp only [if_true] at hc
      simp only []
      generalize lenM y ((2 : Nat) : Int) = z at *
      replace hl := Lib.hid hl
      clear hv
      go_enter Tryd.func63, Tryd.ntmps63
      go_wp2_with fail
      refine RetP_at (civilIn_c _ 1 12 _) ?_
      rw [inB_t (by omega)]
      go_wp2_with fail
      refine RetP_at (leap_c y _ h0 h1) ?_
      cases hb : leapB y with
      | true =>
        have hz : Hid (z = 29) := by show _ = _; rw [hl.out, hb]; rfl
        clear hb
        go_wp2_with fail
        exact bodyPost_ret (v := .tuple #[.int .i64 29, .int .i64 0]) (by simp [results, Tryd.results63, go_sem]) rfl ⟨by rw [hz.out], rfl⟩
      | false =>
        have hz : Hid (z = 28) := by show _ = _; rw [hl.out, hb]; rfl
        clear hb
        go_wp2_with fail
        exact bodyPost_ret (v := .tuple #[.int .i64 28, .int .i64 0]) (by simp [results, Tryd.results63, go_sem]) rfl ⟨by rw [hz.out], rfl⟩
    · have hl : lenM y k = if k = 4 ∨ k = 6 ∨ k = 9 ∨ k = 11 then 30 else 31 := by
        unfold lenM
        rw [if_neg (by omega)]
        by_cases h : k = 4 ∨ k = 6 ∨ k = 9 ∨ k = 11
        · rw [if_pos h, if_pos (by omega)]
        · rw [if_neg h, if_neg (by omega)]
      have hc := hV (k - 1) _ (lenT_at k (by omega) (by omega))
      rw [← cell_ph, if_neg h2, ← hl] at hc
      clear hl
      generalize lenM y k = z at *
      have hk2 : ((k : Int) == 2) = false := by rw [beq_eq_false_iff_ne]; omega
      have hs1 : ((k : Int) - 1).toNat = k - 1 := by omega
      go_enter Tryd.func63, Tryd.ntmps63
      go_wp2_with fail
      refine RetP_at (civilIn_c _ 1 12 _) ?_
      rw [inB_t (by omega)]
      go_wp2_with fail
      exact bodyPost_ret (v := .tuple #[.int .i64 z, .int .i64 0]) (by simp [results, Tryd.results63, go_sem]) rfl ⟨rfl, rfl⟩
  · have hv : lenV y m = (0, 1) := if_neg hm
    rw [hv]
    go_enter Tryd.func63, Tryd.ntmps63
    go_wp2_with fail
    refine RetP_at (civilIn_c _ 1 12 _) ?_
    rw [inB_f hm]
    go_wp2_with fail
    exact bodyPost_ret (v := .tuple #[.int .i64 0, .int .i64 1]) (by simp [results, Tryd.results63, go_sem]) rfl ⟨rfl, rfl⟩
theorem before_c (y : Int) (w : World) (h0 : 1 ≤ y) (h1 : y ≤ 1000000) : Calls Tryd.prog 86 #[.int .i64 y] w (RetP w (.int .i64 (bef y))) := by
  go_enter Tryd.func86, Tryd.ntmps86
  go_wp2_with fail
  go_ret
  exact ⟨ret_int (by unfold bef; first | rfl | omega), rfl⟩
def wkV (d : Int) : Int × Int := if 0 ≤ d ∧ d ≤ 131072 then (d % 7, 0) else (0, 5)
theorem weekday_c (d : Int) (w : World) : Calls Tryd.prog 82 #[.int .i64 d] w (RetP w (two (wkV d).1 (wkV d).2)) := by
  by_cases h : 0 ≤ d ∧ d ≤ 131072
  · rw [show wkV d = (d % 7, 0) from if_pos h]
    go_enter Tryd.func82, Tryd.ntmps82
    go_wp2_with fail
    refine RetP_at (civilIn_c _ 0 131072 _) ?_
    rw [inB_t h]
    go_wp2_with fail
    exact bodyPost_ret (v := .tuple #[.int .i64 (d % 7), .int .i64 0]) (by simp [results, Tryd.results82, go_sem]) rfl ⟨rfl, rfl⟩
  · rw [show wkV d = (0, 5) from if_neg h]
    go_enter Tryd.func82, Tryd.ntmps82
    go_wp2_with fail
    refine RetP_at (civilIn_c _ 0 131072 _) ?_
    rw [inB_f h]
    go_wp2_with fail
    exact bodyPost_ret (v := .tuple #[.int .i64 0, .int .i64 5]) (by simp [results, Tryd.results82, go_sem]) rfl ⟨rfl, rfl⟩
end Go.Proofs.YtcmdekhhclgdcaaDoor
