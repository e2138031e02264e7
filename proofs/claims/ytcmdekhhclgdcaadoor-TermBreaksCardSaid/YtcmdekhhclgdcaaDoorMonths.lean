/- package civil: months, the iterator. -/
import Derived.RangeFuncNested
import Derived.RangeFuncBound
import Derived.RangeFuncCalls
import Derived.RangeFuncLeaves
import Derived.Shelf.Abstract
import Derived.Shelf.RegionOpen
import Derived.OwnWalkIn
import Derived.TacticsInMore
import Derived.LoopNIn
import Derived.LoopIn
import Derived.RangeFuncFrom
import Derived.Test.YtcmdekhhclgdcaaDoorCivil
import Derived.Test.YtcmdekhhclgdcaaDoorOwnS
namespace Go.Proofs.YtcmdekhhclgdcaaDoor
open Go.RowKit Go.Shelf
set_option linter.unusedSimpArgs false
set_option linter.unusedVariables false
attribute [local go_sem] Oper.semAt_some
/-- what a round keeps: all below n₀, and the iterator's own box -/
def KB (n₀ Bs : Nat) (W W' : World) : Prop := Below n₀ W W' ∧ W'.cell? ⟨Bs, 0, none⟩ = W.cell? ⟨Bs, 0, none⟩
theorem KB.rfl' (n₀ Bs : Nat) (W : World) : KB n₀ Bs W W := ⟨Below.refl _ _, rfl⟩
theorem KB.then {n₀ Bs : Nat} {A B C : World} (h : KB n₀ Bs A B) (k : KB n₀ Bs B C) : KB n₀ Bs A C := ⟨h.1.trans k.1, k.2.trans h.2⟩
/-- the first k months -/
def monthsTo (k : Nat) : List (Fin 12) := (List.finRange 12).take k
theorem monthsTo_succ {k : Nat} (h : k < 12) : monthsTo (k + 1) = monthsTo k ++ [⟨k, h⟩] := by
  unfold monthsTo
  rw [List.take_succ_eq_append_getElem (by simpa using h)]
  simp
theorem monthsTo_len {k : Nat} (h : k ≤ 12) : (monthsTo k).length = k := by simp [monthsTo]; omega
theorem monthsTo_all : monthsTo 12 = List.finRange 12 := by unfold monthsTo; rw [List.take_of_length_le (by simp)]
def seqPost {α : Type} (zs : List α) (J Jx : List α → World → Prop) (e : Ending) (W' : World) : Prop := (∃ v, e = .returned v) ∧ ((∃ ys, ys = zs ∧ J ys W') ∨ (∃ pre, Jx pre W'))
theorem months_p (y : Int) (w : World) : Calls Tryd.prog 87 #[.int .i64 y] w fun e w' => e = .returned (.func (.func 109) #[] #[.pointer (some ⟨w.heap.size, 0, none⟩)]) ∧ w' = w.alloc (.cells #[.int .i64 y] 3) := by
  go_enter Tryd.func87, Tryd.ntmps87
  go_wp2_with fail
  go_ret
  exact ⟨rfl, rfl⟩
set_option maxRecDepth 100000 in
set_option maxHeartbeats 1000000 in
theorem months_in (n l Bs n₀ : Nat) (y : Int) (hn : 2 ≤ n) (hy0 : 0 ≤ y) (hy1 : y ≤ 1000000) (J Jx : List (Fin 12) → World → Prop)
    (hY : ∀ pre x W, J pre W → pre.length < 12 → YieldAt Fence.wide (n - 1) Tryd.prog l #[.int .i64 ((x.val : Int) + 1), .int .i64 (dayM y x.val)] W fun e W' =>
      (e = .returned (.bool true) ∧ J (pre ++ [x]) W' ∧ KB n₀ Bs W W') ∨ (e = .returned (.bool false) ∧ Jx (pre ++ [x]) W'))
    (W : World) (hZ : ∀ wr, KB n₀ Bs W wr → wr.cell? ⟨Bs, 0, none⟩ = some (.int .i64 y) ∧ VL (ph wr)) (h0 : J [] W) :
    CallsIn Fence.wide n Tryd.prog 109 #[.func (.yield l) #[] #[], .pointer (some ⟨Bs, 0, none⟩)] W (seqPost (List.finRange 12) J Jx) := by
  refine callsIn_of_wp Tryd.func109 rfl trivial ?_ rfl
  simp only [Tryd.ntmps109, List.size_toArray, List.length_cons, List.length_nil, Nat.reduceAdd, Nat.reduceSub, Array.replicate_succ, Array.replicate_zero, List.push_toArray, List.append_toArray, List.nil_append, List.cons_append]
  replace hZ := Lib.hid hZ
  replace hY := Lib.hid hY
  have hn1 : 1 ≤ n := by omega
  gi_wp2
  gi_loopw [3, 4] (fun d i wr => ∃ k : Nat, k ≤ 12 ∧ i = .int .i64 ((k : Int) + 1) ∧ d = .int .i64 (dayM y k) ∧ J (monthsTo k) wr ∧ KB n₀ Bs W wr) (fun _ i _ => 13 - (intOf i).toNat)
  case atStart => exact ⟨0, by omega, rfl, rfl, h0, KB.rfl' _ _ _⟩
  case round =>
    obtain ⟨k, hk, rfl, rfl, hJ, hkb⟩ := hrel
    obtain ⟨hc, hV⟩ := hZ.out wr hkb
    have hdm := dayM_ge y k
    by_cases hlt : k < 12
    · have hs := Lib.hid (monthsTo_succ hlt)
      obtain ⟨fn, tmps, assign, body, hy, hYR⟩ := hY.out _ ⟨k, hlt⟩ wr hJ (by rw [monthsTo_len hk]; exact hlt)
      dsimp only at hy
      gi_wp2
      refine hYR.mono ?_
      rintro e W3 (⟨rfl, hJ3, hk3⟩ | ⟨rfl, hJx3⟩)
      · have hn3 := hkb.then hk3
        obtain ⟨hc3, hV3⟩ := hZ.out W3 hn3
        have hlc := length_c y ((k : Int) + 1) W3 hV3 hy0 hy1
        rw [show lenV y ((k : Int) + 1) = (lenM y ((k : Int) + 1), 0) from if_pos (by omega)] at hlc
        have hlm := lenM_le y ((k : Int) + 1)
        have hds : Hid (dayM y (k + 1) = dayM y k + lenM y ((k : Int) + 1)) := rfl
        generalize lenM y ((k : Int) + 1) = z at *
        generalize dayM y k = d at *
        gi_wp2_with (refine ⟨trivial, ?_⟩; gi_at_call 63; refine (callsIn_wide.2 hlc).mono ?_; rintro e w' ⟨rfl, rfl⟩)
        go_roundw
        case rel => exact ⟨k + 1, by omega, val_int (by omega), val_int hds.out.symm, by rw [hs.out]; exact hJ3, hn3⟩
        case measure => simp [intOf]; omega
      · gi_wp2
        refine bodyPost_ret (results_none rfl _ _ _) rfl ?_
        exact ⟨⟨_, rfl⟩, .inr ⟨_, hJx3⟩⟩
    · obtain rfl : k = 12 := by omega
      gi_wp2
      go_end0
      rw [monthsTo_all] at hJ
      exact ⟨⟨_, rfl⟩, .inl ⟨_, rfl, hJ⟩⟩
theorem KB.put {n₀ Bs : Nat} {w : World} (hn : n₀ ≤ w.heap.size) (hB : Bs < w.heap.size) (W : World) (l : Nat) (o o' : Obj) (hl : w.heap.size ≤ l) (h : W.heap[l]? = some o) (h1 : o.isCells = false) (h2 : o.isWalk = false) : KB n₀ Bs W (W.putObj l o') :=
  ⟨belowK_b (w := w) hn W l o o' hl h h1 h2, (belowK_b (w := w) (n₀ := w.heap.size) (Nat.le_refl _) W l o o' hl h h1 h2).cell (p := ⟨Bs, 0, none⟩) hB⟩
theorem cell_new_l (W : World) (v : Value) (t : TypeId) : (W.alloc (.cells #[v] t)).cell? ⟨W.heap.size, 0, none⟩ = some v ∧ (W.alloc (.cells #[v] t)).frozen? ⟨W.heap.size, 0, none⟩ = false :=
  have h := World.alloc_heap_new W (.cells #[v] t)
  ⟨by unfold World.cell?; rw [h]; rfl, by unfold World.frozen?; rw [h]; rfl⟩
theorem cell_alloc_l {W : World} {a : Addr} {v : Value} (o : Obj) (h : W.cell? a = some v) : (W.alloc o).cell? a = some v := cell_kept h (World.grownBy_alloc W o none) (fun r e => by cases e)
theorem frozen_alloc_l {W : World} {a : Addr} {v : Value} (o : Obj) (h : W.cell? a = some v) (hf : W.frozen? a = false) : (W.alloc o).frozen? a = false := (frozen_kept h (World.grownBy_alloc W o none) (fun r e => by cases e)).trans hf
theorem cell_set_other {W : World} {b B j : Nat} {v : Value} (h : b ≠ B) : (W.setCell ⟨b, j, none⟩ v).cell? ⟨B, 0, none⟩ = W.cell? ⟨B, 0, none⟩ := by
  unfold World.cell?
  rw [Below.heap_setCell _ _ _ _ (fun e => h e.symm)]
theorem own_kept {W W' : World} {row : Option Nat} {b : Nat} {c : Array Value} {T : TypeId} (h : Proofs.YtcmdekhhclgdcaaDoor.Own W b c T) (hg : W.grownBy W' row) (hrow : ∀ r, row = some r → ∃ o : Obj, W.heap[r]? = some o ∧ o.isCells = false) : Proofs.YtcmdekhhclgdcaaDoor.Own W' b c T :=
  h.grown hg fun e => by
    obtain ⟨o, h1, h2⟩ := hrow b e.symm
    unfold Proofs.YtcmdekhhclgdcaaDoor.Own at h
    rw [h] at h1
    cases h1
    cases h2
theorem cell_set_at {W : World} {b B j o : Nat} {v : Value} (h : b ≠ B) : (W.setCell ⟨b, j, none⟩ v).cell? ⟨B, o, none⟩ = W.cell? ⟨B, o, none⟩ := by
  unfold World.cell?
  rw [Below.heap_setCell _ _ _ _ (fun e => h e.symm)]
end Go.Proofs.YtcmdekhhclgdcaaDoor
