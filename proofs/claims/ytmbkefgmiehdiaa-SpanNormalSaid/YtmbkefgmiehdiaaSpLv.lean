/- lives: it always holds. -/
import Derived.Deep.CutBlock
import Derived.Test.YtmbkefgmiehdiaaSpPk
import Derived.Test.YtmbkefgmiehdiaaSpRe
import Derived.Test.YtmbkefgmiehdiaaSpW
namespace Go.Proofs.Ytmbkefgmiehdiaa
open Go.RowKit Go.Shelf
set_option linter.unusedSimpArgs false
set_option linter.unusedVariables false
theorem itvs1 {w : World} {b : Nat} {x : Itv} {T : TypeId} (hx : x.I) (hO : Own w b (itC x).toArray T) : ItvsR (ph w) (.slice (some ⟨b, 0, none⟩) 1 1) [x] :=
  sliceArr hO ⟨itC x, [], by simp, rfl, ⟨rfl, hx⟩, rfl⟩ rfl (by decide)
theorem itvs2 {w : World} {b : Nat} {x y : Itv} {T : TypeId} (hx : x.I) (hy : y.I) (hO : Own w b (itC x ++ itC y).toArray T) : ItvsR (ph w) (.slice (some ⟨b, 0, none⟩) 2 2) [x, y] :=
  sliceArr hO ⟨itC x, itC y, by simp, rfl, ⟨rfl, hx⟩, itC y, [], by simp, rfl, ⟨rfl, hy⟩, rfl⟩ rfl (by decide)
def lA : Itv := ⟨⟨1, 1⟩, ⟨2, 1⟩, false, true, false, false⟩
def lB : Itv := ⟨⟨2, 1⟩, ⟨3, 1⟩, false, false, false, false⟩
def lC : Itv := ⟨⟨2, 1⟩, ⟨3, 1⟩, true, false, false, false⟩
def lU : List Itv := [⟨⟨1, 1⟩, ⟨3, 1⟩, false, false, false, false⟩]
def lV : List Itv := [lA, lC]
def lN : List Itv := [⟨⟨0, 0⟩, ⟨1, 1⟩, false, true, true, false⟩, ⟨⟨2, 1⟩, ⟨0, 0⟩, false, false, false, true⟩]
theorem e_U : twoS orK [lA] [lB] = (lU, 0) := by decide +kernel
theorem e_V : twoS orK [lA] [lC] = (lV, 0) := by decide +kernel
theorem e_N : notS [lA] = (lN, 0) := by decide +kernel
set_option maxRecDepth 100000 in
set_option maxHeartbeats 8000000 in
theorem lives_c (w : World) : Calls Try.prog 21 #[] w (RetV w (.bool true)) := by
  go_enter Try.func21, Try.ntmps21
  go_wp2_with fail
  refine RetV_at (whole_c _ _) ?_
  intro w1 hx1
  go_wp2_with fail
  refine RetV_at (whole_c _ _) ?_
  intro w2 hx2
  have hx := hx1.then hx2
  clear hx1 hx2
  go_upto_region 2 with (fail)
  have hA := itvs1 (x := lA) (by unfold Itv.I Rat2.I I64; decide) (Proofs.Ytmbkefgmiehdiaa.Own.new w2 (itC lA).toArray 43)
  replace hx := hx.then (Ext.new w2 (.cells (itC lA).toArray 43))
  change Ext w (w2.alloc (Obj.cells #[.int .i64 1, .int .i64 1, .int .i64 2, .int .i64 1, .bool false, .bool true, .bool false, .bool false] 43)) at hx
  change ItvsR (ph (w2.alloc (Obj.cells #[.int .i64 1, .int .i64 1, .int .i64 2, .int .i64 1, .bool false, .bool true, .bool false, .bool false] 43))) _ _ at hA
  generalize w2.heap.size = b1 at *
  generalize w2.alloc _ = W1 at *
  have hvl : (lV.length : Int) = 2 := rfl
  go_wp2_with fail
  refine RetV_at (whole_c _ _) ?_
  intro w3 hx3
  go_wp2_with fail
  refine RetV_at (whole_c _ _) ?_
  intro w4 hx4
  have hB := itvs1 (x := lB) (by unfold Itv.I Rat2.I I64; decide) (Proofs.Ytmbkefgmiehdiaa.Own.new w4 (itC lB).toArray 43)
  have hy := (hx3.then hx4).then (Ext.new w4 (.cells (itC lB).toArray 43))
  have hc := union_c _ _ _ _ _ (hA.mono mono_ItvR hy.ple) hB
  rw [e_U] at hc
  have hq := Lib.hid hc
  clear hc hB hx3 hx4
  go_wp2_with fail
  refine hq.out.mono ?_
  rintro e w5 ⟨uv, rfl, hx5, hu⟩
  replace hy := hy.then hx5
  dsimp only at hu
  obtain ⟨ua, uc, rfl, -, hu⟩ := hu.form
  replace hx := hx.then hy
  replace hA := hA.mono mono_ItvR hy.ple
  clear hq hx5 hy
  go_upto_region 3 with (fail)
  go_wp2_with fail
  refine RetV_at (whole_c _ _) ?_
  intro w3 hx3
  go_wp2_with fail
  refine RetV_at (whole_c _ _) ?_
  intro w4 hx4
  have hB := itvs1 (x := lC) (by unfold Itv.I Rat2.I I64; decide) (Proofs.Ytmbkefgmiehdiaa.Own.new w4 (itC lC).toArray 43)
  have hy := (hx3.then hx4).then (Ext.new w4 (.cells (itC lC).toArray 43))
  have hc := union_c _ _ _ _ _ (hA.mono mono_ItvR hy.ple) hB
  rw [e_V] at hc
  have hq := Lib.hid hc
  clear hc hB hx3 hx4
  go_wp2_with fail
  refine hq.out.mono ?_
  rintro e w5 ⟨vv, rfl, hx5, hv⟩
  replace hy := hy.then hx5
  dsimp only at hv
  obtain ⟨va, vc, rfl, -, hv⟩ := hv.form
  replace hx := hx.then hy
  replace hA := hA.mono mono_ItvR hy.ple
  replace hu := hu.mono mono_ItvR hy.ple
  clear hq hx5 hy
  go_upto_region 4 with (fail)
  have hc := not_c _ _ _ hA
  rw [e_N] at hc
  have hq := Lib.hid hc
  clear hc
  go_wp2_with fail
  refine hq.out.mono ?_
  rintro e w6 ⟨nv, rfl, hx6, hn⟩
  dsimp only at hn
  obtain ⟨na, nc, rfl, -, hn⟩ := hn.form
  replace hx := hx.then hx6
  replace hu := hu.mono mono_ItvR hx6.ple
  clear hq hx6 hA hv
  go_upto_region 5 with (fail)
  have hB := itvs1 (x := liveX) (by unfold Itv.I Rat2.I I64; decide) (Proofs.Ytmbkefgmiehdiaa.Own.new w6 (itC liveX).toArray 43)
  have hy := Ext.new w6 (.cells (itC liveX).toArray 43)
  have hq := Lib.hid (pick_f _ _ hB)
  go_wp2_with fail
  refine RetV_at hq.out ?_
  intro w7 hx7
  replace hy := (hy.then hx7).then (Ext.new w7 (.cells #[.int .i64 2, .int .i64 5] 40))
  have hO := Proofs.Ytmbkefgmiehdiaa.Own.new w7 #[.int .i64 2, .int .i64 5] 40
  clear hq hx7 hB
  replace hx := hx.then hy
  replace hu := hu.mono mono_ItvR hy.ple
  replace hn := hn.mono mono_ItvR hy.ple
  clear hy
  go_upto_region 6 with (fail)
  generalize w7.heap.size = b8 at *
  generalize w7.alloc _ = W8 at *
  obtain ⟨c8, f8⟩ := hO.facts
  have z8 := hO.lt
  have k0 : _ = some (Value.int .i64 2) := c8 0
  have k1 : _ = some (Value.int .i64 5) := c8 1
  clear c8
  go_upto_region 8 with (fail)
  clear hO f8 z8 k0 k1
  go_wp2_with fail
  refine RetV_at (whole_c _ _) ?_
  intro w3 hx3
  go_wp2_with fail
  refine RetV_at (whole_c _ _) ?_
  intro w4 hx4
  have hB := itvs1 (x := ⟨⟨1, 1⟩, ⟨3, 1⟩, false, false, false, false⟩) (by unfold Itv.I Rat2.I I64; decide) (Proofs.Ytmbkefgmiehdiaa.Own.new w4 (itC ⟨⟨1, 1⟩, ⟨3, 1⟩, false, false, false, false⟩).toArray 43)
  have hy := (hx3.then hx4).then (Ext.new w4 (.cells (itC ⟨⟨1, 1⟩, ⟨3, 1⟩, false, false, false, false⟩).toArray 43))
  have hq := Lib.hid (requal_c _ _ lU lU _ (hu.mono mono_ItvR hy.ple) hB)
  rw [show decide (lU = lU) = true by simp] at hq
  go_wp2_with fail
  refine RetV_at hq.out ?_
  intro w5 hx5
  replace hy := hy.then hx5
  replace hx := hx.then hy
  replace hn := hn.mono mono_ItvR hy.ple
  clear hx3 hx4 hB hu hq hx5 hy
  go_wp2_with fail
  refine RetV_at (whole_c _ _) ?_
  intro w3 hx3
  go_wp2_with fail
  refine RetV_at (whole_c _ _) ?_
  intro w4 hx4
  have hB := itvs2 (x := ⟨⟨0, 0⟩, ⟨1, 1⟩, false, true, true, false⟩) (y := ⟨⟨2, 1⟩, ⟨0, 0⟩, false, false, false, true⟩) (by unfold Itv.I Rat2.I I64; decide) (by unfold Itv.I Rat2.I I64; decide) (Proofs.Ytmbkefgmiehdiaa.Own.new w4 (itC ⟨⟨0, 0⟩, ⟨1, 1⟩, false, true, true, false⟩ ++ itC ⟨⟨2, 1⟩, ⟨0, 0⟩, false, false, false, true⟩).toArray 43)
  trace_state
  have hy := (hx3.then hx4).then (Ext.new w4 (.cells (itC ⟨⟨0, 0⟩, ⟨1, 1⟩, false, true, true, false⟩ ++ itC ⟨⟨2, 1⟩, ⟨0, 0⟩, false, false, false, true⟩).toArray 43))
  have hq := Lib.hid (requal_c _ _ lN lN _ (hn.mono mono_ItvR hy.ple) hB)
  rw [show decide (lN = lN) = true by simp] at hq
  go_wp2_with fail
  refine RetV_at hq.out ?_
  intro w5 hx5
  replace hx := hx.then (hy.then hx5)
  go_wp2_with fail
  go_ret
  exact ⟨rfl, hx⟩
end Go.Proofs.Ytmbkefgmiehdiaa
