/- span.Pick at the interval that lives asks for.; lives: it always holds. -/
import Derived.Deep.CutBlock
import Derived.Test.YtmbkefgmiehdiaaSpBA
import Derived.Test.YtmbkefgmiehdiaaSpRe
import Derived.Test.YtmbkefgmiehdiaaSpW
namespace Go.Proofs.Ytmbkefgmiehdiaa
open Go.RowKit Go.Shelf
set_option linter.unusedSimpArgs false
set_option linter.unusedVariables false
set_option maxRecDepth 100000 in
set_option maxHeartbeats 4000000 in
theorem pick1_f (r best : Rat2) (g6 g7 : Nat) (W0 w : World) (L : List Chunk) (hM : Mem W0 noH (box g7 #[.bool false] 4 :: box g6 #[.int .i64 best.num, .int .i64 best.den] 40 :: L) noH w) :
    Calls Try.prog 52 #[raA r, .pointer (some ⟨g7, 0, none⟩), .pointer (some ⟨g6, 0, none⟩)] w (fun e w' => e = .returned (.tuple #[]) ∧ Mem W0 noH (box g7 #[.bool true] 4 :: box g6 #[.int .i64 r.num, .int .i64 r.den] 40 :: L) noH w') := by
  have hM1 := hM.ext (Ext.new w (.cells #[.int .i64 r.num, .int .i64 r.den] 40))
  have hM2 := ((hM1.set 1 rfl 0 (.int .i64 r.num)).set 1 rfl 1 (.int .i64 r.den)).set 0 rfl 0 (.bool true)
  simp only [List.set_cons_succ, List.set_cons_zero, List.setIfInBounds_toArray] at hM2
  have hO7 := hM1.box 0 rfl
  have hO6 := hM1.box 1 rfl
  have hOx := Proofs.Ytmbkefgmiehdiaa.Own.new w #[.int .i64 r.num, .int .i64 r.den] 40
  have l7 := (hM.box 0 rfl).lt
  have l6 := (hM.box 1 rfl).lt
  have hne : g6 ≠ g7 := by
    intro e
    have h7 := hM.box 0 rfl
    have h6 := hM.box 1 rfl
    unfold Own at h7 h6
    rw [e, h7] at h6
    cases h6
  obtain ⟨rn, rd⟩ := r
  unfold raA
  dsimp only at *
  go_enter Try.func52, Try.ntmps52
  go_upto_region 1 with (fail)
  generalize w.heap.size = b at *
  generalize w.alloc _ = W at *
  obtain ⟨c7, f7⟩ := hO7.facts
  obtain ⟨c6, f6⟩ := hO6.facts
  obtain ⟨cx, fx⟩ := hOx.facts
  have z7 := hO7.lt
  have z6 := hO6.lt
  have zx := hOx.lt
  have k7 : _ = some (Value.bool false) := c7 0
  have k6 : _ = some (Value.int .i64 best.num) := c6 0
  have k61 : _ = some (Value.int .i64 best.den) := c6 1
  have kx : _ = some (Value.int .i64 rn) := cx 0
  have kx1 : _ = some (Value.int .i64 rd) := cx 1
  clear c7 c6 cx hM hM1
  have hb7 : b ≠ g7 := by omega
  have hb6 : b ≠ g6 := by omega
  go_wp2_with fail
  exact bodyPost_end (v := .tuple #[]) (by simp [results, Try.results52, go_sem]) rfl ⟨rfl, hM2⟩
def liveX : Itv := ⟨⟨1, 3⟩, ⟨1, 2⟩, true, true, false, false⟩
set_option maxRecDepth 100000 in
set_option maxHeartbeats 8000000 in
theorem pick_f (v : Value) (w : World) (hr : ItvsR (ph w) v [liveX]) : Calls Try.prog 23 #[v] w (RetV w (.tuple #[.agg #[.int .i64 2, .int .i64 5], .bool true, .int .i64 0])) := by
  have hv := fun (w' : World) (hx : Ext w w') => valid_c v [liveX] w' (hr.mono mono_ItvR hx.ple)
  rw [show setE [liveX] = 0 by decide +kernel] at hv
  have hb := fun w => btw_c ⟨1, 3⟩ ⟨1, 2⟩ w (by unfold Rat2.I I64; decide) (by unfold Rat2.I I64; decide)
  rw [show betwS ⟨1, 3⟩ ⟨1, 2⟩ = (⟨2, 5⟩, 0) by decide +kernel] at hb
  unfold raE raA at hb
  dsimp only at hb
  replace hb := Lib.hid hb
  replace hv := Lib.hid hv
  obtain ⟨a, c, rfl, -, hr⟩ := hr.form
  have hM0 := ((((Mem.start w noH (noH_le _)).new #[.int .i64 0, .int .i64 0] 40)))
  simp only [List.nil_append] at hM0
  go_enter Try.func23, Try.ntmps23
  go_wp2_with fail
  refine RetV_at (hv.out _ (by repeat (first | (with_reducible assumption) | (with_reducible exact Ext.rfl' _) | (with_reducible exact Ext.new _ _) | (with_reducible refine Ext.alloc' ?_ _) | (with_reducible refine Ext.drew' ?_) | (with_reducible refine Ext.drewN' ?_ _) | (with_reducible refine Ext.set' ?_ ?_ _; rotate_left; (focus (first | omega | (simp; done) | (simp; omega)))) | (with_reducible refine Ext.then (b := ?_) ?_ ?_; rotate_left; rotate_left; (with_reducible assumption))))) ?_
  intro w1 hx1
  replace hM0 := hM0.ext hx1
  have hM1 := ((hM0.new #[.int .i64 0, .int .i64 0] 40).new' #[.bool false] 4 (n := w1.heap.size + 1) (by simp)).pick [2, 1, 0] (by decide)
  simp only [List.nil_append, List.cons_append, List.map_cons, List.map_nil, List.getElem?_cons_zero, List.getElem?_cons_succ, Option.getD_some] at hM1
  clear hM0 hv
  go_upto_region 5 with (fail)
  generalize w1.heap.size + 1 = g7 at *
  generalize w1.heap.size = g6 at *
  generalize w.heap.size = g2 at *
  generalize (w1.alloc _).alloc _ = W at *
  obtain ⟨b, o, rfl, h0, h1, h2, h3, h4, h5, h6, h7, hbl, hI⟩ := ItvsR.at hr 0 (by simp)
  simp only [Nat.zero_mul, Nat.add_zero, Nat.zero_add, List.getElem_cons_zero] at h0 h1 h2 h3 h4 h5 h6 h7
  have q0 : w.cell? ⟨b, o, none⟩ = some (.int .i64 1) := h0
  have q1 : w.cell? ⟨b, o + 1, none⟩ = some (.int .i64 3) := h1
  have q2 : w.cell? ⟨b, o + 2, none⟩ = some (.int .i64 1) := h2
  have q3 : w.cell? ⟨b, o + 3, none⟩ = some (.int .i64 2) := h3
  have q4 : w.cell? ⟨b, o + 4, none⟩ = some (.bool true) := h4
  have q5 : w.cell? ⟨b, o + 5, none⟩ = some (.bool true) := h5
  have q6 : w.cell? ⟨b, o + 6, none⟩ = some (.bool false) := h6
  have q7 : w.cell? ⟨b, o + 7, none⟩ = some (.bool false) := h7
  clear h0 h1 h2 h3 h4 h5 h6 h7 hI hr
  go_wp2_with fail
  go_loopw [25] (fun vi wr => (vi = .int .i64 0 ∧ Mem w noH [box g7 #[.bool false] 4, box g6 #[.int .i64 0, .int .i64 0] 40, box g2 #[.int .i64 0, .int .i64 0] 40] noH wr) ∨ (vi = .int .i64 1 ∧ Mem w noH [box g7 #[.bool true] 4, box g6 #[.int .i64 2, .int .i64 5] 40, box g2 #[.int .i64 0, .int .i64 0] 40] noH wr)) (fun vi _ => 2 - (intOf vi).toNat)
  case atStart => exact .inl ⟨rfl, hM1⟩
  case round =>
    clear hM1
    rcases hrel with ⟨rfl, hM⟩ | ⟨rfl, hM⟩
    · replace q0 := hM.ex.cell1 q0
      replace q1 := hM.ex.cell1 q1
      replace q2 := hM.ex.cell1 q2
      replace q3 := hM.ex.cell1 q3
      replace q4 := hM.ex.cell1 q4
      replace q5 := hM.ex.cell1 q5
      replace q6 := hM.ex.cell1 q6
      replace q7 := hM.ex.cell1 q7
      go_upto_region 9 with (fail)
      have hO := Proofs.Ytmbkefgmiehdiaa.Own.new wr #[.int .i64 1, .int .i64 3, .int .i64 1, .int .i64 2, .bool true, .bool true, .bool false, .bool false] 43
      replace hM := hM.ext (Ext.new wr (.cells #[.int .i64 1, .int .i64 3, .int .i64 1, .int .i64 2, .bool true, .bool true, .bool false, .bool false] 43))
      clear q0 q1 q2 q3 q4 q5 q6 q7 hbl
      generalize wr.heap.size = g10 at *
      generalize wr.alloc _ = W9 at *
      obtain ⟨c10, f10⟩ := hO.facts
      have z10 := hO.lt
      have k0 : _ = some (Value.int .i64 1) := c10 0
      have k1 : _ = some (Value.int .i64 3) := c10 1
      have k2 : _ = some (Value.int .i64 1) := c10 2
      have k3 : _ = some (Value.int .i64 2) := c10 3
      go_cut [11, 12] (fun v11 v12 wx => ∃ g11 g12, v11 = .pointer (some ⟨g11, 0, none⟩) ∧ v12 = .pointer (some ⟨g12, 0, none⟩) ∧ Own wx g11 #[.int .i64 1, .int .i64 3] 40 ∧ Own wx g12 #[.int .i64 1, .int .i64 2] 40 ∧ Ext W9 wx)
      case first =>
        go_region
        · go_wp2_with fail
          go_meet
          case rel => exact ⟨_, _, rfl, rfl, (Own.new W9 _ _).alloc _, Own.new' _ _ _ (by simp), (by repeat (first | (with_reducible assumption) | (with_reducible exact Ext.rfl' _) | (with_reducible exact Ext.new _ _) | (with_reducible refine Ext.alloc' ?_ _) | (with_reducible refine Ext.drew' ?_) | (with_reducible refine Ext.drewN' ?_ _) | (with_reducible refine Ext.set' ?_ ?_ _; rotate_left; (focus (first | omega | (simp; done) | (simp; omega)))) | (with_reducible refine Ext.then (b := ?_) ?_ ?_; rotate_left; rotate_left; (with_reducible assumption))))⟩
        · go_wp2_with fail
          go_meet
          case rel => exact ⟨_, _, rfl, rfl, Own.new' _ _ _ (by simp), (Own.new W9 _ _).alloc _, (by repeat (first | (with_reducible assumption) | (with_reducible exact Ext.rfl' _) | (with_reducible exact Ext.new _ _) | (with_reducible refine Ext.alloc' ?_ _) | (with_reducible refine Ext.drew' ?_) | (with_reducible refine Ext.drewN' ?_ _) | (with_reducible refine Ext.set' ?_ ?_ _; rotate_left; (focus (first | omega | (simp; done) | (simp; omega)))) | (with_reducible refine Ext.then (b := ?_) ?_ ?_; rotate_left; rotate_left; (with_reducible assumption))))⟩
      case rest =>
        obtain ⟨g11, g12, rfl, rfl, hO11, hO12, hx9⟩ := hcut
        replace hO := hO.keep hx9
        replace hM := hM.ext hx9
        clear c10 f10 z10 k0 k1 k2 k3 hx9
        obtain ⟨c10, f10⟩ := hO.facts
        obtain ⟨c11, f11⟩ := hO11.facts
        obtain ⟨c12, f12⟩ := hO12.facts
        have z10 := hO.lt
        have z11 := hO11.lt
        have z12 := hO12.lt
        have k4 : _ = some (Value.bool true) := c10 4
        have k5 : _ = some (Value.bool true) := c10 5
        have k6 : _ = some (Value.bool false) := c10 6
        have k7 : _ = some (Value.bool false) := c10 7
        have l0 : _ = some (Value.int .i64 1) := c11 0
        have l1 : _ = some (Value.int .i64 3) := c11 1
        have m0 : _ = some (Value.int .i64 1) := c12 0
        have m1 : _ = some (Value.int .i64 2) := c12 1
        clear c10 c11 c12
        go_wp2_with fail
        refine RetV_at (hb.out _) ?_
        intro w5 hx5
        replace hM := hM.ext hx5
        clear f10 f11 f12 z10 z11 z12 k4 k5 k6 k7 l0 l1 m0 m1 hx5 hO hO11 hO12
        go_upto_region 20 with (fail)
        have hM6 := hM.ext (Ext.new w5 (.cells #[.int .i64 2, .int .i64 5] 40))
        have hO13 := Proofs.Ytmbkefgmiehdiaa.Own.new w5 #[.int .i64 2, .int .i64 5] 40
        clear hM
        generalize w5.heap.size = g13 at *
        generalize w5.alloc _ = W5 at *
        obtain ⟨c13, f13⟩ := hO13.facts
        have z13 := hO13.lt
        have l0 : _ = some (Value.int .i64 2) := c13 0
        have l1 : _ = some (Value.int .i64 5) := c13 1
        have hpk := pick1_f ⟨2, 5⟩ ⟨0, 0⟩ g6 g7 w W5 _ hM6
        unfold raA at hpk
        dsimp only at hpk
        replace hpk := Lib.hid hpk
        clear c13 hM6
        go_wp2_with fail
        refine hpk.out.mono ?_
        rintro e w6 ⟨rfl, hM7⟩
        clear hpk f13 z13 l0 l1 hO13
        go_wp2_with fail
        go_roundw
        case rel => exact .inr ⟨by go_num, hM7⟩
        case measure => simp [intOf]
    · have hO7 := hM.box 0 rfl
      have hO6 := hM.box 1 rfl
      have hO2 := hM.box 2 rfl
      obtain ⟨c7, f7⟩ := hO7.facts
      obtain ⟨c6, f6⟩ := hO6.facts
      obtain ⟨c2, f2⟩ := hO2.facts
      have z7 := hO7.lt
      have z6 := hO6.lt
      have z2 := hO2.lt
      have k7 : _ = some (Value.bool true) := c7 0
      have k60 : _ = some (Value.int .i64 2) := c6 0
      have k61 : _ = some (Value.int .i64 5) := c6 1
      have k20 : _ = some (Value.int .i64 0) := c2 0
      have k21 : _ = some (Value.int .i64 0) := c2 1
      have hx := ((hM.set 2 rfl 0 (.int .i64 2)).set 2 rfl 1 (.int .i64 5)).ex
      have hO2' := (hO2.set 0 (.int .i64 2)).set 1 (.int .i64 5)
      have hne : g2 ≠ g7 := by
        intro e
        unfold Own at hO7 hO2
        rw [e, hO7] at hO2
        cases hO2
      clear q0 q1 q2 q3 q4 q5 q6 q7 hbl hM c7 c6 c2 hO7 hO6 hO2
      go_wp2_with fail
      go_region
      have hO3 := hO2'.drew
      have hx2 := hx.drew'
      clear f2 z2 k20 k21 k7 k60 k61 f7 f6 z7 z6 hO2' hx
      generalize ((wr.setCell _ _).setCell _ _).drew = W2 at *
      obtain ⟨c2, f2⟩ := hO3.facts
      have z2 := hO3.lt
      have k20 : _ = some (Value.int .i64 2) := c2 0
      have k21 : _ = some (Value.int .i64 5) := c2 1
      go_wp2_with fail
      exact bodyPost_ret (v := .tuple #[.agg #[.int .i64 2, .int .i64 5], .bool true, .int .i64 0]) (by simp [results, Try.results23, go_sem, k20, k21, f2, z2]) rfl ⟨rfl, hx2⟩
end Go.Proofs.Ytmbkefgmiehdiaa
namespace Go.Proofs.Ytmbkefgmiehdiaa
open Go.RowKit Go.Shelf
set_option linter.unusedSimpArgs false
set_option linter.unusedVariables false
theorem itvs1 {w : World} {b : Nat} {x : Itv} {T : TypeId} (hx : x.I) (hO : Own w b (itC x).toArray T) : ItvsR (ph w) (.slice (some ⟨b, 0, none⟩) 1 1) [x] :=
  sliceArr hO ⟨itC x, [], by simp, rfl, ⟨rfl, hx⟩, rfl⟩ rfl (by decide)
theorem itvs2 {w : World} {b : Nat} {x y : Itv} {T : TypeId} (hx : x.I) (hy : y.I) (hO : Own w b (itC x ++ itC y).toArray T) : ItvsR (ph w) (.slice (some ⟨b, 0, none⟩) 2 2) [x, y] :=
  sliceArr hO ⟨itC x, itC y, by simp, rfl, ⟨rfl, hx⟩, itC y, [], by simp, rfl, ⟨rfl, hy⟩, rfl⟩ rfl (by decide)
def lA : Itv := ⟨⟨1, 1⟩, ⟨2, 1⟩, false, true, false, false⟩
def lB : Itv := ⟨⟨2, 1⟩, ⟨3, 1⟩, false, false, false, false⟩
def lC : Itv := ⟨⟨2, 1⟩, ⟨3, 1⟩, true, false, false, false⟩
def lU : List Itv := [⟨⟨1, 1⟩, ⟨3, 1⟩, false, false, false, false⟩]
def lV : List Itv := [lA, lC]
def lN : List Itv := [⟨⟨0, 0⟩, ⟨1, 1⟩, false, true, true, false⟩, ⟨⟨2, 1⟩, ⟨0, 0⟩, false, false, false, true⟩]
theorem e_U : twoS orK [lA] [lB] = (lU, 0) := by decide +kernel
theorem e_V : twoS orK [lA] [lC] = (lV, 0) := by decide +kernel
theorem e_N : notS [lA] = (lN, 0) := by decide +kernel
set_option maxRecDepth 100000 in
set_option maxHeartbeats 8000000 in
theorem lives_c (w : World) : Calls Try.prog 21 #[] w (RetV w (.bool true)) := by
  go_enter Try.func21, Try.ntmps21
  go_wp2_with fail
  refine RetV_at (whole_c _ _) ?_
  intro w1 hx1
  go_wp2_with fail
  refine RetV_at (whole_c _ _) ?_
  intro w2 hx2
  have hx := hx1.then hx2
  clear hx1 hx2
  go_upto_region 2 with (fail)
  have hA := itvs1 (x := lA) (by unfold Itv.I Rat2.I I64; decide) (Proofs.Ytmbkefgmiehdiaa.Own.new w2 (itC lA).toArray 43)
  replace hx := hx.then (Ext.new w2 (.cells (itC lA).toArray 43))
  change Ext w (w2.alloc (Obj.cells #[.int .i64 1, .int .i64 1, .int .i64 2, .int .i64 1, .bool false, .bool true, .bool false, .bool false] 43)) at hx
  change ItvsR (ph (w2.alloc (Obj.cells #[.int .i64 1, .int .i64 1, .int .i64 2, .int .i64 1, .bool false, .bool true, .bool false, .bool false] 43))) _ _ at hA
  generalize w2.heap.size = b1 at *
  generalize w2.alloc _ = W1 at *
  have hvl : (lV.length : Int) = 2 := rfl
  go_wp2_with fail
  refine RetV_at (whole_c _ _) ?_
  intro w3 hx3
  go_wp2_with fail
  refine RetV_at (whole_c _ _) ?_
  intro w4 hx4
  have hB := itvs1 (x := lB) (by unfold Itv.I Rat2.I I64; decide) (Proofs.Ytmbkefgmiehdiaa.Own.new w4 (itC lB).toArray 43)
  have hy := (hx3.then hx4).then (Ext.new w4 (.cells (itC lB).toArray 43))
  have hc := union_c _ _ _ _ _ (hA.mono mono_ItvR hy.ple) hB
  rw [e_U] at hc
  have hq := Lib.hid hc
  clear hc hB hx3 hx4
  go_wp2_with fail
  refine hq.out.mono ?_
  rintro e w5 ⟨uv, rfl, hx5, hu⟩
  replace hy := hy.then hx5
  dsimp only at hu
  obtain ⟨ua, uc, rfl, -, hu⟩ := hu.form
  replace hx := hx.then hy
  replace hA := hA.mono mono_ItvR hy.ple
  clear hq hx5 hy
  go_upto_region 3 with (fail)
  go_wp2_with fail
  refine RetV_at (whole_c _ _) ?_
  intro w3 hx3
  go_wp2_with fail
  refine RetV_at (whole_c _ _) ?_
  intro w4 hx4
  have hB := itvs1 (x := lC) (by unfold Itv.I Rat2.I I64; decide) (Proofs.Ytmbkefgmiehdiaa.Own.new w4 (itC lC).toArray 43)
  have hy := (hx3.then hx4).then (Ext.new w4 (.cells (itC lC).toArray 43))
  have hc := union_c _ _ _ _ _ (hA.mono mono_ItvR hy.ple) hB
  rw [e_V] at hc
  have hq := Lib.hid hc
  clear hc hB hx3 hx4
  go_wp2_with fail
  refine hq.out.mono ?_
  rintro e w5 ⟨vv, rfl, hx5, hv⟩
  replace hy := hy.then hx5
  dsimp only at hv
  obtain ⟨va, vc, rfl, -, hv⟩ := hv.form
  replace hx := hx.then hy
  replace hA := hA.mono mono_ItvR hy.ple
  replace hu := hu.mono mono_ItvR hy.ple
  clear hq hx5 hy
  go_upto_region 4 with (fail)
  have hc := not_c _ _ _ hA
  rw [e_N] at hc
  have hq := Lib.hid hc
  clear hc
  go_wp2_with fail
  refine hq.out.mono ?_
  rintro e w6 ⟨nv, rfl, hx6, hn⟩
  dsimp only at hn
  obtain ⟨na, nc, rfl, -, hn⟩ := hn.form
  replace hx := hx.then hx6
  replace hu := hu.mono mono_ItvR hx6.ple
  clear hq hx6 hA hv
  go_upto_region 5 with (fail)
  have hB := itvs1 (x := liveX) (by unfold Itv.I Rat2.I I64; decide) (Proofs.Ytmbkefgmiehdiaa.Own.new w6 (itC liveX).toArray 43)
  have hy := Ext.new w6 (.cells (itC liveX).toArray 43)
  have hq := Lib.hid (pick_f _ _ hB)
  go_wp2_with fail
  refine RetV_at hq.out ?_
  intro w7 hx7
  replace hy := (hy.then hx7).then (Ext.new w7 (.cells #[.int .i64 2, .int .i64 5] 40))
  have hO := Proofs.Ytmbkefgmiehdiaa.Own.new w7 #[.int .i64 2, .int .i64 5] 40
  clear hq hx7 hB
  replace hx := hx.then hy
  replace hu := hu.mono mono_ItvR hy.ple
  replace hn := hn.mono mono_ItvR hy.ple
  clear hy
  go_upto_region 6 with (fail)
  generalize w7.heap.size = b8 at *
  generalize w7.alloc _ = W8 at *
  obtain ⟨c8, f8⟩ := hO.facts
  have z8 := hO.lt
  have k0 : _ = some (Value.int .i64 2) := c8 0
  have k1 : _ = some (Value.int .i64 5) := c8 1
  clear c8
  go_upto_region 8 with (fail)
  clear hO f8 z8 k0 k1
  go_wp2_with fail
  refine RetV_at (whole_c _ _) ?_
  intro w3 hx3
  go_wp2_with fail
  refine RetV_at (whole_c _ _) ?_
  intro w4 hx4
  have hB := itvs1 (x := ⟨⟨1, 1⟩, ⟨3, 1⟩, false, false, false, false⟩) (by unfold Itv.I Rat2.I I64; decide) (Proofs.Ytmbkefgmiehdiaa.Own.new w4 (itC ⟨⟨1, 1⟩, ⟨3, 1⟩, false, false, false, false⟩).toArray 43)
  have hy := (hx3.then hx4).then (Ext.new w4 (.cells (itC ⟨⟨1, 1⟩, ⟨3, 1⟩, false, false, false, false⟩).toArray 43))
  have hq := Lib.hid (requal_c _ _ lU lU _ (hu.mono mono_ItvR hy.ple) hB)
  rw [show decide (lU = lU) = true by simp] at hq
  go_wp2_with fail
  refine RetV_at hq.out ?_
  intro w5 hx5
  replace hy := hy.then hx5
  replace hx := hx.then hy
  replace hn := hn.mono mono_ItvR hy.ple
  clear hx3 hx4 hB hu hq hx5 hy
  go_wp2_with fail
  refine RetV_at (whole_c _ _) ?_
  intro w3 hx3
  go_wp2_with fail
  refine RetV_at (whole_c _ _) ?_
  intro w4 hx4
  have hB := itvs2 (x := ⟨⟨0, 0⟩, ⟨1, 1⟩, false, true, true, false⟩) (y := ⟨⟨2, 1⟩, ⟨0, 0⟩, false, false, false, true⟩) (by unfold Itv.I Rat2.I I64; decide) (by unfold Itv.I Rat2.I I64; decide) (Proofs.Ytmbkefgmiehdiaa.Own.new w4 (itC ⟨⟨0, 0⟩, ⟨1, 1⟩, false, true, true, false⟩ ++ itC ⟨⟨2, 1⟩, ⟨0, 0⟩, false, false, false, true⟩).toArray 43)
  trace_state
  have hy := (hx3.then hx4).then (Ext.new w4 (.cells (itC ⟨⟨0, 0⟩, ⟨1, 1⟩, false, true, true, false⟩ ++ itC ⟨⟨2, 1⟩, ⟨0, 0⟩, false, false, false, true⟩).toArray 43))
  have hq := Lib.hid (requal_c _ _ lN lN _ (hn.mono mono_ItvR hy.ple) hB)
  rw [show decide (lN = lN) = true by simp] at hq
  go_wp2_with fail
  refine RetV_at hq.out ?_
  intro w5 hx5
  replace hx := hx.then (hy.then hx5)
  go_wp2_with fail
  go_ret
  exact ⟨rfl, hx⟩
end Go.Proofs.Ytmbkefgmiehdiaa
