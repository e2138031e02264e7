/- TermOpen: the walk. -/
import Derived.Test.YtcmdekhhclgdcaaDoorTSome
import Derived.Test.YtcmdekhhclgdcaaDoorTLaw2
namespace Go.Proofs.YtcmdekhhclgdcaaDoor
open Go.RowKit Go.Shelf
set_option linter.unusedSimpArgs false
set_option linter.unusedVariables false
set_option maxRecDepth 100000 in
set_option maxHeartbeats 4000000 in
theorem termOpen_c (l m : List Int) (vl vm : Value) (from' months : Int) (w : World) (hl : IntsR (ph w) vl l) (hm : IntsR (ph w) vm m) (hf : I64 from') (hmo : I64 months) (hV : VL (ph w)) :
    Calls Tryd.prog 4 #[vl, vm, .int .i64 from', .int .i64 months] w (RetV w (.bool true)) := by
  have har := fun w => around_c from' 120000 w hf (by omega) (by omega)
  obtain ⟨d0, d1⟩ := aroundV_range (m := 120000) hf (by omega)
  generalize aroundV from' 120000 = d at *
  have har2 := fun w => around_c months 60 w hmo (by omega) (by omega)
  obtain ⟨n0, n1⟩ := aroundV_range (m := 60) hmo (by omega)
  generalize aroundV months 60 = n at *
  have hac := fun w hm => acts_c m vm d 8 w hm d0 (by omega) (by omega)
  have hso := some_c l vl w hl
  obtain ⟨la, lc, rfl, llen, hl⟩ := hl.form
  obtain ⟨ma, mc, rfl, mlen, hm⟩ := hm.form
  go_enter Tryd.func4, Tryd.ntmps4
  go_wp2_with fail
  refine hso.mono ?_
  rintro e w1 ⟨v, c, rfl, hx1, hc, hcE⟩
  have hown := own_c c v w1 hc
  obtain ⟨a, b, rfl, hW, hH⟩ := id hc
  obtain ⟨wa, wc, rfl, wlen, -⟩ := hW.form
  obtain ⟨ha, hc', rfl, hlen', -⟩ := hH.form
  clear hso hl hW hH
  go_wp2_with fail
  refine RetV_at hown ?_
  intro w2 hx2
  have hx12 := hx1.then hx2
  replace hc := hc.mono hx2.ple
  have hO1 := Proofs.YtcmdekhhclgdcaaDoor.Own.new w2 #[.slice wa c.1.length wc, .slice ha c.2.length hc'] 39
  have hxA := Ext.new w2 (.cells #[.slice wa c.1.length wc, .slice ha c.2.length hc'] 39)
  clear hown
  go_wp2_with fail
  refine RetV_at (har _) ?_
  intro w3 hx3
  go_wp2_with fail
  refine RetV_at (har2 _) ?_
  intro w4 hx4
  have hO1' := ((hO1.keep hx3).keep hx4).alloc (.cells #[.int .i64 d, .int .i64 n] 44)
  have hO2 := Proofs.YtcmdekhhclgdcaaDoor.Own.new w4 #[.int .i64 d, .int .i64 n] 44
  have hx24 := (hxA.then hx3).then hx4
  have hxB := (hx12.then hx24).then (Ext.new w4 (.cells #[.int .i64 d, .int .i64 n] 44))
  replace hc := hc.mono (hx24.then (Ext.new w4 (.cells #[.int .i64 d, .int .i64 n] 44))).ple
  have q0 : _ = some (Value.int .i64 d) := hO2.facts.1 0
  have g1 := hO1'.lt
  have g2 := hO2.lt
  clear har har2 hx24 hx12 hx4 hx3 hx2 hx1 hxA hO1
  go_upto_region 3 with (fail)
  generalize w4.alloc _ = W at *
  go_wp2_with fail
  refine (hac _ (hm.mono mono_IntR hxB.ple)).mono ?_
  rintro e w5 ⟨v1, xs, rfl, hx5, hxl, hfo, ho⟩
  have hA := ho.rep mono_ActR (noH_le _)
  clear ho hac hm
  obtain ⟨p1, c1, rfl, -⟩ := hA.form
  have hO1 := hO1'.keep hx5
  have hO2' := hO2.keep hx5
  replace hc := hc.mono hx5.ple
  have hxC := hxB.then hx5
  have hxlen : xs.length ≤ 8 := by omega
  replace g1 := Nat.lt_of_lt_of_le g1 hx5.size
  replace g2 := Nat.lt_of_lt_of_le g2 hx5.size
  clear hx5 hxB hO1' hO2 q0 hxl
  obtain ⟨f1, -⟩ := hO1.facts
  obtain ⟨f2, -⟩ := hO2'.facts
  have a0 : _ = some (Value.slice wa c.1.length wc) := f1 0
  have a1 : _ = some (Value.slice ha c.2.length hc') := f1 1
  have b0 : _ = some (Value.int .i64 d) := f2 0
  have b1 : _ = some (Value.int .i64 n) := f2 1
  clear f1 f2
  obtain ⟨e0, ha0, -⟩ := addV_add (d := d) (n := n) d0 n0 (by omega) (by omega)
  have hen := fun file w hr hA hV => end_c c xs 1 file d n (.agg #[.slice wa c.1.length wc, .slice ha c.2.length hc']) (.slice p1 xs.length c1) w hr hA (by omega) hV
  have hba := fun w hV => bare_c d n w hV
  have hop := fun day w hr hA hV => calOpen_c c xs 1 day (.agg #[.slice wa c.1.length wc, .slice ha c.2.length hc']) (.slice p1 xs.length c1) w hr hA hV
  have hnx := fun day w hr hA hV => calNext_c c xs 1 day (.agg #[.slice wa c.1.length wc, .slice ha c.2.length hc']) (.slice p1 xs.length c1) w hr hA hV
  have her := endE_err (xs := xs) hcE (office := 1) (file := 1) (by omega) (by omega) ha0
  have hok := fun r h => openLaw (xs := xs) (r := r) hcE ha0 hfo.out h
  rw [ha0] at hba
  replace hen := Lib.hid hen
  replace hop := Lib.hid hop
  replace hnx := Lib.hid hnx
  have he1 := hen.out 1
  obtain ⟨rr, hrr⟩ : ∃ rr, endE c xs 1 1 d n = rr := ⟨_, rfl⟩
  rw [hrr] at he1 her hok
  clear hrr
  obtain ⟨r, e⟩ := rr
  dsimp only [two] at he1 her hba
  go_wp2_with fail
  refine RetV_at (he1 _ hc hA (hV.mono hxC.ple)) ?_
  intro w6 hx6
  have hxD := hxC.then hx6
  clear he1
  replace hc := hc.mono hx6.ple
  replace hA := hA.mono mono_ActR hx6.ple
  replace a0 := hx6.cell1 a0
  replace a1 := hx6.cell1 a1
  replace b0 := hx6.cell1 b0
  replace b1 := hx6.cell1 b1
  replace g1 := Nat.lt_of_lt_of_le g1 hx6.size
  replace g2 := Nat.lt_of_lt_of_le g2 hx6.size
  go_wp2_with fail
  refine RetV_at (hba _ (hV.mono hxD.ple)) ?_
  intro w7 hx7
  have hxE := hxD.then hx7
  clear hba
  by_cases he : e = 0
  · subst he
    obtain ⟨h1, h2, h3⟩ := hok r rfl
    have he7 := hen.out 7
    have hop1 := hop.out r
    have hnx1 := hnx.out e0
    rw [h3] at he7
    rw [h1] at hop1
    generalize nextE c xs 1 e0 = nn at *
    obtain ⟨n1', n2'⟩ := nn
    dsimp only [two] at he7 hop1 hnx1
    clear hok her h1 h3 hen hop hnx
    replace hc := hc.mono hx7.ple
    replace hA := hA.mono mono_ActR hx7.ple
    replace a0 := hx7.cell1 a0
    replace a1 := hx7.cell1 a1
    replace b0 := hx7.cell1 b0
    replace b1 := hx7.cell1 b1
    replace g1 := Nat.lt_of_lt_of_le g1 hx7.size
    replace g2 := Nat.lt_of_lt_of_le g2 hx7.size
    go_wp2_with fail
    refine RetV_at (hop1 _ hc hA (hV.mono hxE.ple)) ?_
    intro w8 hx8
    replace hc := hc.mono hx8.ple
    replace hA := hA.mono mono_ActR hx8.ple
    replace a0 := hx8.cell1 a0
    replace a1 := hx8.cell1 a1
    replace b0 := hx8.cell1 b0
    replace b1 := hx8.cell1 b1
    replace g1 := Nat.lt_of_lt_of_le g1 hx8.size
    replace g2 := Nat.lt_of_lt_of_le g2 hx8.size
    replace hxE := hxE.then hx8
    go_wp2_with fail
    refine RetV_at (he7 _ hc hA (hV.mono hxE.ple)) ?_
    intro w9 hx9
    replace hc := hc.mono hx9.ple
    replace hA := hA.mono mono_ActR hx9.ple
    replace a0 := hx9.cell1 a0
    replace a1 := hx9.cell1 a1
    replace g1 := Nat.lt_of_lt_of_le g1 hx9.size
    replace hxE := hxE.then hx9
    go_wp2_with fail
    refine RetV_at (hnx1 _ hc hA (hV.mono hxE.ple)) ?_
    intro w10 hx10
    replace hxE := hxE.then hx10
    have hlv := lives_c w10 (hV.mono hxE.ple)
    have h2b : decide (e0 ≤ r) = true := by simpa using h2
    go_wp2_with fail
    refine RetV_at hlv ?_
    intro w11 hx11
    go_wp2_with fail
    go_ret
    exact ⟨rfl, hxE.then hx11⟩
  · have heb : (e != 0) = true := by rw [bne_iff_ne]; exact he
    have hlv := fun w hV => lives_c w hV
    replace her : e = 4 ∨ e = 5 := by omega
    clear hok hen hop hnx he
    rcases her with rfl | rfl
    all_goals
      go_wp2_with fail
      refine RetV_at (hlv _ (hV.mono hxE.ple)) ?_
      intro w9 hx9
      go_wp2_with fail
      go_ret
      exact ⟨rfl, hxE.then hx9⟩
theorem termOpenLaw (vl vm : Value) (l m : List Int) (from' months : Int) (w : World) (hl : IntsR (ph w) vl l) (hm : IntsR (ph w) vm m) (_ : l.length ≤ 140737488355328) (_ : m.length ≤ 140737488355328) (hf : I64 from') (hmo : I64 months) (hV : VL (ph w)) :
    Calls Tryd.prog 4 #[vl, vm, .int .i64 from', .int .i64 months] w (RetV w (.bool true)) := termOpen_c l m vl vm from' months w hl hm hf hmo hV
end Go.Proofs.YtcmdekhhclgdcaaDoor
