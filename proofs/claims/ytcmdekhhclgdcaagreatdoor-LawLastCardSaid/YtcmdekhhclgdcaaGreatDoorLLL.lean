/- LawLast: the walk. -/
import Derived.Test.YtcmdekhhclgdcaaGreatDoorLRA
import Derived.Test.YtcmdekhhclgdcaaGreatDoorLSm
import Derived.Test.YtcmdekhhclgdcaaGreatDoorLOw
import Derived.Test.YtcmdekhhclgdcaaGreatDoorLEA
import Derived.Test.YtcmdekhhclgdcaaGreatDoorLAc
namespace Go.Proofs.YtcmdekhhclgdcaaGreatDoor
open Go.RowKit Go.Shelf
set_option linter.unusedSimpArgs false
set_option linter.unusedVariables false
theorem llast_8 {r : Rul} {o f p d : Int} {xs : List Ac} (h : 7 < p) : ∃ e, llastE r o f p d xs = (0, e) ∧ e ≠ 0 := by
  unfold llastE
  by_cases h0 : (lvalE r o p d xs).2 ≠ 0
  · rw [if_pos h0]; exact ⟨_, rfl, h0⟩
  · rw [if_neg h0, if_pos h]; exact ⟨1, rfl, by omega⟩
/-- rules out of a list of two -/
def GetR (W : World) (g : Nat) : Prop := ∀ i : Nat, i < 2 → ∃ a n c a' n' c' r, W.cell? ⟨g, i * 2, none⟩ = some (.slice a n c) ∧ W.cell? ⟨g, i * 2 + 1, none⟩ = some (.slice a' n' c') ∧ RulR (ph W) (.agg #[.slice a n c, .slice a' n' c']) r ∧ r.1.length ≤ 13
theorem GetR.ext {W W' : World} {g : Nat} (h : GetR W g) (e : Ext W W') : GetR W' g := fun i hi => by
  obtain ⟨a, n, c, a', n', c', r, h1, h2, h3, h4⟩ := h i hi
  exact ⟨a, n, c, a', n', c', r, e.cell1 h1, e.cell1 h2, h3.mono e.ple, h4⟩
set_option maxRecDepth 100000 in
set_option maxHeartbeats 40000000 in
theorem lawLast17_c (l m : List Int) (vl vm : Value) (n office file par from' : Int) (w : World) (hl : IntsR (ph w) vl l) (hm : IntsR (ph w) vm m) (hn : I64 n) (hpa : I64 par) (hfr : I64 from') (hV : VL (ph w)) (hR : VR (ph w)) :
    Calls Tryz.prog 4 #[vl, .int .i64 n, vm, .int .i64 office, .int .i64 file, .int .i64 par, .int .i64 from'] w (RetV w (.bool true)) := by
  have har := fun w => around_c from' 125000 w hfr (by omega) (by omega)
  obtain ⟨d0, d1⟩ := aroundV_range (m := 125000) hfr (by omega)
  generalize aroundV from' 125000 = d at *
  have har2 := fun w => around_c par 11 w hpa (by omega) (by omega)
  obtain ⟨y0, y1⟩ := aroundV_range (m := 11) hpa (by omega)
  generalize aroundV par 11 = y at *
  have hac := fun w hm => acts17_c m vm d 10 w hm d0 (by omega) (by omega)
  have hso := fun w hl => some17_c l vl n w hl hn
  obtain ⟨la, lc, rfl, llen, -⟩ := id hl.form
  obtain ⟨ma, mc, rfl, mlen, -⟩ := id hm.form
  replace har := Lib.hid har
  replace har2 := Lib.hid har2
  replace hac := Lib.hid hac
  replace hso := Lib.hid hso
  go_enter Tryz.func4, Tryz.ntmps4
  go_wp2_with fail
  refine (refDef17_c _).mono ?_
  rintro e w1 ⟨x1, x2, HX, rfl, hMX⟩
  have hx1 := hMX.ex
  have hrd : RulR (ph w1) (.agg #[x1, x2]) defR := ⟨_, _, rfl, hMX.rep 0 rfl, (hMX.rep 1 rfl).weaken fun _ _ h => h.lst⟩
  obtain ⟨a0, n0, k0, a1, n1, k1, ev⟩ := hrd.form
  cases ev
  clear hMX
  go_wp2_with fail
  refine (hso.out _ (hl.mono mono_IntR hx1.ple)).mono ?_
  rintro e w2 ⟨v2, r, rfl, hrl, hx2', hr⟩
  obtain ⟨a2, n2, k2, a3, n3, k3, rfl⟩ := hr.form
  have hx2 := hx1.then hx2'
  replace hrd := hrd.mono hx2'.ple
  clear hso hx1 hx2'
  go_upto_region 2 with (fail)
  have hO2 := Proofs.YtcmdekhhclgdcaaGreatDoor.Own.new w2 #[.slice a0 n0 k0, .slice a1 n1 k1, .slice a2 n2 k2, .slice a3 n3 k3] 26
  have hxn := Ext.new w2 (.cells #[.slice a0 n0 k0, .slice a1 n1 k1, .slice a2 n2 k2, .slice a3 n3 k3] 26)
  have hg2 : Hid (GetR (w2.alloc (.cells #[.slice a0 n0 k0, .slice a1 n1 k1, .slice a2 n2 k2, .slice a3 n3 k3] 26)) w2.heap.size) := Lib.hid fun i hi => by
    match i, hi with
    | 0, _ => exact ⟨_, _, _, _, _, _, defR, hO2.facts.1 0, hO2.facts.1 1, hrd.mono hxn.ple, by have := (lawE_len lawE_def).1; omega⟩
    | 1, _ => exact ⟨_, _, _, _, _, _, r, hO2.facts.1 2, hO2.facts.1 3, hr.mono hxn.ple, hrl⟩
  have hb2 := hO2.lt
  have hx3 := hx2.then hxn
  clear hO2 hxn hrd hr hx2
  generalize w2.alloc _ = W2 at *
  generalize w2.heap.size = b2 at *
  go_wp2_with fail
  refine RetV_at (har.out _) ?_
  intro w3 hx3'
  have hx4 := hx3.then hx3'
  go_wp2_with fail
  refine (hac.out _ (hm.mono mono_IntR hx4.ple)).mono ?_
  rintro e w4 ⟨va, xs, rfl, hx4', hxl, -, hA⟩
  have hx5 := hx4.then hx4'
  have hxlen : xs.length ≤ 100000 := by omega
  replace hA : ActsR (ph w4) va xs := hA.rep mono_ActR (noH_le _)
  obtain ⟨aa, ac, rfl, -, -⟩ := id hA.form
  have hget := Lib.hid (hg2.out.ext (hx3'.then hx4'))
  have hb4 : b2 < w4.heap.size := Nat.lt_of_lt_of_le hb2 (hx3'.then hx4').size
  replace hV := hV.mono hx5.ple
  replace hR := hR.mono hx5.ple
  clear hg2 hac har hxl hx3' hx4' hx3 hx4 hb2 hm hl
  go_wp2_with fail
  go_loopw [18] (fun vi wr => ∃ i : Nat, i ≤ 2 ∧ vi = .int .i64 i ∧ Ext w4 wr) (fun vi _ => 2 - (intOf vi).toNat)
  case atStart => exact ⟨0, by omega, rfl, Ext.rfl' _⟩
  case round =>
    obtain ⟨i, hi, rfl, hxi⟩ := hrel
    by_cases hlt : i < 2
    · have hi2 : (i : Int) < 2 := by omega
      have hja : decide ((i : Int) < 2) = true := decide_eq_true hi2
      obtain ⟨ra, rn, rc, ra2, rn2, rc2, r, g1, g2, hr, hrl⟩ := hget.out.ext hxi i hlt
      have hbi : b2 < wr.heap.size := Nat.lt_of_lt_of_le hb4 hxi.size
      have hAi := hA.mono mono_ActR hxi.ple
      have hVi := hV.mono hxi.ple
      have hRi := hR.mono hxi.ple
      have hown := fun w hr => own17_c r (.agg #[.slice ra rn rc, .slice ra2 rn2 rc2]) w hr (by omega)
      have hla := fun o f p d v w hr hA hV hR => lLast_c r o f p d v (.slice aa xs.length ac) xs w hr hA hxlen hV hR
      have hra := fun o f p d w hr hA => rlast17_c r o f p d (.agg #[.slice ra rn rc, .slice ra2 rn2 rc2]) (.slice aa xs.length ac) xs w hr hA hxlen
      replace hown := Lib.hid hown
      replace hla := Lib.hid hla
      replace hra := Lib.hid hra
      go_wp2_with fail
      generalize wr = WI at *
      go_loopw [19] (fun vi wr2 => ∃ p : Nat, p ≤ 8 ∧ vi = .int .i64 p ∧ Ext WI wr2) (fun vi _ => 8 - (intOf vi).toNat)
      case atStart => exact ⟨0, by omega, rfl, Ext.rfl' _⟩
      case round =>
        obtain ⟨p, hp, rfl, hxp⟩ := hrel
        have c1 := hxp.cell1 g1
        have c2 := hxp.cell1 g2
        have lp : b2 < wr.heap.size := Nat.lt_of_lt_of_le hbi hxp.size
        by_cases hlp : p < 8
        · have hp8 : (p : Int) < 8 := by omega
          have hjb : decide ((p : Int) < 8) = true := decide_eq_true hp8
          obtain ⟨q, eq⟩ : ∃ q : Nat, (p : Int) % 2 = q := ⟨((p : Int) % 2).toNat, by omega⟩
          obtain ⟨⟨e1, e2⟩, he⟩ : ∃ e, llastE r q 0 p d xs = e := ⟨_, rfl⟩
          have hl1 := fun v w hr hA hV hR => hla.out q 0 p d v w hr hA hV hR
          have hl2 := fun w hr hA => hra.out q 0 p d w hr hA
          rw [he] at hl1 hl2
          dsimp only [two] at hl1 hl2
          replace hl1 := Lib.hid hl1
          replace hl2 := Lib.hid hl2
          have b1 : (e1 != e1) = false := by simp
          have b2' : (e2 != e2) = false := by simp
          clear he
          go_wp2_with fail
          refine (hown.out _ (hr.mono hxp.ple)).mono ?_
          rintro e w5 ⟨v5, rfl, hy5, hr5⟩
          have hz5 := hxp.then hy5
          go_wp2_with fail
          refine RetV_at (hl1.out _ _ hr5 (hAi.mono mono_ActR hz5.ple) (hVi.mono hz5.ple) (hRi.mono hz5.ple)) ?_
          intro w6 hy6
          have hz6 := hz5.then hy6
          have d1 := hz6.cell1 g1
          have d2 := hz6.cell1 g2
          have l6 : b2 < w6.heap.size := Nat.lt_of_lt_of_le hbi hz6.size
          clear hr5 c1 c2
          go_wp2_with fail
          refine RetV_at (hl2.out _ (hr.mono hz6.ple) (hAi.mono mono_ActR hz6.ple)) ?_
          intro w7 hy7
          have hz7 := hz6.then hy7
          clear hl1 hl2 d1 d2
          go_wp2_with fail
          go_roundw
          case rel => exact ⟨p + 1, by omega, by go_num, hz7⟩
          case measure => simp [intOf]; omega
        · have hjb : decide ((p : Int) < 8) = false := decide_eq_false (by omega)
          have hp8 : ¬ (p : Int) < 8 := by omega
          obtain ⟨⟨e1, e2⟩, he⟩ : ∃ e, llastE r office file par from' xs = e := ⟨_, rfl⟩
          have hl1 := fun v w hr hA hV hR => hla.out office file par from' v w hr hA hV hR
          have hl2 := fun w hr hA => hra.out office file par from' w hr hA
          rw [he] at hl1 hl2
          dsimp only [two] at hl1 hl2
          obtain ⟨e3, he3, hne3⟩ := llast_8 (r := r) (o := 1) (f := 0) (p := 8 + y) (d := d) (xs := xs) (by omega)
          have hl3 := fun v w hr hA hV hR => hla.out 1 0 (8 + y) d v w hr hA hV hR
          rw [he3] at hl3
          dsimp only [two] at hl3
          replace hl1 := Lib.hid hl1
          replace hl2 := Lib.hid hl2
          replace hl3 := Lib.hid hl3
          have b1 : (e1 != e1) = false := by simp
          have b2' : (e2 != e2) = false := by simp
          have b3 : (e3 == 0) = false := by simpa using hne3
          have hw8 : IntKind.i64.wrap (8 + y) = 8 + y := by rw [IntKind.wrap_i64]; omega
          clear he he3 hne3 hla hra
          go_wp2_with fail
          refine (hown.out _ (hr.mono hxp.ple)).mono ?_
          rintro e w5 ⟨v5, rfl, hy5, hr5⟩
          have hz5 := hxp.then hy5
          go_wp2_with fail
          refine RetV_at (hl1.out _ _ hr5 (hAi.mono mono_ActR hz5.ple) (hVi.mono hz5.ple) (hRi.mono hz5.ple)) ?_
          intro w6 hy6
          have hz6 := hz5.then hy6
          have d1 := hz6.cell1 g1
          have d2 := hz6.cell1 g2
          have l6 : b2 < w6.heap.size := Nat.lt_of_lt_of_le hbi hz6.size
          clear hr5 c1 c2
          go_wp2_with fail
          refine RetV_at (hl2.out _ (hr.mono hz6.ple) (hAi.mono mono_ActR hz6.ple)) ?_
          intro w7 hy7
          have hz7 := hz6.then hy7
          clear hl1 hl2 d1 d2
          have d1 := hz7.cell1 g1
          have d2 := hz7.cell1 g2
          have l7 : b2 < w7.heap.size := Nat.lt_of_lt_of_le hbi hz7.size
          go_wp2_with fail
          refine (hown.out _ (hr.mono hz7.ple)).mono ?_
          rintro e w8 ⟨v8, rfl, hy8, hr8⟩
          have hz8 := hz7.then hy8
          clear d1 d2
          go_wp2_with fail
          refine RetV_at (har2.out _) ?_
          intro w9 hy9
          have hz9 := hz8.then hy9
          go_wp2_with fail
          refine RetV_at (hl3.out _ _ (hr8.mono hy9.ple) (hAi.mono mono_ActR hz9.ple) (hVi.mono hz9.ple) (hRi.mono hz9.ple)) ?_
          intro wA hyA
          have hzA := hxi.then (hz9.then hyA)
          clear hl3 hr8
          go_wp2_with fail
          go_roundw
          case rel => exact ⟨i + 1, by omega, by go_num, hzA⟩
          case measure => simp [intOf]; omega
    · have hi2 : ¬ (i : Int) < 2 := by omega
      have hja : decide ((i : Int) < 2) = false := decide_eq_false hi2
      have hlv := lives17_c wr (hV.mono hxi.ple) (hR.mono hxi.ple)
      have hxe := hx5.then hxi
      clear hget
      go_wp2_with fail
      refine RetV_at hlv ?_
      intro wf hxf
      go_wp2_with fail
      go_ret
      exact ⟨rfl, hxe.then hxf⟩
theorem lawLastLaw (vl vm : Value) (l : List Int) (n : Int) (m : List Int) (office file par from' : Int) (w : World) (hl : IntsR (ph w) vl l) (hm : IntsR (ph w) vm m) (_ : l.length ≤ 140737488355328) (_ : m.length ≤ 140737488355328) (hn : I64 n) (_ : I64 office) (_ : I64 file) (hpa : I64 par) (hfr : I64 from') (hV : VL (ph w)) (hR : VR (ph w)) :
    Calls Tryz.prog 4 #[vl, .int .i64 n, vm, .int .i64 office, .int .i64 file, .int .i64 par, .int .i64 from'] w (RetV w (.bool true)) :=
  lawLast17_c l m vl vm n office file par from' w hl hm hn hpa hfr hV hR
end Go.Proofs.YtcmdekhhclgdcaaGreatDoor
