/- TermDays: the walk. -/
import Derived.Test.YtcmdekhhclgdcaaDoorTSome
import Derived.Test.YtcmdekhhclgdcaaDoorTLaw2
namespace Go.Proofs.YtcmdekhhclgdcaaDoor
open Go.RowKit Go.Shelf
set_option linter.unusedSimpArgs false
set_option linter.unusedVariables false
theorem many_step (p : Int → Bool) {a x : Int} (h : a ≤ x + 1) : many p a (x + 1) = many p a x + if p (x + 1) then 1 else 0 := by
  rw [many_split p (b := x) h (by omega), many_one]
set_option maxRecDepth 100000 in
set_option maxHeartbeats 4000000 in
theorem termDays_c (l : List Int) (vl : Value) (from' months : Int) (w : World) (hl : IntsR (ph w) vl l) (hf : I64 from') (hmo : I64 months) (hV : VL (ph w)) :
    Calls Tryd.prog 6 #[vl, .int .i64 from', .int .i64 months] w (RetV w (.bool true)) := by
  have har := fun w => around_c from' 120000 w hf (by omega) (by omega)
  obtain ⟨d0, d1⟩ := aroundV_range (m := 120000) hf (by omega)
  generalize aroundV from' 120000 = d at *
  have har2 := fun w => around_c months 30 w hmo (by omega) (by omega)
  obtain ⟨n0, n1⟩ := aroundV_range (m := 30) hmo (by omega)
  generalize aroundV months 30 = n at *
  have hac := fun w hl => acts_c l vl d 10 w hl d0 (by omega) (by omega)
  obtain ⟨la, lc, rfl, llen, hl⟩ := hl.form
  go_enter Tryd.func6, Tryd.ntmps6
  go_wp2_with fail
  refine RetV_at (har _) ?_
  intro w3 hx3
  go_wp2_with fail
  refine RetV_at (har2 _) ?_
  intro w4 hx4
  have hO2 := Proofs.YtcmdekhhclgdcaaDoor.Own.new w4 #[.int .i64 d, .int .i64 n] 44
  have hxB := (hx3.then hx4).then (Ext.new w4 (.cells #[.int .i64 d, .int .i64 n] 44))
  have q0 : _ = some (Value.int .i64 d) := hO2.facts.1 0
  have g2 := hO2.lt
  clear har har2 hx4 hx3
  go_upto_region 2 with (fail)
  generalize w4.alloc _ = W at *
  generalize w4.heap.size = gt at *
  go_wp2_with fail
  refine (hac _ (hl.mono mono_IntR hxB.ple)).mono ?_
  rintro e w5 ⟨v1, xs, rfl, hx5, hxl, -, ho⟩
  have hA := ho.rep mono_ActR (noH_le _)
  clear ho hac hl
  obtain ⟨p1, c1, rfl, -⟩ := hA.form
  have hO2' := hO2.keep hx5
  have hxC := hxB.then hx5
  have hxlen : xs.length ≤ 10 := by omega
  replace g2 := Nat.lt_of_lt_of_le g2 hx5.size
  clear hx5 hxB hO2 q0 hxl
  obtain ⟨f2, -⟩ := hO2'.facts
  have b0 : _ = some (Value.int .i64 d) := f2 0
  have b1 : _ = some (Value.int .i64 n) := f2 1
  clear f2 hO2'
  have hM0 := (Mem.start w5 noH (noH_le _)).nil mono_ActR 19 63
  simp only [List.nil_append] at hM0
  obtain ⟨N, hN⟩ : ∃ N, xs.length = N := ⟨_, rfl⟩
  have hA2 : Hid (∀ k : Nat, k < N → ∃ x b o, p1 = some ⟨b, o, none⟩ ∧ (∀ j u, (actC x)[j]? = some u → w5.cell? ⟨b, o + k * 19 + j, none⟩ = some u) ∧ b < w5.heap.size ∧ x.I) := by
    intro k hk
    obtain ⟨b, o, h1, h2, h3, h4⟩ := ActsR.row hA k (by omega)
    exact ⟨xs[k], b, o, h1, h2, h3, h4⟩
  rw [hN] at hxlen
  simp only [hN]
  clear hA hN
  go_wp2_with fail
  go_loopw [8, 10] (fun va i wr => ∃ k : Nat, k ≤ N ∧ i = .int .i64 k ∧ ∃ ys : List Ac, Hid (ys.length ≤ k ∧ ∀ y ∈ ys, y.kind = 9) ∧ Mem w5 noH [own mono_ActR 19 63 va ys] noH wr) (fun _ i _ => N - (intOf i).toNat)
  case atStart => exact ⟨0, by omega, rfl, [], Lib.hid (by simp), hM0⟩
  case round =>
    clear hM0
    obtain ⟨k, hk, rfl, ys, hys, hM⟩ := hrel
    obtain ⟨ya, yc, rfl, -⟩ := hM.form 0 rfl
    by_cases hlt : k < N
    · have hja : decide (k < N) = true := by simpa using hlt
      obtain ⟨x, b, o, rfl, gc, gl, hI⟩ := hA2.out k hlt
      replace gc := fun j u h => hM.ex.cell1 (gc j u h)
      replace gl := Nat.lt_of_lt_of_le gl hM.ex.size
      have c0 : wr.cell? ⟨b, o + k * 19, none⟩ = some (.int .i64 x.kind) := gc 0 _ rfl
      replace gc := Lib.hid gc
      by_cases hkd : x.kind = 9
      · have hkb : (x.kind == 9) = true := by simpa using hkd
        have hM6 := hM.allocN (.cells (actC x).toArray 63)
        have hS := Src.lit1 (w := wr.alloc (.cells (actC x).toArray 63)) (b := wr.heap.size) (sz := 19) (E := ActR) (H := noH) (x := x) (cs := actC x) ⟨rfl, hI⟩ rfl (fun j => by rw [(Proofs.YtcmdekhhclgdcaaDoor.Own.new wr (actC x).toArray 63).facts.1 j]; simp)
        have hys2 : Hid ((ys ++ [x]).length ≤ k + 1 ∧ ∀ y ∈ ys ++ [x], y.kind = 9) := by
          refine ⟨by have := hys.out.1; simp; omega, fun y hy => ?_⟩
          rcases List.mem_append.1 hy with hy | hy
          · exact hys.out.2 y hy
          · have e : y = x := by simpa using hy
            rw [e]; exact hkd
        have hyl : ys.length ≤ 10 := by have := hys.out.1; omega
        clear hkd
        go_upto_region 8 with (fail)
        go_upto_region 6 with (first | (refine wpList_load_mid rfl 63 _ rfl _ _ rfl (actC _) _ gc.out Tryd.underlying63 rfl (by kernel_rfl) ?_) | (refine wpList_slice_act rfl _ rfl (x) rfl ?_) | (at_builtin; refine wpList_append_M 0 rfl _ _ 24 rfl Tryd.underlying24 infoAct rfl rfl rfl hM6 rfl hS one_ActR (by simp; omega) (by simp; omega) ?c5))
        case c5 =>
          intro v' w6 hM7
          try simp only [List.set_cons_succ, List.set_cons_zero] at hM7
          go_wp2_with fail
          go_roundw
          case rel => exact ⟨k + 1, by omega, rfl, ys ++ [x], hys2, hM7⟩
          case measure => simp [intOf]; omega
      · have hkb : (x.kind == 9) = false := by simpa using hkd
        clear hkd gc
        go_wp2_with fail
        go_roundw
        case rel => exact ⟨k + 1, by omega, rfl, ys, Lib.hid ⟨by have := hys.out.1; omega, hys.out.2⟩, hM⟩
        case measure => simp [intOf]; omega
    · have hja : decide (k < N) = false := by simpa using hlt
      have hyl : ys.length ≤ 10 := by have := hys.out.1; omega
      have hA := hM.rep 0 rfl
      have hx6 := hM.ex
      clear hM hA2
      replace b0 := hx6.cell1 b0
      replace b1 := hx6.cell1 b1
      replace g2 := Nat.lt_of_lt_of_le g2 hx6.size
      have hxD := hxC.then hx6
      obtain ⟨e0, ha0, hdl⟩ := daysLaw (xs := ys) hys.out.2 d0 d1 n0 n1
      have hen := end_c c0 ys 3 0 d n (.agg #[.slice none 0 0, .slice none 0 0]) (.slice ya ys.length yc) wr (calR_0 _) hA (by omega) (hV.mono hxD.ple)
      have hba := fun w hV => bare_c d n w hV
      rw [ha0] at hba
      have hbk := fun x w hA => rbroken_c 0 x ys (.slice ya ys.length yc) w hA
      have hstep := fun x h => many_step (brokB 0 ys) (a := d + 1) (x := x) h
      have hemp := many_empty (brokB 0 ys) (a := d + 1) (b := d) (by omega)
      replace hdl := Lib.hid hdl
      generalize endE c0 ys 3 0 d n = rr at *
      generalize brokB 0 ys = p at *
      obtain ⟨r, e⟩ := rr
      replace hbk := Lib.hid hbk
      replace hstep := Lib.hid hstep
      replace hemp := Lib.hid hemp
      dsimp only [two] at hen hba
      go_wp2_with fail
      refine RetV_at hen ?_
      intro w7 hx7
      have hxE := hxD.then hx7
      replace b0 := hx7.cell1 b0
      replace b1 := hx7.cell1 b1
      replace g2 := Nat.lt_of_lt_of_le g2 hx7.size
      go_wp2_with fail
      refine RetV_at (hba _ (hV.mono hxE.ple)) ?_
      intro w8 hx8
      have hxF := hxE.then hx8
      replace b0 := hx8.cell1 b0
      replace b1 := hx8.cell1 b1
      replace g2 := Nat.lt_of_lt_of_le g2 hx8.size
      replace hA := hA.mono mono_ActR (hx7.then hx8).ple
      have hlv := fun w hV => lives_c w hV
      rcases hdl.out with h5 | ⟨r', hr', r0, r1, r2, r3⟩
      · subst h5
        clear hdl hbk hstep hemp hba hen
        go_wp2_with fail
        refine RetV_at (hlv _ (hV.mono hxF.ple)) ?_
        intro w9 hx9
        go_wp2_with fail
        go_ret
        exact ⟨rfl, hxF.then hx9⟩
      · cases hr'
        clear hdl hba hen
        replace r2 := Lib.hid r2
        replace r3 := Lib.hid r3
        go_wp2_with fail
        go_loopw [15, 16] (fun vw vx wx => wx = w8 ∧ ∃ x m : Int, d ≤ x ∧ x ≤ r ∧ vx = .int .i64 (x + 1) ∧ 0 ≤ m ∧ m ≤ x - d ∧ Hid (m = x - d - many p (d + 1) x) ∧ vw = .int .i64 m) (fun _ vx _ => (r + 1 - intOf vx).toNat)
        case atStart => exact ⟨rfl, d, 0, by omega, by omega, rfl, by omega, by omega, Lib.hid (by rw [hemp.out]; omega), rfl⟩
        case round =>
          obtain ⟨rfl, x, m, x0, x1, rfl, m0, m1, hm, rfl⟩ := hrel
          by_cases hxr : x < r
          · have hb := hbk.out (x + 1) wr hA
            have hs := hstep.out x (by omega)
            cases hp : p (x + 1) with
            | true =>
              rw [hp] at hb
              have hm2 : Hid (m = x + 1 - d - many p (d + 1) (x + 1)) := by
                show _ = _
                rw [hs, hp, if_pos rfl]; have := hm.out; omega
              clear hs hp
              go_wp2_with fail
              refine RetP_at hb ?_
              go_wp2_with fail
              go_roundw
              case rel => exact ⟨trivial, x + 1, m, by omega, by omega, rfl, by omega, by omega, hm2, rfl⟩
              case measure => simp [intOf]; omega
            | false =>
              rw [hp] at hb
              have hm2 : Hid (m + 1 = x + 1 - d - many p (d + 1) (x + 1)) := by
                show _ = _
                rw [hs, hp, if_neg (by simp)]; have := hm.out; omega
              clear hs hp
              go_wp2_with fail
              refine RetP_at hb ?_
              go_wp2_with fail
              go_roundw
              case rel => exact ⟨trivial, x + 1, m + 1, by omega, by omega, rfl, by omega, by omega, hm2, rfl⟩
              case measure => simp [intOf]; omega
          · obtain rfl : x = r := by omega
            have hme : m = e0 - d := by have := hm.out; have := r2.out; omega
            have hmb : (m == e0 - d) = true := by simpa using hme
            have hwr : IntKind.i64.wrap (e0 - d) = e0 - d := by rw [IntKind.wrap_i64]; omega
            have hpx := r3.out
            clear hstep hemp hm r2 r3
            by_cases hdx : d < x
            · have hb := hbk.out x wr hA
              rw [hpx hdx] at hb
              clear hpx hbk
              go_wp2_with fail
              refine RetP_at hb ?_
              go_wp2_with fail
              refine RetV_at (hlv _ (hV.mono hxF.ple)) ?_
              intro w9 hx9
              go_wp2_with fail
              go_ret
              exact ⟨rfl, hxF.then hx9⟩
            · clear hpx hbk
              go_wp2_with fail
              refine RetV_at (hlv _ (hV.mono hxF.ple)) ?_
              intro w9 hx9
              go_wp2_with fail
              go_ret
              exact ⟨rfl, hxF.then hx9⟩
theorem termDaysLaw (vl : Value) (l : List Int) (from' months : Int) (w : World) (hl : IntsR (ph w) vl l) (_ : l.length ≤ 140737488355328) (hf : I64 from') (hmo : I64 months) (hV : VL (ph w)) :
    Calls Tryd.prog 6 #[vl, .int .i64 from', .int .i64 months] w (RetV w (.bool true)) := termDays_c l vl from' months w hl hf hmo hV
end Go.Proofs.YtcmdekhhclgdcaaDoor
