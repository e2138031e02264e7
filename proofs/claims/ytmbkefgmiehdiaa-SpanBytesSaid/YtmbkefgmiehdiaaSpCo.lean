/- the reference of package span: Combine. -/
import Derived.Deep.CutBlock
import Derived.Test.YtmbkefgmiehdiaaSpOf
import Derived.Test.YtmbkefgmiehdiaaSpCe
import Derived.Test.YtmbkefgmiehdiaaSpRv
import Derived.Test.YtmbkefgmiehdiaaSpW
namespace Go.Proofs.Ytmbkefgmiehdiaa
open Go.RowKit Go.Shelf
set_option linter.unusedSimpArgs false
set_option linter.unusedVariables false
theorem starts_far {ps : List Rat2} : ∀ e ∈ starts ps, e.far ≠ 1 := by
  intro e he
  unfold starts at he
  rcases List.mem_cons.1 he with rfl | he
  · decide
  · obtain ⟨p, -, h⟩ := List.mem_flatMap.1 he
    simp only [List.mem_cons, List.not_mem_nil, or_false] at h
    rcases h with rfl | rfl <;> simp
theorem zip_map {α β : Type} (f : α → β) : ∀ l : List α, l.zip (l.map f) = l.map fun a => (a, f a)
  | [] => rfl
  | a :: l => by rw [List.map_cons, List.zip_cons_cons, zip_map f l, List.map_cons]
theorem marks_zip (keep : List Bool → Bool) (ls : List (List Itv)) (ps : List Rat2) : marks keep ls (starts ps ++ [topE]) = zipZ ps ((starts ps).map fun e => keep (ls.map fun l => covB l e)) := by
  unfold marks zipZ
  rw [List.map_append, zip_map]
  congr 1
  refine List.map_congr_left fun e he => ?_
  simp [starts_far e he]
theorem comb_zip (keep : List Bool → Bool) (ls : List (List Itv)) : combF keep ls = pairs (runZ none (zipZ (ptsL ls.flatten) ((starts (ptsL ls.flatten)).map fun e => keep (ls.map fun l => covB l e)))) := by
  unfold combF; rw [marks_zip]
theorem comb_not1 (a : List Itv) : combF notK [a, []] = combF notK [a] := by
  rw [comb_zip, comb_zip]
  simp [notK]
set_option maxRecDepth 100000 in
set_option maxHeartbeats 8000000 in
theorem rcomb_c (how : Int) (keep : List Bool → Bool) (hcase : (how = 0 ∧ ∀ x y, keep [x, y] = (x || y)) ∨ (how = 1 ∧ ∀ x y, keep [x, y] = (x && y)) ∨ (how = 2 ∧ ∀ x y, keep [x, y] = !x)) (va vb : Value) (a b : List Itv) (w : World) (ha : ItvsR (ph w) va a) (hb : ItvsR (ph w) vb b) :
    Calls Try.prog 15 #[va, vb, .int .i64 how] w (SetRes w (twoS keep a b)) := by
  have hva := rvalid4_c va a w ha
  have hvb := fun (w' : World) (hx : Ext w w') => rvalid4_c vb b w' (hb.mono mono_ItvR hx.ple)
  have hS2 := fun W (hx : Ext w W) => setsR2 (Proofs.Ytmbkefgmiehdiaa.Own.new W #[va, vb] 23) (hx.then (Ext.new W (.cells #[va, vb] 23))) ha hb
  have hs : Hid (twoS keep a b = if setE a ≠ 0 then ([], setE a) else if setE b ≠ 0 then ([], setE b) else fewE (combF keep [a, b])) := by
    show _ = _
    unfold twoS
    rw [setsE_2]
    by_cases h1 : setE a = 0 <;> by_cases h2 : setE b = 0 <;> simp [h1, h2]
  have hg0 : Hid (setE a = 0 → setE b = 0 → ∀ x ∈ [a, b].flatten, goodB x = true) := Lib.hid fun h1 h2 x hx => by
    simp only [List.flatten_cons, List.flatten_nil, List.append_nil, List.mem_append] at hx
    rcases hx with hx | hx
    · exact (setE_0 h1).1 x hx
    · exact (setE_0 h2).1 x hx
  have hl0 : Hid (setE a = 0 → setE b = 0 → [a, b].flatten.length ≤ 64) := Lib.hid fun h1 h2 => by
    have h3 := (setE_0 h1).2
    have h4 := (setE_0 h2).2
    simp; omega
  have hpt := fun (w' : World) (v : Value) (h : SetsR (ph w') v [a, b]) (h1 : setE a = 0) (h2 : setE b = 0) => points_c v [a, b] w' h (hg0.out h1 h2) (by have := hl0.out h1 h2; omega)
  have hce := fun (h1 : setE a = 0) (h2 : setE b = 0) (l : List Itv) (hsub : ∀ x ∈ l, x ∈ [a, b].flatten) (vl vp : Value) (w' : World) (hl : ItvsR (ph w') vl l) (hr : RatsR (ph w') vp (ptsL [a, b].flatten)) => cells_c vl vp [a, b].flatten l (ptsL [a, b].flatten) w' hl hr (pts_of (hg0.out h1 h2)) hsub (fun x hx => hg0.out h1 h2 x (hsub x hx)) (by have := ptsL_len [a, b].flatten; have := hl0.out h1 h2; omega)
  have hpl : Hid (setE a = 0 → setE b = 0 → (ptsL [a, b].flatten).length ≤ 128) := Lib.hid fun h1 h2 => by have := ptsL_len [a, b].flatten; have := hl0.out h1 h2; omega
  have hsa : Hid (∀ x ∈ a, x ∈ [a, b].flatten) := Lib.hid fun x hx => by simp [hx]
  have hsb : Hid (∀ x ∈ b, x ∈ [a, b].flatten) := Lib.hid fun x hx => by simp [hx]
  have hcz : Hid (combF keep [a, b] = pairs (runZ none (zipZ (ptsL [a, b].flatten) ((starts (ptsL [a, b].flatten)).map fun e => keep [covB a e, covB b e])))) := Lib.hid (comb_zip keep [a, b])
  replace hpt := Lib.hid hpt
  replace hce := Lib.hid hce
  replace hS2 := Lib.hid hS2
  replace hvb := Lib.hid hvb
  obtain ⟨pa, ca, rfl, -, ha⟩ := ha.form
  obtain ⟨pb, cb, rfl, -, hb⟩ := hb.form
  generalize [a, b].flatten = fl at *
  generalize hP : ptsL fl = P at *
  generalize setE a = ea at *
  generalize setE b = eb at *
  replace hva := Lib.hid hva
  clear hg0 hl0
  by_cases h1 : ea = 0
  · subst h1
    by_cases h2 : eb = 0
    · subst h2
      rw [if_neg (by simp), if_neg (by simp)] at hs
      have hpt' := fun w' v h => hpt.out w' v h rfl rfl
      have hce' := hce.out rfl rfl
      have hpl' := hpl.out rfl rfl
      replace hpt' := Lib.hid hpt'
      replace hce' := Lib.hid hce'
      clear hpt hce hpl
      go_enter Try.func15, Try.ntmps15
      go_wp2_with fail
      refine RetV_at hva.out ?_
      intro w1 hx1
      go_wp2_with fail
      refine RetV_at (hvb.out w1 hx1) ?_
      intro w2 hx2
      replace hx1 := hx1.then hx2
      have hpp := hpt'.out _ _ (hS2.out w2 hx1)
      replace hpp := Lib.hid hpp
      have hx3 := hx1.then (Ext.new w2 (.cells #[.slice pa a.length ca, .slice pb b.length cb] 23))
      clear hva hvb hx2 hpt' hS2
      go_wp2_with fail
      refine hpp.out.mono ?_
      rintro e w4 ⟨vp, rfl, hx4, hrp⟩
      replace hx3 := hx3.then hx4
      have hc1 := hce'.out a hsa.out (.slice pa a.length ca) vp w4 (ha.mono mono_ItvR hx3.ple) hrp
      obtain ⟨qa, qc, rfl, -, hrp⟩ := hrp.form
      replace hc1 := Lib.hid hc1
      clear hpp hx4
      go_wp2_with fail
      refine hc1.out.mono ?_
      rintro e w5 ⟨vx, rfl, hx5, hrx⟩
      replace hx3 := hx3.then hx5
      have hrp5 := hrp.mono mono_RatR hx5.ple
      have hc2 := hce'.out b hsb.out (.slice pb b.length cb) _ w5 (hb.mono mono_ItvR hx3.ple) hrp5
      obtain ⟨xa, xc, rfl, -, hrx⟩ := hrx.form
      replace hc2 := Lib.hid hc2
      clear hc1 hce' ha hb hrp
      go_wp2_with fail
      refine hc2.out.mono ?_
      rintro e w6 ⟨vy, rfl, hx6, hry⟩
      replace hx3 := hx3.then hx6
      replace hrp5 := hrp5.mono mono_RatR hx6.ple
      replace hrx := hrx.mono mono_BoolR hx6.ple
      obtain ⟨ya, yc, rfl, -, hry⟩ := hry.form
      clear hc2 hx6 hx5
      simp only [cellsL_len] at hrx hry ⊢
      obtain ⟨M, hMd⟩ : ∃ M, 2 * P.length + 1 = M := ⟨_, rfl⟩
      have hM6 : M ≤ 257 := by omega
      have hXl : (cellsL a P).length = M := by rw [cellsL_len]; exact hMd
      have hYl : (cellsL b P).length = M := by rw [cellsL_len]; exact hMd
      have hKl : ((starts P).map fun e => keep [covB a e, covB b e]).length = M := by rw [List.length_map, starts_len]; exact hMd
      have hK : ∀ i (h : i < M), ((starts P).map fun e => keep [covB a e, covB b e])[i]'(by omega) = keep [(cellsL a P)[i]'(by omega), (cellsL b P)[i]'(by omega)] := fun i h => by
        simp [cellsL]
      simp only [hMd] at hrx hry ⊢
      have pack : ∃ KC X Y : List Bool, ∃ (hXl : X.length = M) (hYl : Y.length = M) (hKl : KC.length = M), (∀ i (h : i < M), KC[i]'(by omega) = keep [X[i]'(by omega), Y[i]'(by omega)]) ∧ BoolsR (ph w6) (.slice xa M xc) X ∧ BoolsR (ph w6) (.slice ya M yc) Y ∧ combF keep [a, b] = pairs (runZ none (zipZ P KC)) :=
        ⟨_, _, _, hXl, hYl, hKl, hK, hrx, hry, hcz.out⟩
      clear hXl hYl hKl hK hcz
      clear hrx hry
      obtain ⟨KC, X, Y, hXl, hYl, hKl, hK, hrx, hry, hcz⟩ := pack
      replace hcz := Lib.hid hcz
      have hrof := fun (vp vb : Value) (w' : World) (hr : RatsR (ph w') vp P) (hb : BoolsR (ph w') vb KC) => rof_c vp vb P KC w' hr hb (by omega) (by omega)
      replace hrof := Lib.hid hrof
      replace hK := Lib.hid hK
      replace hXl := Lib.hid hXl
      replace hYl := Lib.hid hYl
      replace hKl := Lib.hid hKl
      replace hMd := Lib.hid hMd
      replace hP := Lib.hid hP
      clear hsa hsb
      have hM0 := (Mem.start w6 noH (noH_le _)).nil mono_BoolR 1 4
      simp only [List.nil_append] at hM0
      go_upto_block 0 with (fail)
      go_cut [13] (fun v wx => Mem w6 noH [own mono_BoolR 1 4 v KC] noH wx)
      case first =>
        go_wp2_with fail
        go_loopw [13, 14] (fun v vi wr => ∃ (i : Nat) (bs : List Bool), i ≤ M ∧ vi = .int .i64 i ∧ Hid (bs = KC.take i) ∧ Mem w6 noH [own mono_BoolR 1 4 v bs] noH wr) (fun _ vi _ => M - (intOf vi).toNat)
        case atStart => exact ⟨0, [], by omega, rfl, Lib.hid (by simp), hM0⟩
        case round =>
          clear hM0
          obtain ⟨i, bs, hi, rfl, hbs, hM⟩ := hrel
          by_cases hlt : i < M
          · obtain ⟨b1, o1, rfl, g0, gl0⟩ := BoolsR.at (hrx.mono mono_BoolR hM.ex.ple) i (by rw [hXl.out]; exact hlt)
            obtain ⟨b2, o2, rfl, g1, gl1⟩ := BoolsR.at (hry.mono mono_BoolR hM.ex.ple) i (by rw [hYl.out]; exact hlt)
            have hja : decide (i < M) = true := decide_eq_true hlt
            have hki := hK.out i hlt
            have hk1 : bs ++ [KC[i]'(by rw [hKl.out]; exact hlt)] = KC.take (i + 1) := by rw [hbs.out, List.take_succ_eq_append_getElem]
            rw [hki] at hk1
            have hbl : bs.length ≤ 300 := by rw [hbs.out, List.length_take]; omega
            generalize (X[i]'(by rw [hXl.out]; exact hlt)) = xv at *
            generalize (Y[i]'(by rw [hYl.out]; exact hlt)) = yv at *
            obtain ⟨va, vc, rfl, -⟩ := hM.form 0 rfl
            replace hki := Lib.hid hki
            have hmk : ∀ q : Bool, ∃ (hM5 : Mem w6 noH [own mono_BoolR 1 4 (.slice va bs.length vc) bs] noH (wr.alloc (.cells #[.bool q] 4))), Src (wr.alloc (.cells #[.bool q] 4)) noH BoolR 1 (.slice (some ⟨wr.heap.size, 0, none⟩) 1 1) [q] := fun q =>
              ⟨hM.ext (Ext.new wr (.cells #[.bool q] 4)), Src.lit1 (cs := [.bool q]) rfl rfl (fun j => by rw [(Proofs.Ytmbkefgmiehdiaa.Own.new wr _ _).facts.1]; simp)⟩
            rcases hcase with ⟨rfl, hkk⟩ | ⟨rfl, hkk⟩ | ⟨rfl, hkk⟩
            · rw [hkk] at hk1
              obtain ⟨hM5, hS⟩ := hmk (xv || yv)
              have hk2 := Lib.hid hk1
              replace hmk := Lib.hid hmk
              clear hk1 hM hkk
              cases xv with
              | true =>
                simp only [Bool.true_or] at hM5 hS hk2
                go_wp2_with (first | (at_builtin; refine wpList_append_M 0 rfl _ _ 67 rfl Try.underlying67 infoBool rfl rfl rfl hM5 rfl hS one_BoolR (by simp; omega) (by simp; omega) ?a5))
                case a5 =>
                  intro v' w' hM6
                  try simp only [List.set_cons_zero, List.set_cons_succ] at hM6
                  rw [hk2.out] at hM6
                  obtain ⟨a7, c7, rfl, -⟩ := hM6.form 0 rfl
                  clear hM5 hS
                  go_wp2_with fail
                  go_roundw
                  case rel => exact ⟨i + 1, _, by omega, by go_num, Lib.hid rfl, hM6⟩
                  case measure => simp [intOf]; omega
              | false =>
                simp only [Bool.false_or] at hM5 hS hk2
                go_wp2_with (first | (at_builtin; refine wpList_append_M 0 rfl _ _ 67 rfl Try.underlying67 infoBool rfl rfl rfl hM5 rfl hS one_BoolR (by simp; omega) (by simp; omega) ?b5))
                case b5 =>
                  intro v' w' hM6
                  try simp only [List.set_cons_zero, List.set_cons_succ] at hM6
                  rw [hk2.out] at hM6
                  obtain ⟨a7, c7, rfl, -⟩ := hM6.form 0 rfl
                  clear hM5 hS
                  go_wp2_with fail
                  go_roundw
                  case rel => exact ⟨i + 1, _, by omega, by go_num, Lib.hid rfl, hM6⟩
                  case measure => simp [intOf]; omega
            · rw [hkk] at hk1
              obtain ⟨hM5, hS⟩ := hmk (xv && yv)
              have hk2 := Lib.hid hk1
              replace hmk := Lib.hid hmk
              clear hk1 hM hkk
              cases xv with
              | true =>
                simp only [Bool.true_and] at hM5 hS hk2
                go_wp2_with (first | (at_builtin; refine wpList_append_M 0 rfl _ _ 67 rfl Try.underlying67 infoBool rfl rfl rfl hM5 rfl hS one_BoolR (by simp; omega) (by simp; omega) ?c5))
                case c5 =>
                  intro v' w' hM6
                  try simp only [List.set_cons_zero, List.set_cons_succ] at hM6
                  rw [hk2.out] at hM6
                  obtain ⟨a7, c7, rfl, -⟩ := hM6.form 0 rfl
                  clear hM5 hS
                  go_wp2_with fail
                  go_roundw
                  case rel => exact ⟨i + 1, _, by omega, by go_num, Lib.hid rfl, hM6⟩
                  case measure => simp [intOf]; omega
              | false =>
                simp only [Bool.false_and] at hM5 hS hk2
                go_wp2_with (first | (at_builtin; refine wpList_append_M 0 rfl _ _ 67 rfl Try.underlying67 infoBool rfl rfl rfl hM5 rfl hS one_BoolR (by simp; omega) (by simp; omega) ?d5))
                case d5 =>
                  intro v' w' hM6
                  try simp only [List.set_cons_zero, List.set_cons_succ] at hM6
                  rw [hk2.out] at hM6
                  obtain ⟨a7, c7, rfl, -⟩ := hM6.form 0 rfl
                  clear hM5 hS
                  go_wp2_with fail
                  go_roundw
                  case rel => exact ⟨i + 1, _, by omega, by go_num, Lib.hid rfl, hM6⟩
                  case measure => simp [intOf]; omega
            · rw [hkk] at hk1
              obtain ⟨hM5, hS⟩ := hmk (!xv)
              have hk2 := Lib.hid hk1
              replace hmk := Lib.hid hmk
              clear hk1 hM hkk
              go_wp2_with (first | (at_builtin; refine wpList_append_M 0 rfl _ _ 67 rfl Try.underlying67 infoBool rfl rfl rfl hM5 rfl hS one_BoolR (by simp; omega) (by simp; omega) ?e5))
              case e5 =>
                intro v' w' hM6
                try simp only [List.set_cons_zero, List.set_cons_succ] at hM6
                rw [hk2.out] at hM6
                obtain ⟨a7, c7, rfl, -⟩ := hM6.form 0 rfl
                clear hM5 hS
                go_wp2_with fail
                go_roundw
                case rel => exact ⟨i + 1, _, by omega, by go_num, Lib.hid rfl, hM6⟩
                case measure => simp [intOf]; omega
          · have hja : decide (i < M) = false := by simpa using hlt
            have hbs2 : bs = KC := by rw [hbs.out, List.take_of_length_le (by rw [hKl.out]; omega)]
            rw [hbs2] at hM
            clear hbs2
            go_wp2_with fail
            go_meet
            case rel => exact hM
      case rest =>
        clear hM0
        have hM := hcut
        clear hcut
        obtain ⟨va, vc, rfl, -⟩ := hM.form 0 rfl
        have hb9 : BoolsR (ph wc) (.slice va KC.length vc) KC := hM.rep 0 rfl
        rw [hKl.out] at hb9 ⊢
        have hrf := hrof.out (.slice qa P.length qc) (.slice va M vc) wc (hrp5.mono mono_RatR hM.ex.ple) hb9
        replace hrf := Lib.hid hrf
        replace hx3 := hx3.then hM.ex
        clear hM
        go_wp2_with fail
        refine hrf.out.mono ?_
        rintro e w8 ⟨v8, rfl, hx8, hr8⟩
        go_wp2_with fail
        go_ret2
        rw [hs.out, hcz.out]
        exact ⟨v8, rfl, hx3.then hx8, hr8⟩
    · rw [if_neg (by simp), if_pos h2] at hs
      have hb2 : (eb != 0) = true := by simpa using h2
      clear hpt hce hpl hS2
      go_enter Try.func15, Try.ntmps15
      go_wp2_with fail
      refine RetV_at hva.out ?_
      intro w1 hx1
      go_wp2_with fail
      refine RetV_at (hvb.out w1 hx1) ?_
      intro w2 hx2
      go_wp2_with fail
      go_ret2
      rw [hs.out]
      exact ⟨_, rfl, hx1.then hx2, SliceRep.nil _ _ _⟩
  · rw [if_pos h1] at hs
    have hb1 : (ea != 0) = true := by simpa using h1
    clear hpt hce hpl hS2
    go_enter Try.func15, Try.ntmps15
    go_wp2_with fail
    refine RetV_at hva.out ?_
    intro w1 hx1
    go_wp2_with fail
    go_ret2
    rw [hs.out]
    exact ⟨_, rfl, hx1, SliceRep.nil _ _ _⟩
end Go.Proofs.Ytmbkefgmiehdiaa
