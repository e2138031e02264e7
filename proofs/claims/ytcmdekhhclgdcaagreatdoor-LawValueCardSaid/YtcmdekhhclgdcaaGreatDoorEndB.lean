/- package priorartref15: End.; package term: Kept.; package priorartlaw15: own. -/
import Derived.Test.YtcmdekhhclgdcaaGreatDoorEndA
namespace Go.Proofs.YtcmdekhhclgdcaaGreatDoor
open Go.RowKit Go.Shelf
set_option linter.unusedSimpArgs false
set_option linter.unusedVariables false
theorem endF_big {p : Int → Bool} {a e : Int} (h : 131072 < e) : ∀ f, endF p f a e = e
  | 0 => rfl
  | f + 1 => endF_stop (.inr h)
set_option maxRecDepth 100000 in
set_option maxHeartbeats 4000000 in
theorem rend_c (c : Cal) (xs : List Ac) (office file d n : Int) (v va : Value) (w : World) (hr : CalR (ph w) v c) (hA : ActsR (ph w) va xs) (hd : I64 d) (hn : I64 n) :
    Calls Tryz.prog 30 #[v, .int .i64 office, .int .i64 file, va, .int .i64 d, .int .i64 n] w (RetV w (two (endE c xs office file d n).1 (endE c xs office file d n).2)) := by
  have hck := fun w hr => rcheck_c c office 0 v w hr
  have htc := fun w hA => rtcheck_c file xs va w hA
  have hra := fun w => radd_c d n w
  have hmn := fun a e w hA h1 h2 h3 h4 => rmany_c file a e xs va w hA h1 h2 h3 h4
  have hnx := fun day w hr hA => rnext_c c xs office day v va w hr hA
  have hE : Hid (endE c xs office file d n = if checkE c office 0 ≠ 0 then (0, checkE c office 0) else if tchk file xs ≠ 0 then (0, tchk file xs) else if (addV d n).2 ≠ 0 then (0, (addV d n).2) else
    if 131072 < endF (brokB file xs) 131074 (d + 1) (addV d n).1 then (0, 5) else nextE c xs office (endF (brokB file xs) 131074 (d + 1) (addV d n).1)) := rfl
  have hak := fun h => addV_ok (d := d) (n := n) h
  obtain ⟨a, b, rfl, hW, hH⟩ := id hr
  obtain ⟨wa, wc, rfl, wlen, -⟩ := hW.form
  obtain ⟨ha, hc, rfl, hlen', -⟩ := hH.form
  obtain ⟨xa, xc, rfl, xlen, -⟩ := hA.form
  generalize checkE c office 0 = ce at *
  generalize tchk file xs = te at *
  generalize addV d n = rr at *
  obtain ⟨e0, e1⟩ := rr
  dsimp only [two] at hra hnx hE hak ⊢
  have hO5 := Proofs.YtcmdekhhclgdcaaGreatDoor.Own.new w #[.slice wa c.1.length wc, .slice ha c.2.length hc] 53
  have hxb : Ext w (w.alloc (.cells #[.slice wa c.1.length wc, .slice ha c.2.length hc] 53)) := (by repeat (first | (with_reducible assumption) | (with_reducible exact Ext.rfl' _) | (with_reducible exact Ext.new _ _) | (with_reducible refine Ext.alloc' ?_ _) | (with_reducible refine Ext.drew' ?_) | (with_reducible refine Ext.drewN' ?_ _) | (with_reducible refine Ext.set' ?_ ?_ _; rotate_left; (focus (first | omega | (simp; done) | (simp; omega)))) | (with_reducible refine Ext.then (b := ?_) ?_ ?_; rotate_left; rotate_left; (with_reducible assumption))))
  by_cases h0 : ce = 0
  · subst h0
    by_cases h1 : te = 0
    · subst h1
      by_cases h2 : e1 = 0
      · subst h2
        obtain ⟨d0, n0, n1, e0d, e0m, -⟩ := hak rfl
        have hE2 : Hid (endE c xs office file d n = if 131072 < endF (brokB file xs) 131074 (d + 1) e0 then (0, 5) else nextE c xs office (endF (brokB file xs) 131074 (d + 1) e0)) := by
          show _ = _; rw [hE.out]; rw [if_neg (by simp), if_neg (by simp), if_neg (by simp)]
        clear hE hak
        have hst := fun f a e h => endF_stop (p := brokB file xs) (f := f) (a := a) (e := e) h
        have hgo := fun f a e h => endF_go (p := brokB file xs) (f := f) (a := a) (e := e) h
        have hbg := fun f a e h => endF_big (p := brokB file xs) (a := a) (e := e) h f
        have hml := fun a e => many_le (brokB file xs) a e
        have hid0 : Hid (∀ f a e, endF (brokB file xs) f a e = endF (brokB file xs) f a e) := Lib.hid fun _ _ _ => rfl
        obtain ⟨R, hR⟩ : ∃ R, endF (brokB file xs) 131074 (d + 1) e0 = R := ⟨_, rfl⟩
        rw [hR] at hE2
        replace hR := Lib.hid hR
        replace hst := Lib.hid hst
        replace hgo := Lib.hid hgo
        replace hbg := Lib.hid hbg
        replace hml := Lib.hid hml
        go_enter Tryz.func30, Tryz.ntmps30
        go_wp2_with fail
        refine RetV_at (hck _ (hr.mono hxb.ple)) ?_
        intro w2 hx2
        have hx := hxb.then hx2
        go_wp2_with fail
        refine RetV_at (htc _ (hA.mono mono_ActR hx.ple)) ?_
        intro w3 hx3
        have hx4 := hx.then hx3
        go_wp2_with fail
        refine RetV_at (hra _) ?_
        intro w5 hx5
        have hx6 := hx4.then hx5
        have hO6 := hO5.keep ((hx2.then hx3).then hx5)
        go_wp2_with fail
        go_loopw [16, 18] (fun e' a' wr => ∃ (f : Nat) (a e : Int), e' = .int .i64 e ∧ a' = .int .i64 a ∧ 0 ≤ a ∧ a ≤ 300000 ∧ 0 ≤ e ∧ e ≤ 131072 ∧ 131073 - e ≤ f ∧ Hid (endF (brokB file xs) f a e = R) ∧ Ext w5 wr) (fun e' _ _ => (131073 - intOf e').toNat)
        case atStart => exact ⟨131074, d + 1, e0, rfl, rfl, by omega, by omega, by omega, e0m, by omega, hR, Ext.rfl' _⟩
        case round =>
          obtain ⟨f, a, e, rfl, rfl, a0, a1, e2, e3, hf, hF, hxr⟩ := hrel
          obtain ⟨f, rfl⟩ : ∃ g, f = g + 1 := ⟨f - 1, by omega⟩
          have hx7 := hx6.then hxr
          have hmc := hmn a e wr (hA.mono mono_ActR hx7.ple) (by omega) (by omega) (by omega) (by omega)
          have hO7 := hO6.keep hxr
          obtain ⟨c5, -⟩ := hO7.facts
          have c50 : _ = some (Value.slice wa c.1.length wc) := c5 0
          have c51 : _ = some (Value.slice ha c.2.length hc) := c5 1
          clear c5
          obtain ⟨k0, k1⟩ := hml.out a e
          have hst1 := hst.out f a e
          have hgo1 := hgo.out f a e
          generalize many (brokB file xs) a e = k at *
          by_cases hk : k = 0
          · have hRe : R = e := by rw [← hF.out]; exact hst1 (.inl hk)
            have hE3 : Hid (endE c xs office file d n = nextE c xs office e) := by show _ = _; rw [hE2.out, hRe, if_neg (by omega)]
            subst hk
            clear hst1 hgo1 hRe hmn hck htc hra
            go_wp2_with fail
            refine RetP_at hmc ?_
            go_wp2_with fail
            refine RetV_at (hnx e _ (hr.mono hx7.ple) (hA.mono mono_ActR hx7.ple)) ?_
            intro w8 hx8
            go_wp2_with fail
            go_ret2
            rw [hE3.out]
            exact ⟨rfl, hx7.then hx8⟩
          · have hkb : (k == 0) = false := by simpa using hk
            have hF2 := hgo1 (by omega)
            by_cases hb : 131072 < e + k
            · have hRe : R = e + k := by rw [← hF.out, hF2]; exact hbg.out _ _ _ hb
              have hE3 : Hid (endE c xs office file d n = (0, 5)) := by show _ = _; rw [hE2.out, hRe, if_pos hb]
              clear hst1 hgo1 hRe hmn hck htc hra hF2 hk
              go_wp2_with fail
              refine RetP_at hmc ?_
              go_wp2_with fail
              go_ret2
              rw [hE3.out]
              exact ⟨rfl, hx7⟩
            · have hF3 : Hid (endF (brokB file xs) f (e + 1) (e + k) = R) := by show _ = _; rw [← hF2]; exact hF.out
              clear hst1 hgo1 hmn hck htc hra hF2 hF
              go_wp2_with fail
              refine RetP_at hmc ?_
              go_wp2_with fail
              go_roundw
              case rel => exact ⟨f, e + 1, e + k, rfl, rfl, by omega, by omega, by omega, by omega, by omega, hF3, hxr⟩
              case measure => simp [intOf]; omega
      · have hE2 : Hid (endE c xs office file d n = (0, e1)) := by show _ = _; rw [hE.out]; rw [if_neg (by simp), if_neg (by simp), if_pos h2]
        have hb : (e1 != 0) = true := by rw [bne_iff_ne]; exact h2
        clear hE hnx hak hmn h2
        go_enter Tryz.func30, Tryz.ntmps30
        go_wp2_with fail
        refine RetV_at (hck _ (hr.mono hxb.ple)) ?_
        intro w2 hx2
        have hx := hxb.then hx2
        go_wp2_with fail
        refine RetV_at (htc _ (hA.mono mono_ActR hx.ple)) ?_
        intro w3 hx3
        have hx4 := hx.then hx3
        go_wp2_with fail
        refine RetV_at (hra _) ?_
        intro w5 hx5
        have hx6 := hx4.then hx5
        go_wp2_with fail
        go_ret2
        rw [hE2.out]
        exact ⟨rfl, hx6⟩
    · have hE2 : Hid (endE c xs office file d n = (0, te)) := by show _ = _; rw [hE.out]; rw [if_neg (by simp), if_pos h1]
      have hb : (te != 0) = true := by rw [bne_iff_ne]; exact h1
      clear hE hnx hak hmn h1
      go_enter Tryz.func30, Tryz.ntmps30
      go_wp2_with fail
      refine RetV_at (hck _ (hr.mono hxb.ple)) ?_
      intro w2 hx2
      have hx := hxb.then hx2
      go_wp2_with fail
      refine RetV_at (htc _ (hA.mono mono_ActR hx.ple)) ?_
      intro w3 hx3
      have hx4 := hx.then hx3
      go_wp2_with fail
      go_ret2
      rw [hE2.out]
      exact ⟨rfl, hx4⟩
  · have hE2 : Hid (endE c xs office file d n = (0, ce)) := by show _ = _; rw [hE.out, if_pos h0]
    have hb : (ce != 0) = true := by rw [bne_iff_ne]; exact h0
    clear hE h0 hnx hmn htc hra hak
    go_enter Tryz.func30, Tryz.ntmps30
    go_wp2_with fail
    refine RetV_at (hck _ (hr.mono hxb.ple)) ?_
    intro w2 hx2
    have hx := hxb.then hx2
    go_wp2_with fail
    go_ret2
    rw [hE2.out]
    exact ⟨rfl, hx⟩
end Go.Proofs.YtcmdekhhclgdcaaGreatDoor
namespace Go.Proofs.YtcmdekhhclgdcaaGreatDoor
open Go.RowKit Go.Shelf
set_option linter.unusedSimpArgs false
set_option linter.unusedVariables false
/-- whether a day is within a term, and the error -/
noncomputable def keptE (r : Int × Int) (d day : Int) : Bool × Int := if r.2 ≠ 0 then (false, r.2) else if day < 0 ∨ 131072 < day then (false, 5) else (decide (d ≤ day) && decide (day ≤ r.1), 0)
end Go.Proofs.YtcmdekhhclgdcaaGreatDoor
namespace Go.Proofs.YtcmdekhhclgdcaaGreatDoor
open Go.RowKit Go.Shelf
set_option linter.unusedSimpArgs false
set_option linter.unusedVariables false
end Go.Proofs.YtcmdekhhclgdcaaGreatDoor
