/- packages law and priorartref17: check, In, Valid. -/
import Derived.Test.YtcmdekhhclgdcaaGreatDoorLVal
namespace Go.Proofs.YtcmdekhhclgdcaaGreatDoor
open Go.RowKit Go.Shelf
set_option linter.unusedSimpArgs false
set_option linter.unusedVariables false
noncomputable def lchkE (r : Rul) (o p d : Int) : Int := if lawE r ≠ 0 then lawE r else if o < 0 ∨ 12 ≤ o ∨ p < 0 ∨ 19 ≤ p then 1 else if d < 0 ∨ 131072 < d then 5 else 0
set_option maxRecDepth 100000 in
set_option maxHeartbeats 2000000 in
theorem lcheck_c (r : Rul) (o p d : Int) (v : Value) (w : World) (hr : RulR (ph w) v r) (hV : VL (ph w)) (hR : VR (ph w)) : Calls Tryz.prog 22 #[v, .int .i64 o, .int .i64 p, .int .i64 d] w (RetV w (.int .i64 (lchkE r o p d))) := by
  have hE : Hid (lchkE r o p d = if lawE r ≠ 0 then lawE r else if o < 0 ∨ 12 ≤ o ∨ p < 0 ∨ 19 ≤ p then 1 else if d < 0 ∨ 131072 < d then 5 else 0) := rfl
  have hv := fun w hr hV hR => lawValid_c r v w hr hV hR
  have hh := fun w => lhas_c 0 131072 d w
  obtain ⟨a, b, rfl, hC, hB⟩ := id hr
  obtain ⟨ca, cc, rfl, clen, -⟩ := hC.form
  obtain ⟨ba, bc, rfl, blen, -⟩ := hB.form
  clear hC hB
  generalize lawE r = le at *
  have hx := Ext.new w (.cells #[.slice ca r.1.length cc, .slice ba r.2.length bc] 38)
  by_cases h0 : le = 0
  · subst h0
    by_cases h1 : o < 0 ∨ 12 ≤ o ∨ p < 0 ∨ 19 ≤ p
    · have hE2 : Hid (lchkE r o p d = 1) := by show _ = _; rw [hE.out, if_neg (by simp), if_pos h1]
      have hcs : o < 0 ∨ (¬ o < 0 ∧ 12 ≤ o) ∨ (¬ o < 0 ∧ ¬ 12 ≤ o ∧ p < 0) ∨ (¬ o < 0 ∧ ¬ 12 ≤ o ∧ ¬ p < 0 ∧ 19 ≤ p) := by omega
      clear hE h1
      rcases hcs with u1 | ⟨u1, u2⟩ | ⟨u1, u2, u3⟩ | ⟨u1, u2, u3, u4⟩
      all_goals
        go_enter Tryz.func22, Tryz.ntmps22
        go_wp2_with fail
        refine RetV_at (hv _ (hr.mono hx.ple) (hV.mono hx.ple) (hR.mono hx.ple)) ?_
        intro w2 hx2
        go_wp2_with fail
        go_ret
        exact ⟨ret_int hE2.out.symm, (by repeat (first | (with_reducible assumption) | (with_reducible exact Ext.rfl' _) | (with_reducible exact Ext.new _ _) | (with_reducible refine Ext.alloc' ?_ _) | (with_reducible refine Ext.drew' ?_) | (with_reducible refine Ext.drewN' ?_ _) | (with_reducible refine Ext.set' ?_ ?_ _; rotate_left; (focus (first | omega | (simp; done) | (simp; omega)))) | (with_reducible refine Ext.then (b := ?_) ?_ ?_; rotate_left; rotate_left; (with_reducible assumption))))⟩
    · have u1 : ¬ o < 0 := by omega
      have u2 : ¬ 12 ≤ o := by omega
      have u3 : ¬ p < 0 := by omega
      have u4 : ¬ 19 ≤ p := by omega
      by_cases h2 : d < 0 ∨ 131072 < d
      · have hE2 : Hid (lchkE r o p d = 5) := by show _ = _; rw [hE.out, if_neg (by simp), if_neg h1, if_pos h2]
        rw [inB_f (by omega)] at hh
        clear hE h1 h2
        go_enter Tryz.func22, Tryz.ntmps22
        go_wp2_with fail
        refine RetV_at (hv _ (hr.mono hx.ple) (hV.mono hx.ple) (hR.mono hx.ple)) ?_
        intro w2 hx2
        go_wp2_with fail
        refine RetV_at (hh _) ?_
        intro w3 hx3
        go_wp2_with fail
        go_ret
        exact ⟨ret_int hE2.out.symm, (by repeat (first | (with_reducible assumption) | (with_reducible exact Ext.rfl' _) | (with_reducible exact Ext.new _ _) | (with_reducible refine Ext.alloc' ?_ _) | (with_reducible refine Ext.drew' ?_) | (with_reducible refine Ext.drewN' ?_ _) | (with_reducible refine Ext.set' ?_ ?_ _; rotate_left; (focus (first | omega | (simp; done) | (simp; omega)))) | (with_reducible refine Ext.then (b := ?_) ?_ ?_; rotate_left; rotate_left; (with_reducible assumption))))⟩
      · have hE2 : Hid (lchkE r o p d = 0) := by show _ = _; rw [hE.out, if_neg (by simp), if_neg h1, if_neg h2]
        rw [inB_t (by omega)] at hh
        clear hE h1 h2
        go_enter Tryz.func22, Tryz.ntmps22
        go_wp2_with fail
        refine RetV_at (hv _ (hr.mono hx.ple) (hV.mono hx.ple) (hR.mono hx.ple)) ?_
        intro w2 hx2
        go_wp2_with fail
        refine RetV_at (hh _) ?_
        intro w3 hx3
        go_wp2_with fail
        go_ret
        exact ⟨ret_int hE2.out.symm, (by repeat (first | (with_reducible assumption) | (with_reducible exact Ext.rfl' _) | (with_reducible exact Ext.new _ _) | (with_reducible refine Ext.alloc' ?_ _) | (with_reducible refine Ext.drew' ?_) | (with_reducible refine Ext.drewN' ?_ _) | (with_reducible refine Ext.set' ?_ ?_ _; rotate_left; (focus (first | omega | (simp; done) | (simp; omega)))) | (with_reducible refine Ext.then (b := ?_) ?_ ?_; rotate_left; rotate_left; (with_reducible assumption))))⟩
  · have hE2 : Hid (lchkE r o p d = le) := by show _ = _; rw [hE.out, if_pos h0]
    have hb : (le != 0) = true := by rw [bne_iff_ne]; exact h0
    clear hE h0
    go_enter Tryz.func22, Tryz.ntmps22
    go_wp2_with fail
    refine RetV_at (hv _ (hr.mono hx.ple) (hV.mono hx.ple) (hR.mono hx.ple)) ?_
    intro w2 hx2
    go_wp2_with fail
    go_ret
    exact ⟨ret_int hE2.out.symm, (by repeat (first | (with_reducible assumption) | (with_reducible exact Ext.rfl' _) | (with_reducible exact Ext.new _ _) | (with_reducible refine Ext.alloc' ?_ _) | (with_reducible refine Ext.drew' ?_) | (with_reducible refine Ext.drewN' ?_ _) | (with_reducible refine Ext.set' ?_ ?_ _; rotate_left; (focus (first | omega | (simp; done) | (simp; omega)))) | (with_reducible refine Ext.then (b := ?_) ?_ ?_; rotate_left; rotate_left; (with_reducible assumption))))⟩
theorem refIn_c (p : Nat) (n : Int) (w : World) (hp : p < 19) : Calls Tryz.prog 46 #[.int .i64 p, .int .i64 n] w (RetP w (.bool (inR p n))) := by
  have hI : Hid (inR p n = inB n (loR p) (hiR p)) := rfl
  have hcs : (p < 7 ∧ loR p = 0 ∧ hiR p = 120) ∨ (¬ p < 7 ∧ p < 9 ∧ loR p = 1 ∧ hiR p = 100) ∨ (¬ p < 7 ∧ ¬ p < 9 ∧ p < 17 ∧ loR p = 0 ∧ hiR p = 1099511627776) ∨ (¬ p < 7 ∧ ¬ p < 9 ∧ ¬ p < 17 ∧ loR p = 0 ∧ hiR p = 100) := by
    unfold loR hiR
    by_cases h1 : p < 7
    · exact .inl ⟨h1, if_neg (by omega), if_pos h1⟩
    · by_cases h2 : p < 9
      · exact .inr (.inl ⟨h1, h2, if_pos (by omega), by rw [if_neg h1, if_pos h2]⟩)
      · by_cases h3 : p < 17
        · exact .inr (.inr (.inl ⟨h1, h2, h3, if_neg (by omega), by rw [if_neg h1, if_neg h2, if_pos h3]⟩))
        · exact .inr (.inr (.inr ⟨h1, h2, h3, if_neg (by omega), by rw [if_neg h1, if_neg h2, if_neg h3]⟩))
  have key : ∀ lo hi : Int, loR p = lo → hiR p = hi → Hid (inR p n = (decide (lo ≤ n) && decide (n ≤ hi))) := by
    intro lo hi h1 h2
    show _ = _
    rw [hI.out, h1, h2]; rfl
  rcases hcs with ⟨u1, h1, h2⟩ | ⟨u1, u2, h1, h2⟩ | ⟨u1, u2, u3, h1, h2⟩ | ⟨u1, u2, u3, h1, h2⟩
  all_goals
    have hk := key _ _ h1 h2
    clear key hI
    rw [hk.out]
    clear h1 h2 hk
    try (have v2 : (p : Int) < 7 := by omega)
    try (have v2 : ¬ (p : Int) < 7 := by omega)
    try (have v3 : (p : Int) < 9 := by omega)
    try (have v3 : ¬ (p : Int) < 9 := by omega)
    try (have v4 : (p : Int) < 17 := by omega)
    try (have v4 : ¬ (p : Int) < 17 := by omega)
  · by_cases g : (0 : Int) ≤ n
    · rw [decide_eq_true g]
      go_enter Tryz.func46, Tryz.ntmps46
      go_wp2_with fail
      go_ret
      exact ⟨rfl, rfl⟩
    · rw [decide_eq_false g]
      go_enter Tryz.func46, Tryz.ntmps46
      go_wp2_with fail
      go_ret
      exact ⟨rfl, rfl⟩
  · by_cases g : (1 : Int) ≤ n
    · rw [decide_eq_true g]
      go_enter Tryz.func46, Tryz.ntmps46
      go_wp2_with fail
      go_ret
      exact ⟨rfl, rfl⟩
    · rw [decide_eq_false g]
      go_enter Tryz.func46, Tryz.ntmps46
      go_wp2_with fail
      go_ret
      exact ⟨rfl, rfl⟩
  · by_cases g : (0 : Int) ≤ n
    · rw [decide_eq_true g]
      go_enter Tryz.func46, Tryz.ntmps46
      go_wp2_with fail
      go_ret
      exact ⟨rfl, rfl⟩
    · rw [decide_eq_false g]
      go_enter Tryz.func46, Tryz.ntmps46
      go_wp2_with fail
      go_ret
      exact ⟨rfl, rfl⟩
  · by_cases g : (0 : Int) ≤ n
    · rw [decide_eq_true g]
      go_enter Tryz.func46, Tryz.ntmps46
      go_wp2_with fail
      go_ret
      exact ⟨rfl, rfl⟩
    · rw [decide_eq_false g]
      go_enter Tryz.func46, Tryz.ntmps46
      go_wp2_with fail
      go_ret
      exact ⟨rfl, rfl⟩
set_option maxRecDepth 100000 in
set_option maxHeartbeats 4000000 in
theorem refValid17_c (r : Rul) (v : Value) (w : World) (hr : RulR (ph w) v r) : Calls Tryz.prog 25 #[v] w (RetV w (.int .i64 (lawE r))) := by
  obtain ⟨cs, bs⟩ := r
  obtain ⟨a, b, rfl, hC, hB⟩ := hr
  obtain ⟨ca, cc, rfl, clen, -⟩ := hC.form
  obtain ⟨ba, bc, rfl, blen, -⟩ := hB.form
  dsimp only at hC hB clen blen ⊢
  by_cases h1 : cs.length = 12
  · by_cases h2 : bs.length = 12
    · have hE : Hid (lawE (cs, bs) = rulF ((cs.zip bs).drop 0)) := by
        show _ = _
        unfold lawE
        rw [if_neg (by dsimp only; omega), List.drop_zero]
      have hstep := fun k (h : k < 12) => rulF_drop (cs := cs) (bs := bs) (k := k) (by omega) (by omega)
      have hdone : Hid (rulF ((cs.zip bs).drop 12) = 0) := by
        show _ = _
        rw [List.drop_of_length_le (by rw [List.length_zip]; omega)]; rfl
      have hCk : Hid (∀ k (h : k < 12), ∃ b o p n' q p' n'' q', ca = some ⟨b, o, none⟩ ∧ w.cell? ⟨b, o + k * 2, none⟩ = some (.slice p n' q) ∧ w.cell? ⟨b, o + k * 2 + 1, none⟩ = some (.slice p' n'' q') ∧ b < w.heap.size ∧ CalR (ph w) (.agg #[.slice p n' q, .slice p' n'' q']) (cs[k]'(by omega))) := Lib.hid fun k h => CalE.at hC k (by omega)
      have hBk : Hid (∀ k (h : k < 12), ∃ b o p q, ba = some ⟨b, o, none⟩ ∧ w.cell? ⟨b, o + k, none⟩ = some (.slice p (bs[k]'(by omega)).length q) ∧ b < w.heap.size ∧ IntsR (ph w) (.slice p (bs[k]'(by omega)).length q) (bs[k]'(by omega))) := Lib.hid fun k h => LstE.at hB k (by omega)
      replace hstep := Lib.hid hstep
      clear hC hB
      rw [h1, h2]
      generalize hzs : cs.zip bs = zs at *
      go_enter Tryz.func25, Tryz.ntmps25
      go_wp2_with fail
      have hO := Proofs.YtcmdekhhclgdcaaGreatDoor.Own.new w #[.slice ca 12 cc, .slice ba 12 bc] 26
      have hx := Ext.new w (.cells #[.slice ca 12 cc, .slice ba 12 bc] 26)
      have hsz := hO.lt
      generalize w.alloc _ = W at *
      obtain ⟨of, -⟩ := hO.facts
      have o0 : _ = some (Value.slice ca 12 cc) := of 0
      have o1 : _ = some (Value.slice ba 12 bc) := of 1
      clear of hO
      go_wp2_with fail
      go_loopw [3] (fun i wr => ∃ k : Nat, k ≤ 12 ∧ i = .int .i64 k ∧ Hid (lawE (cs, bs) = rulF (zs.drop k)) ∧ Ext W wr) (fun i _ => 12 - (intOf i).toNat)
      case atStart => exact ⟨0, by omega, rfl, hE, Ext.rfl' _⟩
      case round =>
        clear hE
        obtain ⟨k, hk, rfl, hE, hxr⟩ := hrel
        by_cases hlt : k < 12
        · have hlt' : (k : Int) < 12 := by omega
          obtain ⟨gb, go, p, n', q, p', n'', q', rfl, c0, c1, cl, hcr⟩ := hCk.out k hlt
          obtain ⟨lb, lo, lp, lq, rfl, l0, ll, hlr⟩ := hBk.out k hlt
          have hs := hstep.out k hlt
          generalize cs[k]'(by omega) = C at *
          generalize bs[k]'(by omega) = L at *
          have hxw := hx.then hxr
          replace c0 := hxw.cell1 c0
          replace c1 := hxw.cell1 c1
          replace l0 := hxw.cell1 l0
          replace hcr := hcr.mono hxw.ple
          replace hlr := hlr.mono mono_IntR hxw.ple
          replace cl := Nat.lt_of_lt_of_le cl hxw.size
          replace ll := Nat.lt_of_lt_of_le ll hxw.size
          have o0' := hxr.cell1 o0
          have o1' := hxr.cell1 o1
          have hsz' := Nat.lt_of_lt_of_le hsz hxr.size
          have hcv := fun w hr => rcalValid_c C (.agg #[.slice p n' q, .slice p' n'' q']) w hr
          generalize calE C = ce at *
          replace hs := Lib.hid hs
          clear hCk hBk
          go_wp2_with fail
          refine RetV_at (hcv _ hcr) ?_
          intro w3 hx3
          have hx23 := hx3
          replace o0' := hx23.cell1 o0'
          replace o1' := hx23.cell1 o1'
          replace hsz' := Nat.lt_of_lt_of_le hsz' hx23.size
          replace l0 := hx23.cell1 l0
          replace ll := Nat.lt_of_lt_of_le ll hx23.size
          replace hlr := hlr.mono mono_IntR hx23.ple
          replace hxw := hxw.then hx23
          replace hxr := hxr.then hx23
          clear hx23 hcv hcr c0 c1 cl
          by_cases hce : ce = 0
          · subst hce
            by_cases hl19 : L.length = 19
            · have hE2 : Hid (lawE (cs, bs) = if rngF 0 (L.drop 0) = false then 5 else rulF (zs.drop (k + 1))) := by
                show _ = _
                rw [hE.out, hs.out, if_neg (by simp), if_neg (by omega), List.drop_zero]
              have hrs := fun j (h : j < 19) => rngF_drop (l := L) (k := j) (by omega)
              have hr19 : Hid (rngF 19 (L.drop 19) = true) := by
                show _ = _
                rw [List.drop_of_length_le (by omega)]; rfl
              have hIk : Hid (∀ j (h : j < 19), ∃ b o, lp = some ⟨b, o, none⟩ ∧ w3.cell? ⟨b, o + j, none⟩ = some (.int .i64 (L[j]'(by omega))) ∧ b < w3.heap.size) := Lib.hid fun j h => by
                obtain ⟨b, o, h1, h2, -, h3⟩ := IntsR.at hlr j (by omega)
                exact ⟨b, o, h1, h2, h3⟩
              have hg := fun w (p : Nat) n hp => refIn_c p n w hp
              replace hrs := Lib.hid hrs
              replace hg := Lib.hid hg
              clear hlr hE hs
              rw [hl19] at l0
              go_wp2_with fail
              go_loopw [5] (fun i wq => ∃ j : Nat, j ≤ 19 ∧ i = .int .i64 j ∧ Hid (rngF 0 (L.drop 0) = rngF j (L.drop j)) ∧ Ext w3 wq) (fun i _ => 19 - (intOf i).toNat)
              case atStart => exact ⟨0, by omega, rfl, Lib.hid rfl, Ext.rfl' _⟩
              case round =>
                obtain ⟨j, hj, rfl, hF, hxq⟩ := hrel
                by_cases hlt2 : j < 19
                · have hlt2' : (j : Int) < 19 := by omega
                  obtain ⟨ib, io, rfl, i0, il⟩ := hIk.out j hlt2
                  have hrs1 := hrs.out j hlt2
                  generalize L[j]'(by omega) = y at *
                  replace i0 := hxq.cell1 i0
                  replace il := Nat.lt_of_lt_of_le il hxq.size
                  have hgg := hg.out wr j y hlt2
                  have oq0 := hxq.cell1 o0'
                  have oq1 := hxq.cell1 o1'
                  have oqs := Nat.lt_of_lt_of_le hsz' hxq.size
                  have lq0 := hxq.cell1 l0
                  have lqs := Nat.lt_of_lt_of_le ll hxq.size
                  obtain ⟨bb, hbb⟩ : ∃ bb, inR j y = bb := ⟨_, rfl⟩
                  rw [hbb] at hrs1 hgg
                  clear hbb hIk hrs hg
                  cases bb with
                  | true =>
                    have hF2 : Hid (rngF 0 (L.drop 0) = rngF (j + 1) (L.drop (j + 1))) := by show _ = _; rw [hF.out, hrs1]; rfl
                    clear hrs1
                    go_wp2_with fail
                    refine RetP_at hgg ?_
                    go_wp2_with fail
                    go_roundw
                    case rel => exact ⟨j + 1, by omega, rfl, hF2, hxq⟩
                    case measure => simp [intOf]; omega
                  | false =>
                    have hE3 : Hid (lawE (cs, bs) = 5) := by show _ = _; rw [hE2.out, hF.out, hrs1]; rfl
                    clear hrs1
                    go_wp2_with fail
                    refine RetP_at hgg ?_
                    go_wp2_with fail
                    go_ret
                    exact ⟨ret_int hE3.out.symm, hxw.then hxq⟩
                · obtain rfl : j = 19 := by omega
                  have hE3 : Hid (lawE (cs, bs) = rulF (zs.drop (k + 1))) := by show _ = _; rw [hE2.out, hF.out, hr19.out]; rfl
                  go_wp2_with fail
                  go_roundw
                  case rel => exact ⟨k + 1, by omega, rfl, hE3, hxr.then hxq⟩
                  case measure => simp [intOf]; omega
            · have hE2 : Hid (lawE (cs, bs) = 1) := by
                show _ = _
                rw [hE.out, hs.out, if_neg (by simp), if_pos hl19]
              have hl' : ((L.length : Int) != 19) = true := by simp; omega
              clear hE hs
              go_wp2_with fail
              go_ret
              exact ⟨ret_int hE2.out.symm, hxw⟩
          · have hE2 : Hid (lawE (cs, bs) = ce) := by
              show _ = _
              rw [hE.out, hs.out, if_pos hce]
            have hb : (ce != 0) = true := by rw [bne_iff_ne]; exact hce
            clear hE hs hce
            go_wp2_with fail
            go_ret
            exact ⟨ret_int hE2.out.symm, hxw⟩
        · obtain rfl : k = 12 := by omega
          have hz : Hid (lawE (cs, bs) = 0) := by show _ = _; rw [hE.out]; exact hdone.out
          go_wp2_with fail
          go_ret
          exact ⟨ret_int hz.out.symm, hx.then hxr⟩
    · have hE : Hid (lawE (cs, bs) = 1) := by show _ = _; unfold lawE; rw [if_pos (by dsimp only; omega)]
      have h2' : ((bs.length : Int) != 12) = true := by simp; omega
      clear hC hB h2
      rw [h1]
      go_enter Tryz.func25, Tryz.ntmps25
      go_wp2_with fail
      go_ret
      exact ⟨ret_int hE.out.symm, (by repeat (first | (with_reducible assumption) | (with_reducible exact Ext.rfl' _) | (with_reducible exact Ext.new _ _) | (with_reducible refine Ext.alloc' ?_ _) | (with_reducible refine Ext.drew' ?_) | (with_reducible refine Ext.drewN' ?_ _) | (with_reducible refine Ext.set' ?_ ?_ _; rotate_left; (focus (first | omega | (simp; done) | (simp; omega)))) | (with_reducible refine Ext.then (b := ?_) ?_ ?_; rotate_left; rotate_left; (with_reducible assumption))))⟩
  · have hE : Hid (lawE (cs, bs) = 1) := by show _ = _; unfold lawE; rw [if_pos (by dsimp only; omega)]
    have h2' : ((cs.length : Int) != 12) = true := by simp; omega
    clear hC hB h1
    go_enter Tryz.func25, Tryz.ntmps25
    go_wp2_with fail
    go_ret
    exact ⟨ret_int hE.out.symm, (by repeat (first | (with_reducible assumption) | (with_reducible exact Ext.rfl' _) | (with_reducible exact Ext.new _ _) | (with_reducible refine Ext.alloc' ?_ _) | (with_reducible refine Ext.drew' ?_) | (with_reducible refine Ext.drewN' ?_ _) | (with_reducible refine Ext.set' ?_ ?_ _; rotate_left; (focus (first | omega | (simp; done) | (simp; omega)))) | (with_reducible refine Ext.then (b := ?_) ?_ ?_; rotate_left; rotate_left; (with_reducible assumption))))⟩
end Go.Proofs.YtcmdekhhclgdcaaGreatDoor
