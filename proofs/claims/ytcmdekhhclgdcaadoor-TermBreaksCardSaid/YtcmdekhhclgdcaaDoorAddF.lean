/- package civil: Add. -/
import Derived.Test.YtcmdekhhclgdcaaDoorDateF
namespace Go.Proofs.YtcmdekhhclgdcaaDoor
open Go.RowKit Go.Shelf
set_option linter.unusedSimpArgs false
set_option linter.unusedVariables false
attribute [local go_sem] Oper.semAt_some
theorem isDate_ex (d : Int) (h0 : 0 ≤ d) : ∃ y m k, IsDate d y m k := by
  have hy : ∀ n : Nat, ∃ y : Int, 1900 ≤ y ∧ bef y - bef 1900 ≤ d ∧ (d < bef (y + 1) - bef 1900 ∨ y = 1900 + n) := by
    intro n
    induction n with
    | zero => exact ⟨1900, by omega, by omega, .inr (by omega)⟩
    | succ n ih =>
      obtain ⟨y, a, b, c | c⟩ := ih
      · exact ⟨y, a, b, .inl c⟩
      · by_cases h : d < bef (y + 1) - bef 1900
        · exact ⟨y, a, b, .inl h⟩
        · exact ⟨y + 1, by omega, by omega, .inr (by omega)⟩
  obtain ⟨y, a, b, c⟩ := hy d.toNat
  have hlt : d < bef (y + 1) - bef 1900 := by
    rcases c with c | c
    · exact c
    · have := bef_mono (a := 1900) (b := y + 1) (by omega)
      omega
  have e4 := bef_succ y
  have e5 := dayM_12 y
  obtain ⟨g1, g2, g3, g4, g5⟩ := accD_all y (d - bef y + bef 1900) (by omega) (by omega)
  exact ⟨y, _, _, a, g1, g2, g3, g4, by omega⟩
theorem dateV_is (d : Int) (h0 : 0 ≤ d) : IsDate d (dateV d).1 (dateV d).2.1 (dateV d).2.2 := by
  obtain ⟨y, m, k, h⟩ := isDate_ex d h0
  rw [dateV_eq h]; exact h
theorem IsDate.y1 {d y m k : Int} (h : IsDate d y m k) (hd : d ≤ 131072) : y ≤ 2300 := by
  have h1 := h.lo.1
  have := bef_mono (a := 1900) (b := y) h.y0
  omega
theorem lenM_bd (y m : Int) : 28 ≤ lenM y m ∧ lenM y m ≤ 31 := by
  unfold lenM
  repeat' split
  all_goals omega
set_option maxRecDepth 100000 in
set_option maxHeartbeats 2000000 in
theorem add_c (d many : Int) (w : World) (hV : VL (ph w)) : Calls Tryd.prog 29 #[.int .i64 d, .int .i64 many] w (RetV w (two (addV d many).1 (addV d many).2)) := by
  by_cases h1 : 0 ≤ d ∧ d ≤ 131072
  · by_cases h2 : 0 ≤ many ∧ many ≤ 12000
    · have hI := dateV_is d h1.1
      have hE : Hid (addV d many = if addD (dateV d) many ≤ 131072 then (addD (dateV d) many, 0) else (0, 5)) := by
        show _ = _
        unfold addV; rw [if_neg (by omega), if_neg (by omega)]
      have hDE : dateE d = (dateV d, 0) := if_pos h1
      have hDc := date_c d w hV
      unfold DateP at hDc
      rw [hDE] at hDc
      generalize dateV d = p at *
      obtain ⟨y, m, k⟩ := p
      dsimp only at hI hDc
      have hy := hI.y1 h1.2
      obtain ⟨hy0, hm0, hm1, hk0, hk1, -⟩ := hI
      have hlm := lenM_bd y m
      have hk2 : k ≤ 31 := by omega
      clear hk1 hlm hDE
      go_enter Tryd.func29, Tryd.ntmps29
      go_wp2_with fail
      refine hDc.mono ?_
      rintro e w1 ⟨rfl, hx1⟩
      go_wp2_with fail
      refine RetP_at (civilIn_c many 0 12000 _) ?_
      rw [inB_t h2]
      have hO := Own.new w1 #[.int .i64 y, .int .i64 m, .int .i64 k] 94
      have hxW : Ext w (w1.alloc (.cells #[.int .i64 y, .int .i64 m, .int .i64 k] 94)) := (by repeat (first | (with_reducible assumption) | (with_reducible exact Ext.rfl' _) | (with_reducible exact Ext.new _ _) | (with_reducible refine Ext.alloc' ?_ _) | (with_reducible refine Ext.drew' ?_) | (with_reducible refine Ext.drewN' ?_ _) | (with_reducible refine Ext.set' ?_ ?_ _; rotate_left; (focus (first | omega | (simp; done) | (simp; omega)))) | (with_reducible refine Ext.then (b := ?_) ?_ ?_; rotate_left; rotate_left; (with_reducible assumption))))
      have hg : w.heap.size ≤ w1.heap.size := hx1.size
      have hsz : w1.heap.size < (w1.alloc (.cells #[.int .i64 y, .int .i64 m, .int .i64 k] 94)).heap.size := by simp
      generalize w1.alloc _ = W at *
      obtain ⟨oc, of⟩ := hO.facts
      have w1' : IntKind.i64.wrap (12 * y) = 12 * y := by rw [IntKind.wrap_i64]; omega
      have w2' : IntKind.i64.wrap (12 * y + m) = 12 * y + m := by rw [IntKind.wrap_i64]; omega
      have w3' : IntKind.i64.wrap (12 * y + m - 1) = 12 * y + m - 1 := by rw [IntKind.wrap_i64]; omega
      have w4' : IntKind.i64.wrap (12 * y + m - 1 + many) = 12 * y + m - 1 + many := by rw [IntKind.wrap_i64]; omega
      go_wp2_with fail
      clear w1' w2' w3' w4' oc of
      have hyy : 1900 ≤ (12 * y + m - 1 + many) / 12 ∧ (12 * y + m - 1 + many) / 12 ≤ 3400 := by omega
      have hmm : 1 ≤ (12 * y + m - 1 + many) % 12 + 1 ∧ (12 * y + m - 1 + many) % 12 + 1 ≤ 12 := by omega
      have hAD : addD (y, m, k) many = numV ((12 * y + m - 1 + many) / 12) ((12 * y + m - 1 + many) % 12 + 1) (min k (lenM ((12 * y + m - 1 + many) / 12) ((12 * y + m - 1 + many) % 12 + 1))) := rfl
      rw [hAD] at hE
      clear hAD hm0 hm1
      generalize 12 * y + m - 1 + many = all at *
      have o2 := (hO.set 0 (.int .i64 (all / 12))).set 1 (.int .i64 (all % 12 + 1))
      have x2 : Ext w ((W.setCell ⟨w1.heap.size, 0, none⟩ (.int .i64 (all / 12))).setCell ⟨w1.heap.size, 1, none⟩ (.int .i64 (all % 12 + 1))) :=
        (hxW.setCell (p := ⟨w1.heap.size, 0, none⟩) hg _).setCell (p := ⟨w1.heap.size, 1, none⟩) hg _
      generalize (W.setCell ⟨w1.heap.size, 0, none⟩ (.int .i64 (all / 12))).setCell ⟨w1.heap.size, 1, none⟩ (.int .i64 (all % 12 + 1)) = W2 at *
      generalize all / 12 = yy at *
      obtain ⟨mm, hM⟩ : ∃ mm : Nat, all % 12 + 1 = (mm : Int) := ⟨(all % 12 + 1).toNat, by omega⟩
      rw [hM] at hmm hE o2 ⊢
      obtain ⟨q1, q2⟩ := hyy
      obtain ⟨q3, q4⟩ := hmm
      have hlm := lenM_bd yy mm
      have hLV : lenV yy mm = (lenM yy mm, 0) := if_pos ⟨q3, q4⟩
      have hV2 := hV.mono x2.ple
      refine RetP_at (length_c yy mm _ hV2 (by omega) (by omega)) ?_
      rw [hLV]
      clear hLV
      generalize lenM yy mm = L at *
      dsimp only [two]
      obtain ⟨oc, of⟩ := o2.facts
      simp only [Array.setIfInBounds, Array.set, List.size_toArray, List.length_cons, List.length_nil, List.set_cons_zero, List.set_cons_succ] at oc o2
      by_cases hkl : k ≤ L
      · rw [show min k L = k by omega] at hE
        go_wp2_with fail
        have x3 : Ext w (W2.setCell ⟨w1.heap.size, 2, none⟩ (.int .i64 k)) := x2.setCell (p := ⟨w1.heap.size, 2, none⟩) hg _
        refine RetV_at (number_c yy k mm _ (hV.mono x3.ple) (by omega) (by omega) (by omega) (by omega) (by omega) (by omega)) ?_
        intro w4 hx4
        have x4 := x3.then hx4
        generalize numV yy mm k = z at *
        clear hV2 hx4 x3 x2 hxW oc of o2 hO
        by_cases hz : z ≤ 131072
        · have hE2 : Hid (addV d many = (z, 0)) := by show _ = _; rw [hE.out, if_pos hz]
          clear hE
          go_wp2_with fail
          go_ret2
          rw [hE2.out]
          exact ⟨rfl, x4⟩
        · have hE2 : Hid (addV d many = (0, 5)) := by show _ = _; rw [hE.out, if_neg hz]
          clear hE
          go_wp2_with fail
          go_ret2
          rw [hE2.out]
          exact ⟨rfl, x4⟩
      · rw [show min k L = L by omega] at hE
        go_wp2_with fail
        have x3 : Ext w (W2.setCell ⟨w1.heap.size, 2, none⟩ (.int .i64 L)) := x2.setCell (p := ⟨w1.heap.size, 2, none⟩) hg _
        refine RetV_at (number_c yy L mm _ (hV.mono x3.ple) (by omega) (by omega) (by omega) (by omega) (by omega) (by omega)) ?_
        intro w4 hx4
        have x4 := x3.then hx4
        generalize numV yy mm L = z at *
        clear hV2 hx4 x3 x2 hxW oc of o2 hO
        by_cases hz : z ≤ 131072
        · have hE2 : Hid (addV d many = (z, 0)) := by show _ = _; rw [hE.out, if_pos hz]
          clear hE
          go_wp2_with fail
          go_ret2
          rw [hE2.out]
          exact ⟨rfl, x4⟩
        · have hE2 : Hid (addV d many = (0, 5)) := by show _ = _; rw [hE.out, if_neg hz]
          clear hE
          go_wp2_with fail
          go_ret2
          rw [hE2.out]
          exact ⟨rfl, x4⟩
    · have hE : Hid (addV d many = (0, 1)) := by show _ = _; unfold addV; rw [if_neg (by omega), if_pos (by omega)]
      have hDE : dateE d = (dateV d, 0) := if_pos h1
      have hDc := date_c d w hV
      unfold DateP at hDc
      rw [hDE] at hDc
      generalize dateV d = p at *
      clear hDE
      go_enter Tryd.func29, Tryd.ntmps29
      go_wp2_with fail
      refine hDc.mono ?_
      rintro e w1 ⟨rfl, hx1⟩
      go_wp2_with fail
      refine RetP_at (civilIn_c many 0 12000 _) ?_
      rw [inB_f h2]
      have hxW : Ext w (w1.alloc (.cells #[.int .i64 p.1, .int .i64 p.2.1, .int .i64 p.2.2] 94)) := (by repeat (first | (with_reducible assumption) | (with_reducible exact Ext.rfl' _) | (with_reducible exact Ext.new _ _) | (with_reducible refine Ext.alloc' ?_ _) | (with_reducible refine Ext.drew' ?_) | (with_reducible refine Ext.drewN' ?_ _) | (with_reducible refine Ext.set' ?_ ?_ _; rotate_left; (focus (first | omega | (simp; done) | (simp; omega)))) | (with_reducible refine Ext.then (b := ?_) ?_ ?_; rotate_left; rotate_left; (with_reducible assumption))))
      generalize w1.alloc _ = W at *
      go_wp2_with fail
      go_ret2
      rw [hE.out]
      exact ⟨rfl, hxW⟩
  · have hE : Hid (addV d many = (0, 5)) := by show _ = _; unfold addV; rw [if_pos (by omega)]
    have hDE : dateE d = ((0, 0, 0), 5) := if_neg h1
    have hDc := date_c d w hV
    unfold DateP at hDc
    rw [hDE] at hDc
    clear hDE
    go_enter Tryd.func29, Tryd.ntmps29
    go_wp2_with fail
    refine hDc.mono ?_
    rintro e w1 ⟨rfl, hx1⟩
    dsimp only
    go_wp2_with fail
    go_ret2
    rw [hE.out]
    exact ⟨rfl, (by repeat (first | (with_reducible assumption) | (with_reducible exact Ext.rfl' _) | (with_reducible exact Ext.new _ _) | (with_reducible refine Ext.alloc' ?_ _) | (with_reducible refine Ext.drew' ?_) | (with_reducible refine Ext.drewN' ?_ _) | (with_reducible refine Ext.set' ?_ ?_ _; rotate_left; (focus (first | omega | (simp; done) | (simp; omega)))) | (with_reducible refine Ext.then (b := ?_) ?_ ?_; rotate_left; rotate_left; (with_reducible assumption))))⟩
end Go.Proofs.YtcmdekhhclgdcaaDoor
