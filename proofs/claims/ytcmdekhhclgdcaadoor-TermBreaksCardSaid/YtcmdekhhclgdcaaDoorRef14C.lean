/- package priorartref14: Check. -/
import Derived.Test.YtcmdekhhclgdcaaDoorRef14V
namespace Go.Proofs.YtcmdekhhclgdcaaDoor
open Go.RowKit Go.Shelf
set_option linter.unusedSimpArgs false
set_option linter.unusedVariables false
set_option maxHeartbeats 1000000 in
theorem rcheck_c (c : Cal) (office day : Int) (v : Value) (w : World) (hr : CalR (ph w) v c) : Calls Tryd.prog 57 #[v, .int .i64 office, .int .i64 day] w (RetV w (.int .i64 (checkE c office day))) := by
  have hvc := fun w hr => rcalValid_c c v w hr
  have hE : Hid (checkE c office day = if calE c ≠ 0 then calE c else if ¬ (0 ≤ office ∧ office ≤ 11) then 1 else if ¬ (0 ≤ day ∧ day ≤ 131072) then 5 else 0) := rfl
  obtain ⟨a, b, rfl, hW, hH⟩ := id hr
  obtain ⟨wa, wc, rfl, wlen, -⟩ := hW.form
  obtain ⟨ha, hc, rfl, hlen, -⟩ := hH.form
  generalize calE c = ce at *
  by_cases h0 : ce = 0
  · subst h0
    have hE0 : Hid (checkE c office day = if ¬ (0 ≤ office ∧ office ≤ 11) then 1 else if ¬ (0 ≤ day ∧ day ≤ 131072) then 5 else 0) := by show _ = _; rw [hE.out]; simp only [ne_eq, not_true, if_false]
    clear hE
    by_cases h1 : office < 0
    · have hE2 : Hid (checkE c office day = 1) := by show _ = _; rw [hE0.out, if_pos (by omega)]
      clear hE0
      go_enter Tryd.func57, Tryd.ntmps57
      go_wp2_with fail
      refine RetV_at (hvc _ (hr.mono (Ext.ple (by repeat (first | (with_reducible assumption) | (with_reducible exact Ext.rfl' _) | (with_reducible exact Ext.new _ _) | (with_reducible refine Ext.alloc' ?_ _) | (with_reducible refine Ext.drew' ?_) | (with_reducible refine Ext.drewN' ?_ _) | (with_reducible refine Ext.set' ?_ ?_ _; rotate_left; (focus (first | omega | (simp; done) | (simp; omega)))) | (with_reducible refine Ext.then (b := ?_) ?_ ?_; rotate_left; rotate_left; (with_reducible assumption))))))) ?_
      intro w2 hx2
      have hx : Ext w w2 := (by repeat (first | (with_reducible assumption) | (with_reducible exact Ext.rfl' _) | (with_reducible exact Ext.new _ _) | (with_reducible refine Ext.alloc' ?_ _) | (with_reducible refine Ext.drew' ?_) | (with_reducible refine Ext.drewN' ?_ _) | (with_reducible refine Ext.set' ?_ ?_ _; rotate_left; (focus (first | omega | (simp; done) | (simp; omega)))) | (with_reducible refine Ext.then (b := ?_) ?_ ?_; rotate_left; rotate_left; (with_reducible assumption))))
      go_wp2_with fail
      go_ret
      exact ⟨ret_int hE2.out.symm, hx⟩
    · by_cases h2 : 11 < office
      · have hE2 : Hid (checkE c office day = 1) := by show _ = _; rw [hE0.out, if_pos (by omega)]
        clear hE0
        go_enter Tryd.func57, Tryd.ntmps57
        go_wp2_with fail
        refine RetV_at (hvc _ (hr.mono (Ext.ple (by repeat (first | (with_reducible assumption) | (with_reducible exact Ext.rfl' _) | (with_reducible exact Ext.new _ _) | (with_reducible refine Ext.alloc' ?_ _) | (with_reducible refine Ext.drew' ?_) | (with_reducible refine Ext.drewN' ?_ _) | (with_reducible refine Ext.set' ?_ ?_ _; rotate_left; (focus (first | omega | (simp; done) | (simp; omega)))) | (with_reducible refine Ext.then (b := ?_) ?_ ?_; rotate_left; rotate_left; (with_reducible assumption))))))) ?_
        intro w2 hx2
        have hx : Ext w w2 := (by repeat (first | (with_reducible assumption) | (with_reducible exact Ext.rfl' _) | (with_reducible exact Ext.new _ _) | (with_reducible refine Ext.alloc' ?_ _) | (with_reducible refine Ext.drew' ?_) | (with_reducible refine Ext.drewN' ?_ _) | (with_reducible refine Ext.set' ?_ ?_ _; rotate_left; (focus (first | omega | (simp; done) | (simp; omega)))) | (with_reducible refine Ext.then (b := ?_) ?_ ?_; rotate_left; rotate_left; (with_reducible assumption))))
        go_wp2_with fail
        go_ret
        exact ⟨ret_int hE2.out.symm, hx⟩
      · by_cases h3 : day < 0
        · have hE2 : Hid (checkE c office day = 5) := by show _ = _; rw [hE0.out, if_neg (by omega), if_pos (by omega)]
          clear hE0
          go_enter Tryd.func57, Tryd.ntmps57
          go_wp2_with fail
          refine RetV_at (hvc _ (hr.mono (Ext.ple (by repeat (first | (with_reducible assumption) | (with_reducible exact Ext.rfl' _) | (with_reducible exact Ext.new _ _) | (with_reducible refine Ext.alloc' ?_ _) | (with_reducible refine Ext.drew' ?_) | (with_reducible refine Ext.drewN' ?_ _) | (with_reducible refine Ext.set' ?_ ?_ _; rotate_left; (focus (first | omega | (simp; done) | (simp; omega)))) | (with_reducible refine Ext.then (b := ?_) ?_ ?_; rotate_left; rotate_left; (with_reducible assumption))))))) ?_
          intro w2 hx2
          have hx : Ext w w2 := (by repeat (first | (with_reducible assumption) | (with_reducible exact Ext.rfl' _) | (with_reducible exact Ext.new _ _) | (with_reducible refine Ext.alloc' ?_ _) | (with_reducible refine Ext.drew' ?_) | (with_reducible refine Ext.drewN' ?_ _) | (with_reducible refine Ext.set' ?_ ?_ _; rotate_left; (focus (first | omega | (simp; done) | (simp; omega)))) | (with_reducible refine Ext.then (b := ?_) ?_ ?_; rotate_left; rotate_left; (with_reducible assumption))))
          go_wp2_with fail
          go_ret
          exact ⟨ret_int hE2.out.symm, hx⟩
        · by_cases h4 : 131072 < day
          · have hE2 : Hid (checkE c office day = 5) := by show _ = _; rw [hE0.out, if_neg (by omega), if_pos (by omega)]
            clear hE0
            go_enter Tryd.func57, Tryd.ntmps57
            go_wp2_with fail
            refine RetV_at (hvc _ (hr.mono (Ext.ple (by repeat (first | (with_reducible assumption) | (with_reducible exact Ext.rfl' _) | (with_reducible exact Ext.new _ _) | (with_reducible refine Ext.alloc' ?_ _) | (with_reducible refine Ext.drew' ?_) | (with_reducible refine Ext.drewN' ?_ _) | (with_reducible refine Ext.set' ?_ ?_ _; rotate_left; (focus (first | omega | (simp; done) | (simp; omega)))) | (with_reducible refine Ext.then (b := ?_) ?_ ?_; rotate_left; rotate_left; (with_reducible assumption))))))) ?_
            intro w2 hx2
            have hx : Ext w w2 := (by repeat (first | (with_reducible assumption) | (with_reducible exact Ext.rfl' _) | (with_reducible exact Ext.new _ _) | (with_reducible refine Ext.alloc' ?_ _) | (with_reducible refine Ext.drew' ?_) | (with_reducible refine Ext.drewN' ?_ _) | (with_reducible refine Ext.set' ?_ ?_ _; rotate_left; (focus (first | omega | (simp; done) | (simp; omega)))) | (with_reducible refine Ext.then (b := ?_) ?_ ?_; rotate_left; rotate_left; (with_reducible assumption))))
            go_wp2_with fail
            go_ret
            exact ⟨ret_int hE2.out.symm, hx⟩
          · have hE2 : Hid (checkE c office day = 0) := by show _ = _; rw [hE0.out, if_neg (by omega), if_neg (by omega)]
            clear hE0
            go_enter Tryd.func57, Tryd.ntmps57
            go_wp2_with fail
            refine RetV_at (hvc _ (hr.mono (Ext.ple (by repeat (first | (with_reducible assumption) | (with_reducible exact Ext.rfl' _) | (with_reducible exact Ext.new _ _) | (with_reducible refine Ext.alloc' ?_ _) | (with_reducible refine Ext.drew' ?_) | (with_reducible refine Ext.drewN' ?_ _) | (with_reducible refine Ext.set' ?_ ?_ _; rotate_left; (focus (first | omega | (simp; done) | (simp; omega)))) | (with_reducible refine Ext.then (b := ?_) ?_ ?_; rotate_left; rotate_left; (with_reducible assumption))))))) ?_
            intro w2 hx2
            have hx : Ext w w2 := (by repeat (first | (with_reducible assumption) | (with_reducible exact Ext.rfl' _) | (with_reducible exact Ext.new _ _) | (with_reducible refine Ext.alloc' ?_ _) | (with_reducible refine Ext.drew' ?_) | (with_reducible refine Ext.drewN' ?_ _) | (with_reducible refine Ext.set' ?_ ?_ _; rotate_left; (focus (first | omega | (simp; done) | (simp; omega)))) | (with_reducible refine Ext.then (b := ?_) ?_ ?_; rotate_left; rotate_left; (with_reducible assumption))))
            go_wp2_with fail
            go_ret
            exact ⟨ret_int hE2.out.symm, hx⟩
  · have hE2 : Hid (checkE c office day = ce) := by show _ = _; rw [hE.out]; rw [if_pos h0]
    have hb : (ce != 0) = true := by rw [bne_iff_ne]; exact h0
    clear hE h0
    go_enter Tryd.func57, Tryd.ntmps57
    go_wp2_with fail
    refine RetV_at (hvc _ (hr.mono (Ext.ple (by repeat (first | (with_reducible assumption) | (with_reducible exact Ext.rfl' _) | (with_reducible exact Ext.new _ _) | (with_reducible refine Ext.alloc' ?_ _) | (with_reducible refine Ext.drew' ?_) | (with_reducible refine Ext.drewN' ?_ _) | (with_reducible refine Ext.set' ?_ ?_ _; rotate_left; (focus (first | omega | (simp; done) | (simp; omega)))) | (with_reducible refine Ext.then (b := ?_) ?_ ?_; rotate_left; rotate_left; (with_reducible assumption))))))) ?_
    intro w2 hx2
    have hx : Ext w w2 := (by repeat (first | (with_reducible assumption) | (with_reducible exact Ext.rfl' _) | (with_reducible exact Ext.new _ _) | (with_reducible refine Ext.alloc' ?_ _) | (with_reducible refine Ext.drew' ?_) | (with_reducible refine Ext.drewN' ?_ _) | (with_reducible refine Ext.set' ?_ ?_ _; rotate_left; (focus (first | omega | (simp; done) | (simp; omega)))) | (with_reducible refine Ext.then (b := ?_) ?_ ?_; rotate_left; rotate_left; (with_reducible assumption))))
    go_wp2_with fail
    go_ret
    exact ⟨ret_int hE2.out.symm, hx⟩
end Go.Proofs.YtcmdekhhclgdcaaDoor
