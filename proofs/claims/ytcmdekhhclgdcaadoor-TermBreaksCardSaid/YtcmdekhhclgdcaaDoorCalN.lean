/- package calendar: check, Open, Next. -/
import Derived.Test.YtcmdekhhclgdcaaDoorCalP
namespace Go.Proofs.YtcmdekhhclgdcaaDoor
open Go.RowKit Go.Shelf
set_option linter.unusedSimpArgs false
set_option linter.unusedVariables false
attribute [local go_sem] run_store_fn
noncomputable def checkE (c : Cal) (office day : Int) : Int := if calE c ≠ 0 then calE c else if ¬ (0 ≤ office ∧ office ≤ 11) then 1 else if ¬ (0 ≤ day ∧ day ≤ 131072) then 5 else 0
theorem calE_ok {c : Cal} (h : calE c = 0) : WOk c.1 ∧ HOk c.2 := by
  unfold calE at h
  split at h
  · cases h
  · split at h
    · cases h
    · exact Classical.byContradiction fun hn => by rw [ErrIf_f hn] at h; cases h
theorem WOk.bd {l : List Int} (h : WOk l) : ∀ x ∈ l, 0 ≤ x ∧ x ≤ 6 := by
  intro x hx
  obtain ⟨k, hk, rfl⟩ := List.mem_iff_getElem.1 hx
  have := h k hk
  unfold wBad at this
  have hg : l.getD k 0 = l[k] := by simp [hk]
  rw [hg] at this
  exact Classical.byContradiction fun hn => this (.inl hn)
theorem checkE_ok {c : Cal} {office day : Int} (h : checkE c office day = 0) : calE c = 0 ∧ (0 ≤ office ∧ office ≤ 11) ∧ (0 ≤ day ∧ day ≤ 131072) := by
  unfold checkE at h
  split at h
  · rename_i h1; exact absurd h h1
  · rename_i h1
    split at h
    · cases h
    · rename_i h2
      split at h
      · cases h
      · rename_i h3
        exact ⟨by simpa using h1, by simpa using h2, by simpa using h3⟩
set_option maxHeartbeats 1000000 in
theorem check_c (c : Cal) (office day : Int) (v : Value) (w : World) (hr : CalR (ph w) v c) (hV : VL (ph w)) : Calls Tryd.prog 54 #[v, .int .i64 office, .int .i64 day] w (RetV w (.int .i64 (checkE c office day))) := by
  have hvc := fun w hr hV => calValid_c c v w hr hV
  have hE : Hid (checkE c office day = if calE c ≠ 0 then calE c else if ¬ (0 ≤ office ∧ office ≤ 11) then 1 else if ¬ (0 ≤ day ∧ day ≤ 131072) then 5 else 0) := rfl
  obtain ⟨a, b, rfl, hW, hH⟩ := id hr
  obtain ⟨wa, wc, rfl, wlen, -⟩ := hW.form
  obtain ⟨ha, hc, rfl, hlen, -⟩ := hH.form
  generalize calE c = ce at *
  by_cases h0 : ce = 0
  · subst h0
    by_cases h1 : 0 ≤ office ∧ office ≤ 11
    · by_cases h2 : 0 ≤ day ∧ day ≤ 131072
      · have hE2 : Hid (checkE c office day = 0) := by show _ = _; rw [hE.out]; simp only [ne_eq, not_true, if_false]; rw [if_neg (by omega), if_neg (by omega)]
        clear hE
        go_enter Tryd.func54, Tryd.ntmps54
        go_wp2_with fail
        refine RetV_at (hvc _ (hr.mono (Ext.ple (by repeat (first | (with_reducible assumption) | (with_reducible exact Ext.rfl' _) | (with_reducible exact Ext.new _ _) | (with_reducible refine Ext.alloc' ?_ _) | (with_reducible refine Ext.drew' ?_) | (with_reducible refine Ext.drewN' ?_ _) | (with_reducible refine Ext.set' ?_ ?_ _; rotate_left; (focus (first | omega | (simp; done) | (simp; omega)))) | (with_reducible refine Ext.then (b := ?_) ?_ ?_; rotate_left; rotate_left; (with_reducible assumption)))))) (hV.mono (Ext.ple (by repeat (first | (with_reducible assumption) | (with_reducible exact Ext.rfl' _) | (with_reducible exact Ext.new _ _) | (with_reducible refine Ext.alloc' ?_ _) | (with_reducible refine Ext.drew' ?_) | (with_reducible refine Ext.drewN' ?_ _) | (with_reducible refine Ext.set' ?_ ?_ _; rotate_left; (focus (first | omega | (simp; done) | (simp; omega)))) | (with_reducible refine Ext.then (b := ?_) ?_ ?_; rotate_left; rotate_left; (with_reducible assumption))))))) ?_
        intro w2 hx2
        have hx : Ext w w2 := (by repeat (first | (with_reducible assumption) | (with_reducible exact Ext.rfl' _) | (with_reducible exact Ext.new _ _) | (with_reducible refine Ext.alloc' ?_ _) | (with_reducible refine Ext.drew' ?_) | (with_reducible refine Ext.drewN' ?_ _) | (with_reducible refine Ext.set' ?_ ?_ _; rotate_left; (focus (first | omega | (simp; done) | (simp; omega)))) | (with_reducible refine Ext.then (b := ?_) ?_ ?_; rotate_left; rotate_left; (with_reducible assumption))))
        go_wp2_with fail
        refine RetP_at (calIn_c office 0 11 _) ?_
        rw [inB_t h1]
        go_wp2_with fail
        refine RetP_at (calIn_c day 0 131072 _) ?_
        rw [inB_t h2]
        go_wp2_with fail
        go_ret
        exact ⟨ret_int hE2.out.symm, hx⟩
      · have hE2 : Hid (checkE c office day = 5) := by show _ = _; rw [hE.out]; simp only [ne_eq, not_true, if_false]; rw [if_neg (by omega), if_pos h2]
        clear hE
        go_enter Tryd.func54, Tryd.ntmps54
        go_wp2_with fail
        refine RetV_at (hvc _ (hr.mono (Ext.ple (by repeat (first | (with_reducible assumption) | (with_reducible exact Ext.rfl' _) | (with_reducible exact Ext.new _ _) | (with_reducible refine Ext.alloc' ?_ _) | (with_reducible refine Ext.drew' ?_) | (with_reducible refine Ext.drewN' ?_ _) | (with_reducible refine Ext.set' ?_ ?_ _; rotate_left; (focus (first | omega | (simp; done) | (simp; omega)))) | (with_reducible refine Ext.then (b := ?_) ?_ ?_; rotate_left; rotate_left; (with_reducible assumption)))))) (hV.mono (Ext.ple (by repeat (first | (with_reducible assumption) | (with_reducible exact Ext.rfl' _) | (with_reducible exact Ext.new _ _) | (with_reducible refine Ext.alloc' ?_ _) | (with_reducible refine Ext.drew' ?_) | (with_reducible refine Ext.drewN' ?_ _) | (with_reducible refine Ext.set' ?_ ?_ _; rotate_left; (focus (first | omega | (simp; done) | (simp; omega)))) | (with_reducible refine Ext.then (b := ?_) ?_ ?_; rotate_left; rotate_left; (with_reducible assumption))))))) ?_
        intro w2 hx2
        have hx : Ext w w2 := (by repeat (first | (with_reducible assumption) | (with_reducible exact Ext.rfl' _) | (with_reducible exact Ext.new _ _) | (with_reducible refine Ext.alloc' ?_ _) | (with_reducible refine Ext.drew' ?_) | (with_reducible refine Ext.drewN' ?_ _) | (with_reducible refine Ext.set' ?_ ?_ _; rotate_left; (focus (first | omega | (simp; done) | (simp; omega)))) | (with_reducible refine Ext.then (b := ?_) ?_ ?_; rotate_left; rotate_left; (with_reducible assumption))))
        go_wp2_with fail
        refine RetP_at (calIn_c office 0 11 _) ?_
        rw [inB_t h1]
        go_wp2_with fail
        refine RetP_at (calIn_c day 0 131072 _) ?_
        rw [inB_f h2]
        go_wp2_with fail
        go_ret
        exact ⟨ret_int hE2.out.symm, hx⟩
    · have hE2 : Hid (checkE c office day = 1) := by show _ = _; rw [hE.out]; simp only [ne_eq, not_true, if_false]; rw [if_pos h1]
      clear hE
      go_enter Tryd.func54, Tryd.ntmps54
      go_wp2_with fail
      refine RetV_at (hvc _ (hr.mono (Ext.ple (by repeat (first | (with_reducible assumption) | (with_reducible exact Ext.rfl' _) | (with_reducible exact Ext.new _ _) | (with_reducible refine Ext.alloc' ?_ _) | (with_reducible refine Ext.drew' ?_) | (with_reducible refine Ext.drewN' ?_ _) | (with_reducible refine Ext.set' ?_ ?_ _; rotate_left; (focus (first | omega | (simp; done) | (simp; omega)))) | (with_reducible refine Ext.then (b := ?_) ?_ ?_; rotate_left; rotate_left; (with_reducible assumption)))))) (hV.mono (Ext.ple (by repeat (first | (with_reducible assumption) | (with_reducible exact Ext.rfl' _) | (with_reducible exact Ext.new _ _) | (with_reducible refine Ext.alloc' ?_ _) | (with_reducible refine Ext.drew' ?_) | (with_reducible refine Ext.drewN' ?_ _) | (with_reducible refine Ext.set' ?_ ?_ _; rotate_left; (focus (first | omega | (simp; done) | (simp; omega)))) | (with_reducible refine Ext.then (b := ?_) ?_ ?_; rotate_left; rotate_left; (with_reducible assumption))))))) ?_
      intro w2 hx2
      have hx : Ext w w2 := (by repeat (first | (with_reducible assumption) | (with_reducible exact Ext.rfl' _) | (with_reducible exact Ext.new _ _) | (with_reducible refine Ext.alloc' ?_ _) | (with_reducible refine Ext.drew' ?_) | (with_reducible refine Ext.drewN' ?_ _) | (with_reducible refine Ext.set' ?_ ?_ _; rotate_left; (focus (first | omega | (simp; done) | (simp; omega)))) | (with_reducible refine Ext.then (b := ?_) ?_ ?_; rotate_left; rotate_left; (with_reducible assumption))))
      go_wp2_with fail
      refine RetP_at (calIn_c office 0 11 _) ?_
      rw [inB_f h1]
      go_wp2_with fail
      go_ret
      exact ⟨ret_int hE2.out.symm, hx⟩
  · have hE2 : Hid (checkE c office day = ce) := by show _ = _; rw [hE.out]; rw [if_pos h0]
    have hb : (ce != 0) = true := by rw [bne_iff_ne]; exact h0
    clear hE h0
    go_enter Tryd.func54, Tryd.ntmps54
    go_wp2_with fail
    refine RetV_at (hvc _ (hr.mono (Ext.ple (by repeat (first | (with_reducible assumption) | (with_reducible exact Ext.rfl' _) | (with_reducible exact Ext.new _ _) | (with_reducible refine Ext.alloc' ?_ _) | (with_reducible refine Ext.drew' ?_) | (with_reducible refine Ext.drewN' ?_ _) | (with_reducible refine Ext.set' ?_ ?_ _; rotate_left; (focus (first | omega | (simp; done) | (simp; omega)))) | (with_reducible refine Ext.then (b := ?_) ?_ ?_; rotate_left; rotate_left; (with_reducible assumption)))))) (hV.mono (Ext.ple (by repeat (first | (with_reducible assumption) | (with_reducible exact Ext.rfl' _) | (with_reducible exact Ext.new _ _) | (with_reducible refine Ext.alloc' ?_ _) | (with_reducible refine Ext.drew' ?_) | (with_reducible refine Ext.drewN' ?_ _) | (with_reducible refine Ext.set' ?_ ?_ _; rotate_left; (focus (first | omega | (simp; done) | (simp; omega)))) | (with_reducible refine Ext.then (b := ?_) ?_ ?_; rotate_left; rotate_left; (with_reducible assumption))))))) ?_
    intro w2 hx2
    have hx : Ext w w2 := (by repeat (first | (with_reducible assumption) | (with_reducible exact Ext.rfl' _) | (with_reducible exact Ext.new _ _) | (with_reducible refine Ext.alloc' ?_ _) | (with_reducible refine Ext.drew' ?_) | (with_reducible refine Ext.drewN' ?_ _) | (with_reducible refine Ext.set' ?_ ?_ _; rotate_left; (focus (first | omega | (simp; done) | (simp; omega)))) | (with_reducible refine Ext.then (b := ?_) ?_ ?_; rotate_left; rotate_left; (with_reducible assumption))))
    go_wp2_with fail
    go_ret
    exact ⟨ret_int hE2.out.symm, hx⟩
noncomputable def openE (c : Cal) (xs : List Ac) (office day : Int) : Bool × Int := if checkE c office day = 0 then (opB c xs office day, 0) else (false, checkE c office day)
set_option maxHeartbeats 1000000 in
theorem calOpen_c (c : Cal) (xs : List Ac) (office day : Int) (v va : Value) (w : World) (hr : CalR (ph w) v c) (hA : ActsR (ph w) va xs) (hV : VL (ph w)) :
    Calls Tryd.prog 24 #[v, .int .i64 office, va, .int .i64 day] w (RetV w (.tuple #[.bool (openE c xs office day).1, .int .i64 (openE c xs office day).2])) := by
  have hcc := fun w hr hV => check_c c office day v w hr hV
  have hE : Hid (openE c xs office day = if checkE c office day = 0 then (opB c xs office day, 0) else (false, checkE c office day)) := rfl
  have hok := fun h => checkE_ok (c := c) (office := office) (day := day) h
  obtain ⟨a, b, rfl, hW, hH⟩ := id hr
  obtain ⟨wa, wc, rfl, wlen, -⟩ := hW.form
  obtain ⟨ha, hc, rfl, hlen, -⟩ := hH.form
  obtain ⟨xa, xc, rfl, xlen, -⟩ := hA.form
  generalize checkE c office day = ce at *
  by_cases h0 : ce = 0
  · obtain ⟨k0, -, k1, k2⟩ := hok h0
    have hbd := (calE_ok k0).1.bd
    subst h0
    have hE2 : Hid (openE c xs office day = (opB c xs office day, 0)) := hE.out
    clear hE hok
    go_enter Tryd.func24, Tryd.ntmps24
    go_wp2_with fail
    refine RetV_at (hcc _ (hr.mono (Ext.ple (by repeat (first | (with_reducible assumption) | (with_reducible exact Ext.rfl' _) | (with_reducible exact Ext.new _ _) | (with_reducible refine Ext.alloc' ?_ _) | (with_reducible refine Ext.drew' ?_) | (with_reducible refine Ext.drewN' ?_ _) | (with_reducible refine Ext.set' ?_ ?_ _; rotate_left; (focus (first | omega | (simp; done) | (simp; omega)))) | (with_reducible refine Ext.then (b := ?_) ?_ ?_; rotate_left; rotate_left; (with_reducible assumption)))))) (hV.mono (Ext.ple (by repeat (first | (with_reducible assumption) | (with_reducible exact Ext.rfl' _) | (with_reducible exact Ext.new _ _) | (with_reducible refine Ext.alloc' ?_ _) | (with_reducible refine Ext.drew' ?_) | (with_reducible refine Ext.drewN' ?_ _) | (with_reducible refine Ext.set' ?_ ?_ _; rotate_left; (focus (first | omega | (simp; done) | (simp; omega)))) | (with_reducible refine Ext.then (b := ?_) ?_ ?_; rotate_left; rotate_left; (with_reducible assumption))))))) ?_
    intro w2 hx2
    have hx : Ext w w2 := (by repeat (first | (with_reducible assumption) | (with_reducible exact Ext.rfl' _) | (with_reducible exact Ext.new _ _) | (with_reducible refine Ext.alloc' ?_ _) | (with_reducible refine Ext.drew' ?_) | (with_reducible refine Ext.drewN' ?_ _) | (with_reducible refine Ext.set' ?_ ?_ _; rotate_left; (focus (first | omega | (simp; done) | (simp; omega)))) | (with_reducible refine Ext.then (b := ?_) ?_ ?_; rotate_left; rotate_left; (with_reducible assumption))))
    have hO := (Own.new w #[.slice wa c.1.length wc, .slice ha c.2.length hc] 39).keep hx2
    obtain ⟨oc, -⟩ := hO.facts
    go_wp2_with fail
    refine (of_c c.1 office _ _ _ _ (hW.mono mono_IntR (Ext.ple (by repeat (first | (with_reducible assumption) | (with_reducible exact Ext.rfl' _) | (with_reducible exact Ext.new _ _) | (with_reducible refine Ext.alloc' ?_ _) | (with_reducible refine Ext.drew' ?_) | (with_reducible refine Ext.drewN' ?_ _) | (with_reducible refine Ext.set' ?_ ?_ _; rotate_left; (focus (first | omega | (simp; done) | (simp; omega)))) | (with_reducible refine Ext.then (b := ?_) ?_ ?_; rotate_left; rotate_left; (with_reducible assumption)))))) hbd ⟨_, _, _, rfl⟩ ⟨_, _, _, rfl⟩).mono ?_
    rintro e w3 ⟨u, rfl, hx3, hof⟩
    have hx4 : Ext w w3 := (by repeat (first | (with_reducible assumption) | (with_reducible exact Ext.rfl' _) | (with_reducible exact Ext.new _ _) | (with_reducible refine Ext.alloc' ?_ _) | (with_reducible refine Ext.drew' ?_) | (with_reducible refine Ext.drewN' ?_ _) | (with_reducible refine Ext.set' ?_ ?_ _; rotate_left; (focus (first | omega | (simp; done) | (simp; omega)))) | (with_reducible refine Ext.then (b := ?_) ?_ ?_; rotate_left; rotate_left; (with_reducible assumption))))
    have hop := open_c c xs office day u _ _ _ w3 hof (hH.mono mono_DateR (Ext.ple hx4)) (hA.mono mono_ActR (Ext.ple hx4)) (hV.mono (Ext.ple hx4)) k1 k2
    clear hof oc hO
    go_wp2_with fail
    refine RetV_at hop ?_
    intro w5 hx5
    have hx6 := hx4.then hx5
    go_wp2_with fail
    go_ret2
    rw [hE2.out]
    exact ⟨rfl, hx6⟩
  · have hE2 : Hid (openE c xs office day = (false, ce)) := by show _ = _; rw [hE.out, if_neg h0]
    have hb : (ce != 0) = true := by rw [bne_iff_ne]; exact h0
    clear hE h0 hok
    go_enter Tryd.func24, Tryd.ntmps24
    go_wp2_with fail
    refine RetV_at (hcc _ (hr.mono (Ext.ple (by repeat (first | (with_reducible assumption) | (with_reducible exact Ext.rfl' _) | (with_reducible exact Ext.new _ _) | (with_reducible refine Ext.alloc' ?_ _) | (with_reducible refine Ext.drew' ?_) | (with_reducible refine Ext.drewN' ?_ _) | (with_reducible refine Ext.set' ?_ ?_ _; rotate_left; (focus (first | omega | (simp; done) | (simp; omega)))) | (with_reducible refine Ext.then (b := ?_) ?_ ?_; rotate_left; rotate_left; (with_reducible assumption)))))) (hV.mono (Ext.ple (by repeat (first | (with_reducible assumption) | (with_reducible exact Ext.rfl' _) | (with_reducible exact Ext.new _ _) | (with_reducible refine Ext.alloc' ?_ _) | (with_reducible refine Ext.drew' ?_) | (with_reducible refine Ext.drewN' ?_ _) | (with_reducible refine Ext.set' ?_ ?_ _; rotate_left; (focus (first | omega | (simp; done) | (simp; omega)))) | (with_reducible refine Ext.then (b := ?_) ?_ ?_; rotate_left; rotate_left; (with_reducible assumption))))))) ?_
    intro w2 hx2
    have hx : Ext w w2 := (by repeat (first | (with_reducible assumption) | (with_reducible exact Ext.rfl' _) | (with_reducible exact Ext.new _ _) | (with_reducible refine Ext.alloc' ?_ _) | (with_reducible refine Ext.drew' ?_) | (with_reducible refine Ext.drewN' ?_ _) | (with_reducible refine Ext.set' ?_ ?_ _; rotate_left; (focus (first | omega | (simp; done) | (simp; omega)))) | (with_reducible refine Ext.then (b := ?_) ?_ ?_; rotate_left; rotate_left; (with_reducible assumption))))
    go_wp2_with fail
    go_ret2
    rw [hE2.out]
    exact ⟨rfl, hx⟩
end Go.Proofs.YtcmdekhhclgdcaaDoor
