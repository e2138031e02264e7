/- package calendar: open, check, Open, Next.; package calendar: check, Open, Next.; package calendar: Next. -/
import Derived.Test.YtcmdekhhclgdcaaGreatDoorCalB
namespace Go.Proofs.YtcmdekhhclgdcaaGreatDoor
open Go.RowKit Go.Shelf
set_option linter.unusedSimpArgs false
set_option linter.unusedVariables false
attribute [local go_sem] run_store_fn
noncomputable def opB (c : Cal) (xs : List Ac) (office day : Int) : Bool := !(decide (day % 7 ∈ c.1)) && (!(c.2.any (hitB (dateV day))) && !(xs.any (shutB office day)))
set_option maxRecDepth 100000 in
set_option maxHeartbeats 1000000 in
theorem open_c (c : Cal) (xs : List Ac) (office day : Int) (v a b va : Value) (w : World) (hv : OfR (ph w) v c.1 a b office va) (hH : DatesR (ph w) b c.2) (hA : ActsR (ph w) va xs) (hV : VL (ph w)) (h0 : 0 ≤ day) (h1 : day ≤ 131072) :
    Calls Tryz.prog 68 #[v, .int .i64 day] w (RetV w (.bool (opB c xs office day))) := by
  obtain ⟨ws, hs⟩ := c
  dsimp only at hv hH
  obtain ⟨g3, g4, g5, g7, rfl, k7, k3a, k3, k4, k5⟩ := hv
  have hd0 : 0 ≤ day % 7 ∧ day % 7 ≤ 6 := by omega
  have hwk : wkV day = (day % 7, 0) := if_pos ⟨h0, h1⟩
  have hwc := fun w => weekday_c day w
  simp only [hwk] at hwc
  dsimp only [two] at hwc
  have hDE : dateE day = (dateV day, 0) := if_pos ⟨h0, h1⟩
  have hdc := fun w hV => date_c day w hV
  unfold DateP at hdc
  simp only [hDE] at hdc
  have ho : Hid (opB (ws, hs) xs office day = (!(decide (day % 7 ∈ ws)) && (!(hs.any (hitB (dateV day))) && !(xs.any (shutB office day))))) := rfl
  have c1 := fun w (hc : ∀ j u, (wkArr ws)[j]? = some u → cellAt (ph w) g7 j = some u) => wk_c ws (day % 7) g7 w hd0.1 hd0.2 hc
  have c2 := fun w hc hH => dateIn_c hs (dateV day) g3 b w hc hH
  have c3 := fun w hc hc' hA => dayIn_c xs office day g5 g4 va w hc hc' hA
  generalize dateV day = dv at *
  dsimp only [datA] at c2
  clear hwk hDE
  cases e1 : decide (day % 7 ∈ ws) with
  | true =>
    rw [e1] at ho
    simp only [e1] at c1
    clear e1
    go_enter Tryz.func68, Tryz.ntmps68
    go_wp2_with fail
    refine RetP_at (hwc _) ?_
    go_wp2_with fail
    refine (hdc _ (hV.mono (Ext.ple (by repeat (first | (with_reducible assumption) | (with_reducible exact Ext.rfl' _) | (with_reducible exact Ext.new _ _) | (with_reducible refine Ext.alloc' ?_ _) | (with_reducible refine Ext.drew' ?_) | (with_reducible refine Ext.drewN' ?_ _) | (with_reducible refine Ext.set' ?_ ?_ _; rotate_left; (focus (first | omega | (simp; done) | (simp; omega)))) | (with_reducible refine Ext.then (b := ?_) ?_ ?_; rotate_left; rotate_left; (with_reducible assumption))))))).mono ?_
    rintro e w2 ⟨rfl, hx2⟩
    dsimp only
    have hB := ((Own.new w #[.func (.func 89) #[] #[.pointer (some ⟨g7, 0, none⟩)], .func (.func 90) #[] #[.pointer (some ⟨g3, 0, none⟩)], .func (.func 91) #[] #[.pointer (some ⟨g5, 0, none⟩), .pointer (some ⟨g4, 0, none⟩)]] 121).keep hx2).alloc (.cells #[.int .i64 dv.1, .int .i64 dv.2.1, .int .i64 dv.2.2] 81)
    have hD := Own.new w2 #[.int .i64 dv.1, .int .i64 dv.2.1, .int .i64 dv.2.2] 81
    have hxw : Ext w (w2.alloc (.cells #[.int .i64 dv.1, .int .i64 dv.2.1, .int .i64 dv.2.2] 81)) := (by repeat (first | (with_reducible assumption) | (with_reducible exact Ext.rfl' _) | (with_reducible exact Ext.new _ _) | (with_reducible refine Ext.alloc' ?_ _) | (with_reducible refine Ext.drew' ?_) | (with_reducible refine Ext.drewN' ?_ _) | (with_reducible refine Ext.set' ?_ ?_ _; rotate_left; (focus (first | omega | (simp; done) | (simp; omega)))) | (with_reducible refine Ext.then (b := ?_) ?_ ?_; rotate_left; rotate_left; (with_reducible assumption))))
    have hbl := hB.lt
    have hbl0 : w.heap.size < w2.heap.size := by have := hx2.size; simp at this; omega
    have bcc := (Own.new w #[.func (.func 89) #[] #[.pointer (some ⟨g7, 0, none⟩)], .func (.func 90) #[] #[.pointer (some ⟨g3, 0, none⟩)], .func (.func 91) #[] #[.pointer (some ⟨g5, 0, none⟩), .pointer (some ⟨g4, 0, none⟩)]] 121).keep hx2
    obtain ⟨bc, -⟩ := bcc.facts
    go_wp2_with fail
    refine RetP_at (c1 _ (fun j u hu => cellAt_mono (Ext.ple hxw) (k7 j u hu))) ?_
    go_wp2_with fail
    go_ret
    exact ⟨ret_bool (by rw [ho.out]; rfl), hxw⟩
  | false =>
    rw [e1] at ho
    simp only [e1] at c1
    clear e1
    cases e2 : hs.any (hitB dv) with
    | true =>
      rw [e2] at ho
      simp only [e2] at c2
      clear e2
      go_enter Tryz.func68, Tryz.ntmps68
      go_wp2_with fail
      refine RetP_at (hwc _) ?_
      go_wp2_with fail
      refine (hdc _ (hV.mono (Ext.ple (by repeat (first | (with_reducible assumption) | (with_reducible exact Ext.rfl' _) | (with_reducible exact Ext.new _ _) | (with_reducible refine Ext.alloc' ?_ _) | (with_reducible refine Ext.drew' ?_) | (with_reducible refine Ext.drewN' ?_ _) | (with_reducible refine Ext.set' ?_ ?_ _; rotate_left; (focus (first | omega | (simp; done) | (simp; omega)))) | (with_reducible refine Ext.then (b := ?_) ?_ ?_; rotate_left; rotate_left; (with_reducible assumption))))))).mono ?_
      rintro e w2 ⟨rfl, hx2⟩
      dsimp only
      have hB := ((Own.new w #[.func (.func 89) #[] #[.pointer (some ⟨g7, 0, none⟩)], .func (.func 90) #[] #[.pointer (some ⟨g3, 0, none⟩)], .func (.func 91) #[] #[.pointer (some ⟨g5, 0, none⟩), .pointer (some ⟨g4, 0, none⟩)]] 121).keep hx2).alloc (.cells #[.int .i64 dv.1, .int .i64 dv.2.1, .int .i64 dv.2.2] 81)
      have hD := Own.new w2 #[.int .i64 dv.1, .int .i64 dv.2.1, .int .i64 dv.2.2] 81
      have hxw : Ext w (w2.alloc (.cells #[.int .i64 dv.1, .int .i64 dv.2.1, .int .i64 dv.2.2] 81)) := (by repeat (first | (with_reducible assumption) | (with_reducible exact Ext.rfl' _) | (with_reducible exact Ext.new _ _) | (with_reducible refine Ext.alloc' ?_ _) | (with_reducible refine Ext.drew' ?_) | (with_reducible refine Ext.drewN' ?_ _) | (with_reducible refine Ext.set' ?_ ?_ _; rotate_left; (focus (first | omega | (simp; done) | (simp; omega)))) | (with_reducible refine Ext.then (b := ?_) ?_ ?_; rotate_left; rotate_left; (with_reducible assumption))))
      have hbl := hB.lt
      have hbl0 : w.heap.size < w2.heap.size := by have := hx2.size; simp at this; omega
      have bcc := (Own.new w #[.func (.func 89) #[] #[.pointer (some ⟨g7, 0, none⟩)], .func (.func 90) #[] #[.pointer (some ⟨g3, 0, none⟩)], .func (.func 91) #[] #[.pointer (some ⟨g5, 0, none⟩), .pointer (some ⟨g4, 0, none⟩)]] 121).keep hx2
      obtain ⟨bc, -⟩ := bcc.facts
      go_wp2_with fail
      refine RetP_at (c1 _ (fun j u hu => cellAt_mono (Ext.ple hxw) (k7 j u hu))) ?_
      generalize w2.alloc _ = W3 at *
      obtain ⟨bc3, -⟩ := hB.facts
      obtain ⟨dc3, -⟩ := hD.facts
      clear bc
      go_wp2_with fail
      refine RetV_at (c2 _ (cellAt_mono (Ext.ple hxw) k3) (hH.mono mono_DateR (Ext.ple hxw))) ?_
      intro w5 hx5
      have hx6 := hxw.then hx5
      go_wp2_with fail
      go_ret
      exact ⟨ret_bool (by rw [ho.out]; rfl), hx6⟩
    | false =>
      rw [e2] at ho
      simp only [e2] at c2
      clear e2
      cases e3 : xs.any (shutB office day) with
      | true =>
        rw [e3] at ho
        simp only [e3] at c3
        clear e3
        go_enter Tryz.func68, Tryz.ntmps68
        go_wp2_with fail
        refine RetP_at (hwc _) ?_
        go_wp2_with fail
        refine (hdc _ (hV.mono (Ext.ple (by repeat (first | (with_reducible assumption) | (with_reducible exact Ext.rfl' _) | (with_reducible exact Ext.new _ _) | (with_reducible refine Ext.alloc' ?_ _) | (with_reducible refine Ext.drew' ?_) | (with_reducible refine Ext.drewN' ?_ _) | (with_reducible refine Ext.set' ?_ ?_ _; rotate_left; (focus (first | omega | (simp; done) | (simp; omega)))) | (with_reducible refine Ext.then (b := ?_) ?_ ?_; rotate_left; rotate_left; (with_reducible assumption))))))).mono ?_
        rintro e w2 ⟨rfl, hx2⟩
        dsimp only
        have hB := ((Own.new w #[.func (.func 89) #[] #[.pointer (some ⟨g7, 0, none⟩)], .func (.func 90) #[] #[.pointer (some ⟨g3, 0, none⟩)], .func (.func 91) #[] #[.pointer (some ⟨g5, 0, none⟩), .pointer (some ⟨g4, 0, none⟩)]] 121).keep hx2).alloc (.cells #[.int .i64 dv.1, .int .i64 dv.2.1, .int .i64 dv.2.2] 81)
        have hD := Own.new w2 #[.int .i64 dv.1, .int .i64 dv.2.1, .int .i64 dv.2.2] 81
        have hxw : Ext w (w2.alloc (.cells #[.int .i64 dv.1, .int .i64 dv.2.1, .int .i64 dv.2.2] 81)) := (by repeat (first | (with_reducible assumption) | (with_reducible exact Ext.rfl' _) | (with_reducible exact Ext.new _ _) | (with_reducible refine Ext.alloc' ?_ _) | (with_reducible refine Ext.drew' ?_) | (with_reducible refine Ext.drewN' ?_ _) | (with_reducible refine Ext.set' ?_ ?_ _; rotate_left; (focus (first | omega | (simp; done) | (simp; omega)))) | (with_reducible refine Ext.then (b := ?_) ?_ ?_; rotate_left; rotate_left; (with_reducible assumption))))
        have hbl := hB.lt
        have hbl0 : w.heap.size < w2.heap.size := by have := hx2.size; simp at this; omega
        have bcc := (Own.new w #[.func (.func 89) #[] #[.pointer (some ⟨g7, 0, none⟩)], .func (.func 90) #[] #[.pointer (some ⟨g3, 0, none⟩)], .func (.func 91) #[] #[.pointer (some ⟨g5, 0, none⟩), .pointer (some ⟨g4, 0, none⟩)]] 121).keep hx2
        obtain ⟨bc, -⟩ := bcc.facts
        go_wp2_with fail
        refine RetP_at (c1 _ (fun j u hu => cellAt_mono (Ext.ple hxw) (k7 j u hu))) ?_
        generalize w2.alloc _ = W3 at *
        obtain ⟨bc3, -⟩ := hB.facts
        obtain ⟨dc3, -⟩ := hD.facts
        clear bc
        go_wp2_with fail
        refine RetV_at (c2 _ (cellAt_mono (Ext.ple hxw) k3) (hH.mono mono_DateR (Ext.ple hxw))) ?_
        intro w5 hx5
        have hx6 := hxw.then hx5
        obtain ⟨bc5, -⟩ := (hB.keep hx5).facts
        clear bc3 dc3
        go_wp2_with fail
        refine RetV_at (c3 _ (cellAt_mono (Ext.ple hx6) k5) (cellAt_mono (Ext.ple hx6) k4) (hA.mono mono_ActR (Ext.ple hx6))) ?_
        intro w7 hx7
        have hx8 := hx6.then hx7
        go_wp2_with fail
        go_ret
        exact ⟨ret_bool (by rw [ho.out]; rfl), hx8⟩
      | false =>
        rw [e3] at ho
        simp only [e3] at c3
        clear e3
        go_enter Tryz.func68, Tryz.ntmps68
        go_wp2_with fail
        refine RetP_at (hwc _) ?_
        go_wp2_with fail
        refine (hdc _ (hV.mono (Ext.ple (by repeat (first | (with_reducible assumption) | (with_reducible exact Ext.rfl' _) | (with_reducible exact Ext.new _ _) | (with_reducible refine Ext.alloc' ?_ _) | (with_reducible refine Ext.drew' ?_) | (with_reducible refine Ext.drewN' ?_ _) | (with_reducible refine Ext.set' ?_ ?_ _; rotate_left; (focus (first | omega | (simp; done) | (simp; omega)))) | (with_reducible refine Ext.then (b := ?_) ?_ ?_; rotate_left; rotate_left; (with_reducible assumption))))))).mono ?_
        rintro e w2 ⟨rfl, hx2⟩
        dsimp only
        have hB := ((Own.new w #[.func (.func 89) #[] #[.pointer (some ⟨g7, 0, none⟩)], .func (.func 90) #[] #[.pointer (some ⟨g3, 0, none⟩)], .func (.func 91) #[] #[.pointer (some ⟨g5, 0, none⟩), .pointer (some ⟨g4, 0, none⟩)]] 121).keep hx2).alloc (.cells #[.int .i64 dv.1, .int .i64 dv.2.1, .int .i64 dv.2.2] 81)
        have hD := Own.new w2 #[.int .i64 dv.1, .int .i64 dv.2.1, .int .i64 dv.2.2] 81
        have hxw : Ext w (w2.alloc (.cells #[.int .i64 dv.1, .int .i64 dv.2.1, .int .i64 dv.2.2] 81)) := (by repeat (first | (with_reducible assumption) | (with_reducible exact Ext.rfl' _) | (with_reducible exact Ext.new _ _) | (with_reducible refine Ext.alloc' ?_ _) | (with_reducible refine Ext.drew' ?_) | (with_reducible refine Ext.drewN' ?_ _) | (with_reducible refine Ext.set' ?_ ?_ _; rotate_left; (focus (first | omega | (simp; done) | (simp; omega)))) | (with_reducible refine Ext.then (b := ?_) ?_ ?_; rotate_left; rotate_left; (with_reducible assumption))))
        have hbl := hB.lt
        have hbl0 : w.heap.size < w2.heap.size := by have := hx2.size; simp at this; omega
        have bcc := (Own.new w #[.func (.func 89) #[] #[.pointer (some ⟨g7, 0, none⟩)], .func (.func 90) #[] #[.pointer (some ⟨g3, 0, none⟩)], .func (.func 91) #[] #[.pointer (some ⟨g5, 0, none⟩), .pointer (some ⟨g4, 0, none⟩)]] 121).keep hx2
        obtain ⟨bc, -⟩ := bcc.facts
        go_wp2_with fail
        refine RetP_at (c1 _ (fun j u hu => cellAt_mono (Ext.ple hxw) (k7 j u hu))) ?_
        generalize w2.alloc _ = W3 at *
        obtain ⟨bc3, -⟩ := hB.facts
        obtain ⟨dc3, -⟩ := hD.facts
        clear bc
        go_wp2_with fail
        refine RetV_at (c2 _ (cellAt_mono (Ext.ple hxw) k3) (hH.mono mono_DateR (Ext.ple hxw))) ?_
        intro w5 hx5
        have hx6 := hxw.then hx5
        obtain ⟨bc5, -⟩ := (hB.keep hx5).facts
        clear bc3 dc3
        go_wp2_with fail
        refine RetV_at (c3 _ (cellAt_mono (Ext.ple hx6) k5) (cellAt_mono (Ext.ple hx6) k4) (hA.mono mono_ActR (Ext.ple hx6))) ?_
        intro w7 hx7
        have hx8 := hx6.then hx7
        go_wp2_with fail
        go_ret
        exact ⟨ret_bool (by rw [ho.out]; rfl), hx8⟩
end Go.Proofs.YtcmdekhhclgdcaaGreatDoor
namespace Go.Proofs.YtcmdekhhclgdcaaGreatDoor
open Go.RowKit Go.Shelf
set_option linter.unusedSimpArgs false
set_option linter.unusedVariables false
attribute [local go_sem] run_store_fn
noncomputable def checkE (c : Cal) (office day : Int) : Int := if calE c ≠ 0 then calE c else if ¬ (0 ≤ office ∧ office ≤ 11) then 1 else if ¬ (0 ≤ day ∧ day ≤ 131072) then 5 else 0
theorem calE_ok {c : Cal} (h : calE c = 0) : WOk c.1 ∧ HOk c.2 := by
  unfold calE at h
  split at h
  · cases h
  · split at h
    · cases h
    · exact Classical.byContradiction fun hn => by rw [ErrIf_f hn] at h; cases h
theorem WOk.bd {l : List Int} (h : WOk l) : ∀ x ∈ l, 0 ≤ x ∧ x ≤ 6 := by
  intro x hx
  obtain ⟨k, hk, rfl⟩ := List.mem_iff_getElem.1 hx
  have := h k hk
  unfold wBad at this
  have hg : l.getD k 0 = l[k] := by simp [hk]
  rw [hg] at this
  exact Classical.byContradiction fun hn => this (.inl hn)
theorem checkE_ok {c : Cal} {office day : Int} (h : checkE c office day = 0) : calE c = 0 ∧ (0 ≤ office ∧ office ≤ 11) ∧ (0 ≤ day ∧ day ≤ 131072) := by
  unfold checkE at h
  split at h
  · rename_i h1; exact absurd h h1
  · rename_i h1
    split at h
    · cases h
    · rename_i h2
      split at h
      · cases h
      · rename_i h3
        exact ⟨by simpa using h1, by simpa using h2, by simpa using h3⟩
set_option maxHeartbeats 1000000 in
theorem check_c (c : Cal) (office day : Int) (v : Value) (w : World) (hr : CalR (ph w) v c) (hV : VL (ph w)) : Calls Tryz.prog 66 #[v, .int .i64 office, .int .i64 day] w (RetV w (.int .i64 (checkE c office day))) := by
  have hvc := fun w hr hV => calValid_c c v w hr hV
  have hE : Hid (checkE c office day = if calE c ≠ 0 then calE c else if ¬ (0 ≤ office ∧ office ≤ 11) then 1 else if ¬ (0 ≤ day ∧ day ≤ 131072) then 5 else 0) := rfl
  obtain ⟨a, b, rfl, hW, hH⟩ := id hr
  obtain ⟨wa, wc, rfl, wlen, -⟩ := hW.form
  obtain ⟨ha, hc, rfl, hlen, -⟩ := hH.form
  generalize calE c = ce at *
  by_cases h0 : ce = 0
  · subst h0
    by_cases h1 : 0 ≤ office ∧ office ≤ 11
    · by_cases h2 : 0 ≤ day ∧ day ≤ 131072
      · have hE2 : Hid (checkE c office day = 0) := by show _ = _; rw [hE.out]; simp only [ne_eq, not_true, if_false]; rw [if_neg (by omega), if_neg (by omega)]
        clear hE
        go_enter Tryz.func66, Tryz.ntmps66
        go_wp2_with fail
        refine RetV_at (hvc _ (hr.mono (Ext.ple (by repeat (first | (with_reducible assumption) | (with_reducible exact Ext.rfl' _) | (with_reducible exact Ext.new _ _) | (with_reducible refine Ext.alloc' ?_ _) | (with_reducible refine Ext.drew' ?_) | (with_reducible refine Ext.drewN' ?_ _) | (with_reducible refine Ext.set' ?_ ?_ _; rotate_left; (focus (first | omega | (simp; done) | (simp; omega)))) | (with_reducible refine Ext.then (b := ?_) ?_ ?_; rotate_left; rotate_left; (with_reducible assumption)))))) (hV.mono (Ext.ple (by repeat (first | (with_reducible assumption) | (with_reducible exact Ext.rfl' _) | (with_reducible exact Ext.new _ _) | (with_reducible refine Ext.alloc' ?_ _) | (with_reducible refine Ext.drew' ?_) | (with_reducible refine Ext.drewN' ?_ _) | (with_reducible refine Ext.set' ?_ ?_ _; rotate_left; (focus (first | omega | (simp; done) | (simp; omega)))) | (with_reducible refine Ext.then (b := ?_) ?_ ?_; rotate_left; rotate_left; (with_reducible assumption))))))) ?_
        intro w2 hx2
        have hx : Ext w w2 := (by repeat (first | (with_reducible assumption) | (with_reducible exact Ext.rfl' _) | (with_reducible exact Ext.new _ _) | (with_reducible refine Ext.alloc' ?_ _) | (with_reducible refine Ext.drew' ?_) | (with_reducible refine Ext.drewN' ?_ _) | (with_reducible refine Ext.set' ?_ ?_ _; rotate_left; (focus (first | omega | (simp; done) | (simp; omega)))) | (with_reducible refine Ext.then (b := ?_) ?_ ?_; rotate_left; rotate_left; (with_reducible assumption))))
        go_wp2_with fail
        refine RetP_at (calIn_c office 0 11 _) ?_
        rw [inB_t h1]
        go_wp2_with fail
        refine RetP_at (calIn_c day 0 131072 _) ?_
        rw [inB_t h2]
        go_wp2_with fail
        go_ret
        exact ⟨ret_int hE2.out.symm, hx⟩
      · have hE2 : Hid (checkE c office day = 5) := by show _ = _; rw [hE.out]; simp only [ne_eq, not_true, if_false]; rw [if_neg (by omega), if_pos h2]
        clear hE
        go_enter Tryz.func66, Tryz.ntmps66
        go_wp2_with fail
        refine RetV_at (hvc _ (hr.mono (Ext.ple (by repeat (first | (with_reducible assumption) | (with_reducible exact Ext.rfl' _) | (with_reducible exact Ext.new _ _) | (with_reducible refine Ext.alloc' ?_ _) | (with_reducible refine Ext.drew' ?_) | (with_reducible refine Ext.drewN' ?_ _) | (with_reducible refine Ext.set' ?_ ?_ _; rotate_left; (focus (first | omega | (simp; done) | (simp; omega)))) | (with_reducible refine Ext.then (b := ?_) ?_ ?_; rotate_left; rotate_left; (with_reducible assumption)))))) (hV.mono (Ext.ple (by repeat (first | (with_reducible assumption) | (with_reducible exact Ext.rfl' _) | (with_reducible exact Ext.new _ _) | (with_reducible refine Ext.alloc' ?_ _) | (with_reducible refine Ext.drew' ?_) | (with_reducible refine Ext.drewN' ?_ _) | (with_reducible refine Ext.set' ?_ ?_ _; rotate_left; (focus (first | omega | (simp; done) | (simp; omega)))) | (with_reducible refine Ext.then (b := ?_) ?_ ?_; rotate_left; rotate_left; (with_reducible assumption))))))) ?_
        intro w2 hx2
        have hx : Ext w w2 := (by repeat (first | (with_reducible assumption) | (with_reducible exact Ext.rfl' _) | (with_reducible exact Ext.new _ _) | (with_reducible refine Ext.alloc' ?_ _) | (with_reducible refine Ext.drew' ?_) | (with_reducible refine Ext.drewN' ?_ _) | (with_reducible refine Ext.set' ?_ ?_ _; rotate_left; (focus (first | omega | (simp; done) | (simp; omega)))) | (with_reducible refine Ext.then (b := ?_) ?_ ?_; rotate_left; rotate_left; (with_reducible assumption))))
        go_wp2_with fail
        refine RetP_at (calIn_c office 0 11 _) ?_
        rw [inB_t h1]
        go_wp2_with fail
        refine RetP_at (calIn_c day 0 131072 _) ?_
        rw [inB_f h2]
        go_wp2_with fail
        go_ret
        exact ⟨ret_int hE2.out.symm, hx⟩
    · have hE2 : Hid (checkE c office day = 1) := by show _ = _; rw [hE.out]; simp only [ne_eq, not_true, if_false]; rw [if_pos h1]
      clear hE
      go_enter Tryz.func66, Tryz.ntmps66
      go_wp2_with fail
      refine RetV_at (hvc _ (hr.mono (Ext.ple (by repeat (first | (with_reducible assumption) | (with_reducible exact Ext.rfl' _) | (with_reducible exact Ext.new _ _) | (with_reducible refine Ext.alloc' ?_ _) | (with_reducible refine Ext.drew' ?_) | (with_reducible refine Ext.drewN' ?_ _) | (with_reducible refine Ext.set' ?_ ?_ _; rotate_left; (focus (first | omega | (simp; done) | (simp; omega)))) | (with_reducible refine Ext.then (b := ?_) ?_ ?_; rotate_left; rotate_left; (with_reducible assumption)))))) (hV.mono (Ext.ple (by repeat (first | (with_reducible assumption) | (with_reducible exact Ext.rfl' _) | (with_reducible exact Ext.new _ _) | (with_reducible refine Ext.alloc' ?_ _) | (with_reducible refine Ext.drew' ?_) | (with_reducible refine Ext.drewN' ?_ _) | (with_reducible refine Ext.set' ?_ ?_ _; rotate_left; (focus (first | omega | (simp; done) | (simp; omega)))) | (with_reducible refine Ext.then (b := ?_) ?_ ?_; rotate_left; rotate_left; (with_reducible assumption))))))) ?_
      intro w2 hx2
      have hx : Ext w w2 := (by repeat (first | (with_reducible assumption) | (with_reducible exact Ext.rfl' _) | (with_reducible exact Ext.new _ _) | (with_reducible refine Ext.alloc' ?_ _) | (with_reducible refine Ext.drew' ?_) | (with_reducible refine Ext.drewN' ?_ _) | (with_reducible refine Ext.set' ?_ ?_ _; rotate_left; (focus (first | omega | (simp; done) | (simp; omega)))) | (with_reducible refine Ext.then (b := ?_) ?_ ?_; rotate_left; rotate_left; (with_reducible assumption))))
      go_wp2_with fail
      refine RetP_at (calIn_c office 0 11 _) ?_
      rw [inB_f h1]
      go_wp2_with fail
      go_ret
      exact ⟨ret_int hE2.out.symm, hx⟩
  · have hE2 : Hid (checkE c office day = ce) := by show _ = _; rw [hE.out]; rw [if_pos h0]
    have hb : (ce != 0) = true := by rw [bne_iff_ne]; exact h0
    clear hE h0
    go_enter Tryz.func66, Tryz.ntmps66
    go_wp2_with fail
    refine RetV_at (hvc _ (hr.mono (Ext.ple (by repeat (first | (with_reducible assumption) | (with_reducible exact Ext.rfl' _) | (with_reducible exact Ext.new _ _) | (with_reducible refine Ext.alloc' ?_ _) | (with_reducible refine Ext.drew' ?_) | (with_reducible refine Ext.drewN' ?_ _) | (with_reducible refine Ext.set' ?_ ?_ _; rotate_left; (focus (first | omega | (simp; done) | (simp; omega)))) | (with_reducible refine Ext.then (b := ?_) ?_ ?_; rotate_left; rotate_left; (with_reducible assumption)))))) (hV.mono (Ext.ple (by repeat (first | (with_reducible assumption) | (with_reducible exact Ext.rfl' _) | (with_reducible exact Ext.new _ _) | (with_reducible refine Ext.alloc' ?_ _) | (with_reducible refine Ext.drew' ?_) | (with_reducible refine Ext.drewN' ?_ _) | (with_reducible refine Ext.set' ?_ ?_ _; rotate_left; (focus (first | omega | (simp; done) | (simp; omega)))) | (with_reducible refine Ext.then (b := ?_) ?_ ?_; rotate_left; rotate_left; (with_reducible assumption))))))) ?_
    intro w2 hx2
    have hx : Ext w w2 := (by repeat (first | (with_reducible assumption) | (with_reducible exact Ext.rfl' _) | (with_reducible exact Ext.new _ _) | (with_reducible refine Ext.alloc' ?_ _) | (with_reducible refine Ext.drew' ?_) | (with_reducible refine Ext.drewN' ?_ _) | (with_reducible refine Ext.set' ?_ ?_ _; rotate_left; (focus (first | omega | (simp; done) | (simp; omega)))) | (with_reducible refine Ext.then (b := ?_) ?_ ?_; rotate_left; rotate_left; (with_reducible assumption))))
    go_wp2_with fail
    go_ret
    exact ⟨ret_int hE2.out.symm, hx⟩
noncomputable def openE (c : Cal) (xs : List Ac) (office day : Int) : Bool × Int := if checkE c office day = 0 then (opB c xs office day, 0) else (false, checkE c office day)
set_option maxHeartbeats 1000000 in
theorem calOpen_c (c : Cal) (xs : List Ac) (office day : Int) (v va : Value) (w : World) (hr : CalR (ph w) v c) (hA : ActsR (ph w) va xs) (hV : VL (ph w)) :
    Calls Tryz.prog 48 #[v, .int .i64 office, va, .int .i64 day] w (RetV w (.tuple #[.bool (openE c xs office day).1, .int .i64 (openE c xs office day).2])) := by
  have hcc := fun w hr hV => check_c c office day v w hr hV
  have hE : Hid (openE c xs office day = if checkE c office day = 0 then (opB c xs office day, 0) else (false, checkE c office day)) := rfl
  have hok := fun h => checkE_ok (c := c) (office := office) (day := day) h
  obtain ⟨a, b, rfl, hW, hH⟩ := id hr
  obtain ⟨wa, wc, rfl, wlen, -⟩ := hW.form
  obtain ⟨ha, hc, rfl, hlen, -⟩ := hH.form
  obtain ⟨xa, xc, rfl, xlen, -⟩ := hA.form
  generalize checkE c office day = ce at *
  by_cases h0 : ce = 0
  · obtain ⟨k0, -, k1, k2⟩ := hok h0
    have hbd := (calE_ok k0).1.bd
    subst h0
    have hE2 : Hid (openE c xs office day = (opB c xs office day, 0)) := hE.out
    clear hE hok
    go_enter Tryz.func48, Tryz.ntmps48
    go_wp2_with fail
    refine RetV_at (hcc _ (hr.mono (Ext.ple (by repeat (first | (with_reducible assumption) | (with_reducible exact Ext.rfl' _) | (with_reducible exact Ext.new _ _) | (with_reducible refine Ext.alloc' ?_ _) | (with_reducible refine Ext.drew' ?_) | (with_reducible refine Ext.drewN' ?_ _) | (with_reducible refine Ext.set' ?_ ?_ _; rotate_left; (focus (first | omega | (simp; done) | (simp; omega)))) | (with_reducible refine Ext.then (b := ?_) ?_ ?_; rotate_left; rotate_left; (with_reducible assumption)))))) (hV.mono (Ext.ple (by repeat (first | (with_reducible assumption) | (with_reducible exact Ext.rfl' _) | (with_reducible exact Ext.new _ _) | (with_reducible refine Ext.alloc' ?_ _) | (with_reducible refine Ext.drew' ?_) | (with_reducible refine Ext.drewN' ?_ _) | (with_reducible refine Ext.set' ?_ ?_ _; rotate_left; (focus (first | omega | (simp; done) | (simp; omega)))) | (with_reducible refine Ext.then (b := ?_) ?_ ?_; rotate_left; rotate_left; (with_reducible assumption))))))) ?_
    intro w2 hx2
    have hx : Ext w w2 := (by repeat (first | (with_reducible assumption) | (with_reducible exact Ext.rfl' _) | (with_reducible exact Ext.new _ _) | (with_reducible refine Ext.alloc' ?_ _) | (with_reducible refine Ext.drew' ?_) | (with_reducible refine Ext.drewN' ?_ _) | (with_reducible refine Ext.set' ?_ ?_ _; rotate_left; (focus (first | omega | (simp; done) | (simp; omega)))) | (with_reducible refine Ext.then (b := ?_) ?_ ?_; rotate_left; rotate_left; (with_reducible assumption))))
    have hO := (Own.new w #[.slice wa c.1.length wc, .slice ha c.2.length hc] 71).keep hx2
    obtain ⟨oc, -⟩ := hO.facts
    go_wp2_with fail
    refine (of_c c.1 office _ _ _ _ (hW.mono mono_IntR (Ext.ple (by repeat (first | (with_reducible assumption) | (with_reducible exact Ext.rfl' _) | (with_reducible exact Ext.new _ _) | (with_reducible refine Ext.alloc' ?_ _) | (with_reducible refine Ext.drew' ?_) | (with_reducible refine Ext.drewN' ?_ _) | (with_reducible refine Ext.set' ?_ ?_ _; rotate_left; (focus (first | omega | (simp; done) | (simp; omega)))) | (with_reducible refine Ext.then (b := ?_) ?_ ?_; rotate_left; rotate_left; (with_reducible assumption)))))) hbd ⟨_, _, _, rfl⟩ ⟨_, _, _, rfl⟩).mono ?_
    rintro e w3 ⟨u, rfl, hx3, hof⟩
    have hx4 : Ext w w3 := (by repeat (first | (with_reducible assumption) | (with_reducible exact Ext.rfl' _) | (with_reducible exact Ext.new _ _) | (with_reducible refine Ext.alloc' ?_ _) | (with_reducible refine Ext.drew' ?_) | (with_reducible refine Ext.drewN' ?_ _) | (with_reducible refine Ext.set' ?_ ?_ _; rotate_left; (focus (first | omega | (simp; done) | (simp; omega)))) | (with_reducible refine Ext.then (b := ?_) ?_ ?_; rotate_left; rotate_left; (with_reducible assumption))))
    have hop := open_c c xs office day u _ _ _ w3 hof (hH.mono mono_DateR (Ext.ple hx4)) (hA.mono mono_ActR (Ext.ple hx4)) (hV.mono (Ext.ple hx4)) k1 k2
    clear hof oc hO
    go_wp2_with fail
    refine RetV_at hop ?_
    intro w5 hx5
    have hx6 := hx4.then hx5
    go_wp2_with fail
    go_ret2
    rw [hE2.out]
    exact ⟨rfl, hx6⟩
  · have hE2 : Hid (openE c xs office day = (false, ce)) := by show _ = _; rw [hE.out, if_neg h0]
    have hb : (ce != 0) = true := by rw [bne_iff_ne]; exact h0
    clear hE h0 hok
    go_enter Tryz.func48, Tryz.ntmps48
    go_wp2_with fail
    refine RetV_at (hcc _ (hr.mono (Ext.ple (by repeat (first | (with_reducible assumption) | (with_reducible exact Ext.rfl' _) | (with_reducible exact Ext.new _ _) | (with_reducible refine Ext.alloc' ?_ _) | (with_reducible refine Ext.drew' ?_) | (with_reducible refine Ext.drewN' ?_ _) | (with_reducible refine Ext.set' ?_ ?_ _; rotate_left; (focus (first | omega | (simp; done) | (simp; omega)))) | (with_reducible refine Ext.then (b := ?_) ?_ ?_; rotate_left; rotate_left; (with_reducible assumption)))))) (hV.mono (Ext.ple (by repeat (first | (with_reducible assumption) | (with_reducible exact Ext.rfl' _) | (with_reducible exact Ext.new _ _) | (with_reducible refine Ext.alloc' ?_ _) | (with_reducible refine Ext.drew' ?_) | (with_reducible refine Ext.drewN' ?_ _) | (with_reducible refine Ext.set' ?_ ?_ _; rotate_left; (focus (first | omega | (simp; done) | (simp; omega)))) | (with_reducible refine Ext.then (b := ?_) ?_ ?_; rotate_left; rotate_left; (with_reducible assumption))))))) ?_
    intro w2 hx2
    have hx : Ext w w2 := (by repeat (first | (with_reducible assumption) | (with_reducible exact Ext.rfl' _) | (with_reducible exact Ext.new _ _) | (with_reducible refine Ext.alloc' ?_ _) | (with_reducible refine Ext.drew' ?_) | (with_reducible refine Ext.drewN' ?_ _) | (with_reducible refine Ext.set' ?_ ?_ _; rotate_left; (focus (first | omega | (simp; done) | (simp; omega)))) | (with_reducible refine Ext.then (b := ?_) ?_ ?_; rotate_left; rotate_left; (with_reducible assumption))))
    go_wp2_with fail
    go_ret2
    rw [hE2.out]
    exact ⟨rfl, hx⟩
end Go.Proofs.YtcmdekhhclgdcaaGreatDoor
namespace Go.Proofs.YtcmdekhhclgdcaaGreatDoor
open Go.RowKit Go.Shelf
set_option linter.unusedSimpArgs false
set_option linter.unusedVariables false
attribute [local go_sem] run_store_fn
/-- the first open day from a day on, within so many days -/
def nextF (p : Int → Bool) : Nat → Int → Int × Int
  | 0, _ => (0, 4)
  | f + 1, d => if 131072 < d then (0, 5) else if p d then (d, 0) else nextF p f (d + 1)
noncomputable def nextE (c : Cal) (xs : List Ac) (office day : Int) : Int × Int := if checkE c office day = 0 then nextF (opB c xs office) 4096 day else (0, checkE c office day)
set_option maxRecDepth 100000 in
set_option maxHeartbeats 1000000 in
theorem calNext_c (c : Cal) (xs : List Ac) (office day : Int) (v va : Value) (w : World) (hr : CalR (ph w) v c) (hA : ActsR (ph w) va xs) (hV : VL (ph w)) :
    Calls Tryz.prog 53 #[v, .int .i64 office, va, .int .i64 day] w (RetV w (two (nextE c xs office day).1 (nextE c xs office day).2)) := by
  have hcc := fun w hr hV => check_c c office day v w hr hV
  have hE : Hid (nextE c xs office day = if checkE c office day = 0 then nextF (opB c xs office) 4096 day else (0, checkE c office day)) := rfl
  have hok := fun h => checkE_ok (c := c) (office := office) (day := day) h
  obtain ⟨a, b, rfl, hW, hH⟩ := id hr
  obtain ⟨wa, wc, rfl, wlen, -⟩ := hW.form
  obtain ⟨ha, hc, rfl, hlen, -⟩ := hH.form
  obtain ⟨xa, xc, rfl, xlen, -⟩ := hA.form
  generalize checkE c office day = ce at *
  by_cases h0 : ce = 0
  · obtain ⟨k0, -, k1, k2⟩ := hok h0
    have hbd := (calE_ok k0).1.bd
    subst h0
    have hE2 : Hid (nextE c xs office day = nextF (opB c xs office) 4096 day) := hE.out
    clear hE hok
    go_enter Tryz.func53, Tryz.ntmps53
    go_wp2_with fail
    refine RetV_at (hcc _ (hr.mono (Ext.ple (by repeat (first | (with_reducible assumption) | (with_reducible exact Ext.rfl' _) | (with_reducible exact Ext.new _ _) | (with_reducible refine Ext.alloc' ?_ _) | (with_reducible refine Ext.drew' ?_) | (with_reducible refine Ext.drewN' ?_ _) | (with_reducible refine Ext.set' ?_ ?_ _; rotate_left; (focus (first | omega | (simp; done) | (simp; omega)))) | (with_reducible refine Ext.then (b := ?_) ?_ ?_; rotate_left; rotate_left; (with_reducible assumption)))))) (hV.mono (Ext.ple (by repeat (first | (with_reducible assumption) | (with_reducible exact Ext.rfl' _) | (with_reducible exact Ext.new _ _) | (with_reducible refine Ext.alloc' ?_ _) | (with_reducible refine Ext.drew' ?_) | (with_reducible refine Ext.drewN' ?_ _) | (with_reducible refine Ext.set' ?_ ?_ _; rotate_left; (focus (first | omega | (simp; done) | (simp; omega)))) | (with_reducible refine Ext.then (b := ?_) ?_ ?_; rotate_left; rotate_left; (with_reducible assumption))))))) ?_
    intro w2 hx2
    have hx : Ext w w2 := (by repeat (first | (with_reducible assumption) | (with_reducible exact Ext.rfl' _) | (with_reducible exact Ext.new _ _) | (with_reducible refine Ext.alloc' ?_ _) | (with_reducible refine Ext.drew' ?_) | (with_reducible refine Ext.drewN' ?_ _) | (with_reducible refine Ext.set' ?_ ?_ _; rotate_left; (focus (first | omega | (simp; done) | (simp; omega)))) | (with_reducible refine Ext.then (b := ?_) ?_ ?_; rotate_left; rotate_left; (with_reducible assumption))))
    have hO := (Own.new w #[.slice wa c.1.length wc, .slice ha c.2.length hc] 71).keep hx2
    obtain ⟨oc, -⟩ := hO.facts
    go_wp2_with fail
    refine (of_c c.1 office _ _ _ _ (hW.mono mono_IntR (Ext.ple (by repeat (first | (with_reducible assumption) | (with_reducible exact Ext.rfl' _) | (with_reducible exact Ext.new _ _) | (with_reducible refine Ext.alloc' ?_ _) | (with_reducible refine Ext.drew' ?_) | (with_reducible refine Ext.drewN' ?_ _) | (with_reducible refine Ext.set' ?_ ?_ _; rotate_left; (focus (first | omega | (simp; done) | (simp; omega)))) | (with_reducible refine Ext.then (b := ?_) ?_ ?_; rotate_left; rotate_left; (with_reducible assumption)))))) hbd ⟨_, _, _, rfl⟩ ⟨_, _, _, rfl⟩).mono ?_
    rintro e w3 ⟨u, rfl, hx3, hof⟩
    have hx4 : Ext w w3 := (by repeat (first | (with_reducible assumption) | (with_reducible exact Ext.rfl' _) | (with_reducible exact Ext.new _ _) | (with_reducible refine Ext.alloc' ?_ _) | (with_reducible refine Ext.drew' ?_) | (with_reducible refine Ext.drewN' ?_ _) | (with_reducible refine Ext.set' ?_ ?_ _; rotate_left; (focus (first | omega | (simp; done) | (simp; omega)))) | (with_reducible refine Ext.then (b := ?_) ?_ ?_; rotate_left; rotate_left; (with_reducible assumption))))
    have hop := fun w5 (hx5 : Ext w3 w5) n h1 h2 => open_c c xs office n u _ _ _ w5 (hof.mono (Ext.ple hx5)) (hH.mono mono_DateR (Ext.ple (hx4.then hx5))) (hA.mono mono_ActR (Ext.ple (hx4.then hx5))) (hV.mono (Ext.ple (hx4.then hx5))) h1 h2
    obtain ⟨g3, g4, g5, g7, hu, -⟩ := hof
    subst hu
    clear oc hO
    go_wp2_with fail
    have hB := Own.new w3 #[.func (.func 89) #[] #[.pointer (some ⟨g7, 0, none⟩)], .func (.func 90) #[] #[.pointer (some ⟨g3, 0, none⟩)], .func (.func 91) #[] #[.pointer (some ⟨g5, 0, none⟩), .pointer (some ⟨g4, 0, none⟩)]] 121
    have hxB := Ext.new w3 (.cells #[.func (.func 89) #[] #[.pointer (some ⟨g7, 0, none⟩)], .func (.func 90) #[] #[.pointer (some ⟨g3, 0, none⟩)], .func (.func 91) #[] #[.pointer (some ⟨g5, 0, none⟩), .pointer (some ⟨g4, 0, none⟩)]] 121)
    generalize w3.alloc _ = W at *
    generalize opB c xs office = p at *
    go_loopw [24] (fun i wr => ∃ k : Nat, k ≤ 4096 ∧ i = .int .i64 k ∧ Hid (nextF p 4096 day = nextF p (4096 - k) (day + k)) ∧ Ext W wr) (fun i _ => 5000 - (intOf i).toNat)
    case atStart => exact ⟨0, by omega, rfl, Lib.hid (by simp), Ext.rfl' _⟩
    case round =>
      obtain ⟨k, hk, rfl, hn, hxr⟩ := hrel
      obtain ⟨bc, -⟩ := (hB.keep hxr).facts
      by_cases hlt : k < 4096
      · have hn2 : Hid (nextF p 4096 day = if 131072 < day + k then (0, 5) else if p (day + k) then (day + k, 0) else nextF p (4096 - (k + 1)) (day + (k + 1 : Nat))) := by
          show _ = _
          rw [hn.out, show 4096 - k = (4096 - (k + 1)) + 1 by omega, nextF, show day + ((k + 1 : Nat) : Int) = day + k + 1 by omega]
        clear hn
        by_cases hd : 131072 < day + k
        · have hE3 : Hid (nextE c xs office day = (0, 5)) := by show _ = _; rw [hE2.out, hn2.out, if_pos hd]
          clear hn2 hE2 hop
          go_wp2_with fail
          go_ret2
          rw [hE3.out]
          exact ⟨rfl, (by repeat (first | (with_reducible assumption) | (with_reducible exact Ext.rfl' _) | (with_reducible exact Ext.new _ _) | (with_reducible refine Ext.alloc' ?_ _) | (with_reducible refine Ext.drew' ?_) | (with_reducible refine Ext.drewN' ?_ _) | (with_reducible refine Ext.set' ?_ ?_ _; rotate_left; (focus (first | omega | (simp; done) | (simp; omega)))) | (with_reducible refine Ext.then (b := ?_) ?_ ?_; rotate_left; rotate_left; (with_reducible assumption))))⟩
        · have hop2 := hop wr (hxB.then hxr) (day + k) (by omega) (by omega)
          obtain ⟨q, hq⟩ : ∃ q, p (day + k) = q := ⟨_, rfl⟩
          rw [hq] at hop2
          cases q with
          | true =>
            have hE3 : Hid (nextE c xs office day = (day + k, 0)) := by show _ = _; rw [hE2.out, hn2.out, if_neg hd, hq]; rfl
            clear hn2 hE2 hop hq
            go_wp2_with fail
            refine RetV_at hop2 ?_
            intro w6 hx6
            go_wp2_with fail
            go_ret2
            rw [hE3.out]
            exact ⟨rfl, (by repeat (first | (with_reducible assumption) | (with_reducible exact Ext.rfl' _) | (with_reducible exact Ext.new _ _) | (with_reducible refine Ext.alloc' ?_ _) | (with_reducible refine Ext.drew' ?_) | (with_reducible refine Ext.drewN' ?_ _) | (with_reducible refine Ext.set' ?_ ?_ _; rotate_left; (focus (first | omega | (simp; done) | (simp; omega)))) | (with_reducible refine Ext.then (b := ?_) ?_ ?_; rotate_left; rotate_left; (with_reducible assumption))))⟩
          | false =>
            have hn3 : Hid (nextF p 4096 day = nextF p (4096 - (k + 1)) (day + (k + 1 : Nat))) := by show _ = _; rw [hn2.out, if_neg hd, hq]; rfl
            clear hn2 hop hq
            go_wp2_with fail
            refine RetV_at hop2 ?_
            intro w6 hx6
            go_wp2_with fail
            go_roundw
            case rel => exact ⟨k + 1, by omega, rfl, hn3, (by repeat (first | (with_reducible assumption) | (with_reducible exact Ext.rfl' _) | (with_reducible exact Ext.new _ _) | (with_reducible refine Ext.alloc' ?_ _) | (with_reducible refine Ext.drew' ?_) | (with_reducible refine Ext.drewN' ?_ _) | (with_reducible refine Ext.set' ?_ ?_ _; rotate_left; (focus (first | omega | (simp; done) | (simp; omega)))) | (with_reducible refine Ext.then (b := ?_) ?_ ?_; rotate_left; rotate_left; (with_reducible assumption))))⟩
            case measure => simp [intOf]; omega
      · obtain rfl : k = 4096 := by omega
        have hE3 : Hid (nextE c xs office day = (0, 4)) := by show _ = _; rw [hE2.out, hn.out]; rfl
        clear hn hE2 hop
        go_wp2_with fail
        go_ret2
        rw [hE3.out]
        exact ⟨rfl, (by repeat (first | (with_reducible assumption) | (with_reducible exact Ext.rfl' _) | (with_reducible exact Ext.new _ _) | (with_reducible refine Ext.alloc' ?_ _) | (with_reducible refine Ext.drew' ?_) | (with_reducible refine Ext.drewN' ?_ _) | (with_reducible refine Ext.set' ?_ ?_ _; rotate_left; (focus (first | omega | (simp; done) | (simp; omega)))) | (with_reducible refine Ext.then (b := ?_) ?_ ?_; rotate_left; rotate_left; (with_reducible assumption))))⟩
  · have hE2 : Hid (nextE c xs office day = (0, ce)) := by show _ = _; rw [hE.out, if_neg h0]
    have hb : (ce != 0) = true := by rw [bne_iff_ne]; exact h0
    clear hE h0 hok
    go_enter Tryz.func53, Tryz.ntmps53
    go_wp2_with fail
    refine RetV_at (hcc _ (hr.mono (Ext.ple (by repeat (first | (with_reducible assumption) | (with_reducible exact Ext.rfl' _) | (with_reducible exact Ext.new _ _) | (with_reducible refine Ext.alloc' ?_ _) | (with_reducible refine Ext.drew' ?_) | (with_reducible refine Ext.drewN' ?_ _) | (with_reducible refine Ext.set' ?_ ?_ _; rotate_left; (focus (first | omega | (simp; done) | (simp; omega)))) | (with_reducible refine Ext.then (b := ?_) ?_ ?_; rotate_left; rotate_left; (with_reducible assumption)))))) (hV.mono (Ext.ple (by repeat (first | (with_reducible assumption) | (with_reducible exact Ext.rfl' _) | (with_reducible exact Ext.new _ _) | (with_reducible refine Ext.alloc' ?_ _) | (with_reducible refine Ext.drew' ?_) | (with_reducible refine Ext.drewN' ?_ _) | (with_reducible refine Ext.set' ?_ ?_ _; rotate_left; (focus (first | omega | (simp; done) | (simp; omega)))) | (with_reducible refine Ext.then (b := ?_) ?_ ?_; rotate_left; rotate_left; (with_reducible assumption))))))) ?_
    intro w2 hx2
    have hx : Ext w w2 := (by repeat (first | (with_reducible assumption) | (with_reducible exact Ext.rfl' _) | (with_reducible exact Ext.new _ _) | (with_reducible refine Ext.alloc' ?_ _) | (with_reducible refine Ext.drew' ?_) | (with_reducible refine Ext.drewN' ?_ _) | (with_reducible refine Ext.set' ?_ ?_ _; rotate_left; (focus (first | omega | (simp; done) | (simp; omega)))) | (with_reducible refine Ext.then (b := ?_) ?_ ?_; rotate_left; rotate_left; (with_reducible assumption))))
    go_wp2_with fail
    go_ret2
    rw [hE2.out]
    exact ⟨rfl, hx⟩
end Go.Proofs.YtcmdekhhclgdcaaGreatDoor
