/- package calendar: open, check, Open, Next. -/
import Derived.Test.YtcmdekhhclgdcaaDoorCalD
namespace Go.Proofs.YtcmdekhhclgdcaaDoor
open Go.RowKit Go.Shelf
set_option linter.unusedSimpArgs false
set_option linter.unusedVariables false
attribute [local go_sem] run_store_fn
noncomputable def opB (c : Cal) (xs : List Ac) (office day : Int) : Bool := !(decide (day % 7 ∈ c.1)) && (!(c.2.any (hitB (dateV day))) && !(xs.any (shutB office day)))
set_option maxRecDepth 100000 in
set_option maxHeartbeats 1000000 in
theorem open_c (c : Cal) (xs : List Ac) (office day : Int) (v a b va : Value) (w : World) (hv : OfR (ph w) v c.1 a b office va) (hH : DatesR (ph w) b c.2) (hA : ActsR (ph w) va xs) (hV : VL (ph w)) (h0 : 0 ≤ day) (h1 : day ≤ 131072) :
    Calls Tryd.prog 56 #[v, .int .i64 day] w (RetV w (.bool (opB c xs office day))) := by
  obtain ⟨ws, hs⟩ := c
  dsimp only at hv hH
  obtain ⟨g3, g4, g5, g7, rfl, k7, k3a, k3, k4, k5⟩ := hv
  have hd0 : 0 ≤ day % 7 ∧ day % 7 ≤ 6 := by omega
  have hwk : wkV day = (day % 7, 0) := if_pos ⟨h0, h1⟩
  have hwc := fun w => weekday_c day w
  simp only [hwk] at hwc
  dsimp only [two] at hwc
  have hDE : dateE day = (dateV day, 0) := if_pos ⟨h0, h1⟩
  have hdc := fun w hV => date_c day w hV
  unfold DateP at hdc
  simp only [hDE] at hdc
  have ho : Hid (opB (ws, hs) xs office day = (!(decide (day % 7 ∈ ws)) && (!(hs.any (hitB (dateV day))) && !(xs.any (shutB office day))))) := rfl
  have c1 := fun w (hc : ∀ j u, (wkArr ws)[j]? = some u → cellAt (ph w) g7 j = some u) => wk_c ws (day % 7) g7 w hd0.1 hd0.2 hc
  have c2 := fun w hc hH => dateIn_c hs (dateV day) g3 b w hc hH
  have c3 := fun w hc hc' hA => dayIn_c xs office day g5 g4 va w hc hc' hA
  generalize dateV day = dv at *
  dsimp only [datA] at c2
  clear hwk hDE
  cases e1 : decide (day % 7 ∈ ws) with
  | true =>
    rw [e1] at ho
    simp only [e1] at c1
    clear e1
    go_enter Tryd.func56, Tryd.ntmps56
    go_wp2_with fail
    refine RetP_at (hwc _) ?_
    go_wp2_with fail
    refine (hdc _ (hV.mono (Ext.ple (by repeat (first | (with_reducible assumption) | (with_reducible exact Ext.rfl' _) | (with_reducible exact Ext.new _ _) | (with_reducible refine Ext.alloc' ?_ _) | (with_reducible refine Ext.drew' ?_) | (with_reducible refine Ext.drewN' ?_ _) | (with_reducible refine Ext.set' ?_ ?_ _; rotate_left; (focus (first | omega | (simp; done) | (simp; omega)))) | (with_reducible refine Ext.then (b := ?_) ?_ ?_; rotate_left; rotate_left; (with_reducible assumption))))))).mono ?_
    rintro e w2 ⟨rfl, hx2⟩
    dsimp only
    have hB := ((Own.new w #[.func (.func 79) #[] #[.pointer (some ⟨g7, 0, none⟩)], .func (.func 80) #[] #[.pointer (some ⟨g3, 0, none⟩)], .func (.func 81) #[] #[.pointer (some ⟨g5, 0, none⟩), .pointer (some ⟨g4, 0, none⟩)]] 109).keep hx2).alloc (.cells #[.int .i64 dv.1, .int .i64 dv.2.1, .int .i64 dv.2.2] 94)
    have hD := Own.new w2 #[.int .i64 dv.1, .int .i64 dv.2.1, .int .i64 dv.2.2] 94
    have hxw : Ext w (w2.alloc (.cells #[.int .i64 dv.1, .int .i64 dv.2.1, .int .i64 dv.2.2] 94)) := (by repeat (first | (with_reducible assumption) | (with_reducible exact Ext.rfl' _) | (with_reducible exact Ext.new _ _) | (with_reducible refine Ext.alloc' ?_ _) | (with_reducible refine Ext.drew' ?_) | (with_reducible refine Ext.drewN' ?_ _) | (with_reducible refine Ext.set' ?_ ?_ _; rotate_left; (focus (first | omega | (simp; done) | (simp; omega)))) | (with_reducible refine Ext.then (b := ?_) ?_ ?_; rotate_left; rotate_left; (with_reducible assumption))))
    have hbl := hB.lt
    have hbl0 : w.heap.size < w2.heap.size := by have := hx2.size; simp at this; omega
    have bcc := (Own.new w #[.func (.func 79) #[] #[.pointer (some ⟨g7, 0, none⟩)], .func (.func 80) #[] #[.pointer (some ⟨g3, 0, none⟩)], .func (.func 81) #[] #[.pointer (some ⟨g5, 0, none⟩), .pointer (some ⟨g4, 0, none⟩)]] 109).keep hx2
    obtain ⟨bc, -⟩ := bcc.facts
    go_wp2_with fail
    refine RetP_at (c1 _ (fun j u hu => cellAt_mono (Ext.ple hxw) (k7 j u hu))) ?_
    go_wp2_with fail
    go_ret
    exact ⟨ret_bool (by rw [ho.out]; rfl), hxw⟩
  | false =>
    rw [e1] at ho
    simp only [e1] at c1
    clear e1
    cases e2 : hs.any (hitB dv) with
    | true =>
      rw [e2] at ho
      simp only [e2] at c2
      clear e2
      go_enter Tryd.func56, Tryd.ntmps56
      go_wp2_with fail
      refine RetP_at (hwc _) ?_
      go_wp2_with fail
      refine (hdc _ (hV.mono (Ext.ple (by repeat (first | (with_reducible assumption) | (with_reducible exact Ext.rfl' _) | (with_reducible exact Ext.new _ _) | (with_reducible refine Ext.alloc' ?_ _) | (with_reducible refine Ext.drew' ?_) | (with_reducible refine Ext.drewN' ?_ _) | (with_reducible refine Ext.set' ?_ ?_ _; rotate_left; (focus (first | omega | (simp; done) | (simp; omega)))) | (with_reducible refine Ext.then (b := ?_) ?_ ?_; rotate_left; rotate_left; (with_reducible assumption))))))).mono ?_
      rintro e w2 ⟨rfl, hx2⟩
      dsimp only
      have hB := ((Own.new w #[.func (.func 79) #[] #[.pointer (some ⟨g7, 0, none⟩)], .func (.func 80) #[] #[.pointer (some ⟨g3, 0, none⟩)], .func (.func 81) #[] #[.pointer (some ⟨g5, 0, none⟩), .pointer (some ⟨g4, 0, none⟩)]] 109).keep hx2).alloc (.cells #[.int .i64 dv.1, .int .i64 dv.2.1, .int .i64 dv.2.2] 94)
      have hD := Own.new w2 #[.int .i64 dv.1, .int .i64 dv.2.1, .int .i64 dv.2.2] 94
      have hxw : Ext w (w2.alloc (.cells #[.int .i64 dv.1, .int .i64 dv.2.1, .int .i64 dv.2.2] 94)) := (by repeat (first | (with_reducible assumption) | (with_reducible exact Ext.rfl' _) | (with_reducible exact Ext.new _ _) | (with_reducible refine Ext.alloc' ?_ _) | (with_reducible refine Ext.drew' ?_) | (with_reducible refine Ext.drewN' ?_ _) | (with_reducible refine Ext.set' ?_ ?_ _; rotate_left; (focus (first | omega | (simp; done) | (simp; omega)))) | (with_reducible refine Ext.then (b := ?_) ?_ ?_; rotate_left; rotate_left; (with_reducible assumption))))
      have hbl := hB.lt
      have hbl0 : w.heap.size < w2.heap.size := by have := hx2.size; simp at this; omega
      have bcc := (Own.new w #[.func (.func 79) #[] #[.pointer (some ⟨g7, 0, none⟩)], .func (.func 80) #[] #[.pointer (some ⟨g3, 0, none⟩)], .func (.func 81) #[] #[.pointer (some ⟨g5, 0, none⟩), .pointer (some ⟨g4, 0, none⟩)]] 109).keep hx2
      obtain ⟨bc, -⟩ := bcc.facts
      go_wp2_with fail
      refine RetP_at (c1 _ (fun j u hu => cellAt_mono (Ext.ple hxw) (k7 j u hu))) ?_
      generalize w2.alloc _ = W3 at *
      obtain ⟨bc3, -⟩ := hB.facts
      obtain ⟨dc3, -⟩ := hD.facts
      clear bc
      go_wp2_with fail
      refine RetV_at (c2 _ (cellAt_mono (Ext.ple hxw) k3) (hH.mono mono_DateR (Ext.ple hxw))) ?_
      intro w5 hx5
      have hx6 := hxw.then hx5
      go_wp2_with fail
      go_ret
      exact ⟨ret_bool (by rw [ho.out]; rfl), hx6⟩
    | false =>
      rw [e2] at ho
      simp only [e2] at c2
      clear e2
      cases e3 : xs.any (shutB office day) with
      | true =>
        rw [e3] at ho
        simp only [e3] at c3
        clear e3
        go_enter Tryd.func56, Tryd.ntmps56
        go_wp2_with fail
        refine RetP_at (hwc _) ?_
        go_wp2_with fail
        refine (hdc _ (hV.mono (Ext.ple (by repeat (first | (with_reducible assumption) | (with_reducible exact Ext.rfl' _) | (with_reducible exact Ext.new _ _) | (with_reducible refine Ext.alloc' ?_ _) | (with_reducible refine Ext.drew' ?_) | (with_reducible refine Ext.drewN' ?_ _) | (with_reducible refine Ext.set' ?_ ?_ _; rotate_left; (focus (first | omega | (simp; done) | (simp; omega)))) | (with_reducible refine Ext.then (b := ?_) ?_ ?_; rotate_left; rotate_left; (with_reducible assumption))))))).mono ?_
        rintro e w2 ⟨rfl, hx2⟩
        dsimp only
        have hB := ((Own.new w #[.func (.func 79) #[] #[.pointer (some ⟨g7, 0, none⟩)], .func (.func 80) #[] #[.pointer (some ⟨g3, 0, none⟩)], .func (.func 81) #[] #[.pointer (some ⟨g5, 0, none⟩), .pointer (some ⟨g4, 0, none⟩)]] 109).keep hx2).alloc (.cells #[.int .i64 dv.1, .int .i64 dv.2.1, .int .i64 dv.2.2] 94)
        have hD := Own.new w2 #[.int .i64 dv.1, .int .i64 dv.2.1, .int .i64 dv.2.2] 94
        have hxw : Ext w (w2.alloc (.cells #[.int .i64 dv.1, .int .i64 dv.2.1, .int .i64 dv.2.2] 94)) := (by repeat (first | (with_reducible assumption) | (with_reducible exact Ext.rfl' _) | (with_reducible exact Ext.new _ _) | (with_reducible refine Ext.alloc' ?_ _) | (with_reducible refine Ext.drew' ?_) | (with_reducible refine Ext.drewN' ?_ _) | (with_reducible refine Ext.set' ?_ ?_ _; rotate_left; (focus (first | omega | (simp; done) | (simp; omega)))) | (with_reducible refine Ext.then (b := ?_) ?_ ?_; rotate_left; rotate_left; (with_reducible assumption))))
        have hbl := hB.lt
        have hbl0 : w.heap.size < w2.heap.size := by have := hx2.size; simp at this; omega
        have bcc := (Own.new w #[.func (.func 79) #[] #[.pointer (some ⟨g7, 0, none⟩)], .func (.func 80) #[] #[.pointer (some ⟨g3, 0, none⟩)], .func (.func 81) #[] #[.pointer (some ⟨g5, 0, none⟩), .pointer (some ⟨g4, 0, none⟩)]] 109).keep hx2
        obtain ⟨bc, -⟩ := bcc.facts
        go_wp2_with fail
        refine RetP_at (c1 _ (fun j u hu => cellAt_mono (Ext.ple hxw) (k7 j u hu))) ?_
        generalize w2.alloc _ = W3 at *
        obtain ⟨bc3, -⟩ := hB.facts
        obtain ⟨dc3, -⟩ := hD.facts
        clear bc
        go_wp2_with fail
        refine RetV_at (c2 _ (cellAt_mono (Ext.ple hxw) k3) (hH.mono mono_DateR (Ext.ple hxw))) ?_
        intro w5 hx5
        have hx6 := hxw.then hx5
        obtain ⟨bc5, -⟩ := (hB.keep hx5).facts
        clear bc3 dc3
        go_wp2_with fail
        refine RetV_at (c3 _ (cellAt_mono (Ext.ple hx6) k5) (cellAt_mono (Ext.ple hx6) k4) (hA.mono mono_ActR (Ext.ple hx6))) ?_
        intro w7 hx7
        have hx8 := hx6.then hx7
        go_wp2_with fail
        go_ret
        exact ⟨ret_bool (by rw [ho.out]; rfl), hx8⟩
      | false =>
        rw [e3] at ho
        simp only [e3] at c3
        clear e3
        go_enter Tryd.func56, Tryd.ntmps56
        go_wp2_with fail
        refine RetP_at (hwc _) ?_
        go_wp2_with fail
        refine (hdc _ (hV.mono (Ext.ple (by repeat (first | (with_reducible assumption) | (with_reducible exact Ext.rfl' _) | (with_reducible exact Ext.new _ _) | (with_reducible refine Ext.alloc' ?_ _) | (with_reducible refine Ext.drew' ?_) | (with_reducible refine Ext.drewN' ?_ _) | (with_reducible refine Ext.set' ?_ ?_ _; rotate_left; (focus (first | omega | (simp; done) | (simp; omega)))) | (with_reducible refine Ext.then (b := ?_) ?_ ?_; rotate_left; rotate_left; (with_reducible assumption))))))).mono ?_
        rintro e w2 ⟨rfl, hx2⟩
        dsimp only
        have hB := ((Own.new w #[.func (.func 79) #[] #[.pointer (some ⟨g7, 0, none⟩)], .func (.func 80) #[] #[.pointer (some ⟨g3, 0, none⟩)], .func (.func 81) #[] #[.pointer (some ⟨g5, 0, none⟩), .pointer (some ⟨g4, 0, none⟩)]] 109).keep hx2).alloc (.cells #[.int .i64 dv.1, .int .i64 dv.2.1, .int .i64 dv.2.2] 94)
        have hD := Own.new w2 #[.int .i64 dv.1, .int .i64 dv.2.1, .int .i64 dv.2.2] 94
        have hxw : Ext w (w2.alloc (.cells #[.int .i64 dv.1, .int .i64 dv.2.1, .int .i64 dv.2.2] 94)) := (by repeat (first | (with_reducible assumption) | (with_reducible exact Ext.rfl' _) | (with_reducible exact Ext.new _ _) | (with_reducible refine Ext.alloc' ?_ _) | (with_reducible refine Ext.drew' ?_) | (with_reducible refine Ext.drewN' ?_ _) | (with_reducible refine Ext.set' ?_ ?_ _; rotate_left; (focus (first | omega | (simp; done) | (simp; omega)))) | (with_reducible refine Ext.then (b := ?_) ?_ ?_; rotate_left; rotate_left; (with_reducible assumption))))
        have hbl := hB.lt
        have hbl0 : w.heap.size < w2.heap.size := by have := hx2.size; simp at this; omega
        have bcc := (Own.new w #[.func (.func 79) #[] #[.pointer (some ⟨g7, 0, none⟩)], .func (.func 80) #[] #[.pointer (some ⟨g3, 0, none⟩)], .func (.func 81) #[] #[.pointer (some ⟨g5, 0, none⟩), .pointer (some ⟨g4, 0, none⟩)]] 109).keep hx2
        obtain ⟨bc, -⟩ := bcc.facts
        go_wp2_with fail
        refine RetP_at (c1 _ (fun j u hu => cellAt_mono (Ext.ple hxw) (k7 j u hu))) ?_
        generalize w2.alloc _ = W3 at *
        obtain ⟨bc3, -⟩ := hB.facts
        obtain ⟨dc3, -⟩ := hD.facts
        clear bc
        go_wp2_with fail
        refine RetV_at (c2 _ (cellAt_mono (Ext.ple hxw) k3) (hH.mono mono_DateR (Ext.ple hxw))) ?_
        intro w5 hx5
        have hx6 := hxw.then hx5
        obtain ⟨bc5, -⟩ := (hB.keep hx5).facts
        clear bc3 dc3
        go_wp2_with fail
        refine RetV_at (c3 _ (cellAt_mono (Ext.ple hx6) k5) (cellAt_mono (Ext.ple hx6) k4) (hA.mono mono_ActR (Ext.ple hx6))) ?_
        intro w7 hx7
        have hx8 := hx6.then hx7
        go_wp2_with fail
        go_ret
        exact ⟨ret_bool (by rw [ho.out]; rfl), hx8⟩
end Go.Proofs.YtcmdekhhclgdcaaDoor
