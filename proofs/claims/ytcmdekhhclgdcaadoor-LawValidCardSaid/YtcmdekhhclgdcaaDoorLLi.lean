/- the examples of the section on the law. -/
import Derived.Test.YtcmdekhhclgdcaaDoorLEx
import Derived.Test.YtcmdekhhclgdcaaDoorLSI
import Derived.Test.YtcmdekhhclgdcaaDoorGenA
namespace Go.Proofs.YtcmdekhhclgdcaaDoor
open Go.RowKit Go.Shelf
set_option linter.unusedSimpArgs false
set_option linter.unusedVariables false
theorem one_rep (w : World) (X : Ac) (hX : X.I) : ActsR (ph (w.alloc (.cells (actC X).toArray 63))) (.slice (some ⟨w.heap.size, 0, none⟩) 1 1) [X] := by
  have h : OwnS 0 noH (w.alloc (.cells (actC X).toArray 63)) ActR 19 63 (.slice (some ⟨w.heap.size, 0, none⟩) 1 1) [X] :=
    OwnS.ofNew (xs := [X]) (Nat.zero_le _) (Proofs.YtcmdekhhclgdcaaDoor.Own.new w (actC X).toArray 63) rfl (by decide) rfl ⟨actC X, [], by simp, rfl, ⟨rfl, hX⟩, rfl⟩
  exact h.rep mono_ActR (noH_le _)
theorem RulR.form {h : PH} {v : Value} {r : Rul} (hr : RulR h v r) : ∃ a n c a' n' c', v = .agg #[.slice a n c, .slice a' n' c'] := by
  obtain ⟨x, y, rfl, h1, h2⟩ := hr
  obtain ⟨a, c, rfl, -, -⟩ := h1.form
  obtain ⟨a', c', rfl, -, -⟩ := h2.form
  exact ⟨_, _, _, _, _, _, rfl⟩
set_option maxRecDepth 100000 in
set_option maxHeartbeats 4000000 in
theorem lives17_c (w : World) (hV : VL (ph w)) (hR : VR (ph w)) : Calls Tryd.prog 42 #[] w (RetV w (.bool true)) := by
  have h1 := fun v va w hr hA hV hR => lValue_c defR 2 2 99 v va [aL] w hr hA (by simp) hV hR
  have h2 := fun v va w hr hA hV hR => lValue_c defR 2 2 100 v va [aL] w hr hA (by simp) hV hR
  have h3 := fun v va w hr hA hV hR => lChanges_c defR 2 2 v va [aL] w hr hA (by simp) hV hR
  have h4 := fun v va w hr hA hV hR => lLast_c defR 2 0 2 50 v va [aL] w hr hA (by simp) hV hR
  have h5 := fun v w hr hV hR => lLast_c defR 2 0 2 50 v (.slice none 0 0) [] w hr (SliceRep.nil _ _ _) (by simp) hV hR
  rw [val_99] at h1
  rw [val_100] at h2
  rw [last_1] at h4
  rw [last_0] at h5
  unfold ChgP at h3
  rw [lchk_def (by omega) (by omega) (by omega)] at h3
  dsimp only [two] at h1 h2 h4 h5
  have hI1 : aL.I := by unfold Ac.I I64; dsimp only; omega
  go_enter Tryd.func42, Tryd.ntmps42
  go_wp2_with fail
  refine (lawDefault_c w).mono ?_
  rintro e w1 ⟨v, rfl, hx1, hr⟩
  obtain ⟨a0, n0, k0, a1, n1, k1, rfl⟩ := hr.form
  go_upto_region 2 with (fail)
  go_upto_region 3 with (first | (refine wpList_build_act rfl _ rfl (aL) (by kernel_rfl) ?_) | (refine wpList_slice_act rfl _ rfl (aL) rfl ?_))
  have hO := (Proofs.YtcmdekhhclgdcaaDoor.Own.new w1 #[.slice a0 n0 k0, .slice a1 n1 k1] 83).alloc (.cells (actC aL).toArray 63)
  have hA := one_rep (w1.alloc (.cells #[.slice a0 n0 k0, .slice a1 n1 k1] 83)) aL hI1
  rw [show (w1.alloc (.cells #[.slice a0 n0 k0, .slice a1 n1 k1] 83)).heap.size = w1.heap.size + 1 by simp] at hA
  have hxW : Ext w1 ((w1.alloc (.cells #[.slice a0 n0 k0, .slice a1 n1 k1] 83)).alloc (.cells (actC aL).toArray 63)) := (Ext.new _ _).then (Ext.new _ _)
  have hr1 := hr.mono hxW.ple
  have hx0 := hx1.then hxW
  have hV1 := hV.mono hx0.ple
  have hR1 := hR.mono hx0.ple
  generalize (w1.alloc _).alloc _ = W at *
  have c0 : _ = some (Value.slice a0 n0 k0) := hO.facts.1 0
  have c1 : _ = some (Value.slice a1 n1 k1) := hO.facts.1 1
  have l1 := hO.lt
  clear hO hxW hr hx1 hV hR
  replace h1 := Lib.hid h1
  replace h2 := Lib.hid h2
  replace h3 := Lib.hid h3
  replace h4 := Lib.hid h4
  replace h5 := Lib.hid h5
  go_wp2_with fail
  refine RetV_at (h1.out _ _ _ hr1 hA hV1 hR1) ?_
  intro w2 hx2
  obtain ⟨p1, p2, p3⟩ := hx2.cells
  have l2 : w1.heap.size < w2.heap.size := by omega
  go_wp2_with fail
  refine RetV_at (h2.out _ _ _ (hr1.mono hx2.ple) (hA.mono mono_ActR hx2.ple) (hV1.mono hx2.ple) (hR1.mono hx2.ple)) ?_
  intro w3 hx3'
  have hx3 := hx2.then hx3'
  clear p1 p2 p3
  obtain ⟨p1, p2, p3⟩ := hx3.cells
  have l3 : w1.heap.size < w3.heap.size := by omega
  go_wp2_with fail
  refine (h3.out _ _ _ (hr1.mono hx3.ple) (hA.mono mono_ActR hx3.ple) (hV1.mono hx3.ple) (hR1.mono hx3.ple)).mono ?_
  rintro e w4 ⟨vc, cs, rfl, hx4', hcs, -, hok⟩
  obtain ⟨l, hl, hce⟩ := hok trivial
  rw [show baseV defR (2 : Int).toNat (2 : Int).toNat = 4 from baseV_2 (by omega), chg_100 hl] at hce
  subst hce
  obtain ⟨ca, cc, rfl, -, -⟩ := id hcs.form
  rw [show [(100 : Int)].length = 1 from rfl] at hcs
  try simp only [show [(100 : Int)].length = 1 from rfl]
  have hx4 := hx3.then hx4'
  clear p1 p2 p3 hok hl
  obtain ⟨p1, p2, p3⟩ := hx4.cells
  have l4 : w1.heap.size < w4.heap.size := by omega
  go_wp2_with fail
  refine RetV_at (h4.out _ _ _ (hr1.mono hx4.ple) (hA.mono mono_ActR hx4.ple) (hV1.mono hx4.ple) (hR1.mono hx4.ple)) ?_
  intro w5 hx5'
  have hx5 := hx4.then hx5'
  clear p1 p2 p3
  obtain ⟨p1, p2, p3⟩ := hx5.cells
  have l5 : w1.heap.size < w5.heap.size := by omega
  go_wp2_with fail
  refine RetV_at (h5.out _ _ (hr1.mono hx5.ple) (hV1.mono hx5.ple) (hR1.mono hx5.ple)) ?_
  intro w6 hx6'
  have hx6 := hx5.then hx6'
  have hcs6 := hcs.mono mono_IntR (hx5'.then hx6').ple
  clear p1 p2 p3
  have hx7 := Ext.new w6 (.cells #[.int .i64 100] 3)
  have hlit : IntsR (up noH w6 _) (.slice (some ⟨w6.heap.size, 0, none⟩) 1 1) [100] := ints_own (zs := [100]) hx7 (Nat.le_refl _) (Proofs.YtcmdekhhclgdcaaDoor.Own.new w6 #[.int .i64 100] 3) (by unfold I64; simp) (by simp)
  have hsm := sameInts_c _ _ [100] [100] _ (hcs6.mono mono_IntR hx7.ple) (hlit.mono mono_IntR (up_ple (noH_le _) hx7))
  rw [B_t rfl] at hsm
  clear h1 h2 h3 h4 h5 hlit
  go_upto_region 8 with (fail)
  go_wp2_with fail
  refine RetV_at hsm ?_
  intro w8 hx8
  go_wp2_with fail
  go_ret
  exact ⟨rfl, ((hx0.then hx6).then hx7).then hx8⟩
end Go.Proofs.YtcmdekhhclgdcaaDoor
