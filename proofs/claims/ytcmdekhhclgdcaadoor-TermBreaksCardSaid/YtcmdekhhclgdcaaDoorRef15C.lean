/- package priorartref15: Check. -/
import Derived.Test.YtcmdekhhclgdcaaDoorTBrk2
namespace Go.Proofs.YtcmdekhhclgdcaaDoor
open Go.RowKit Go.Shelf
set_option linter.unusedSimpArgs false
set_option linter.unusedVariables false
set_option maxRecDepth 100000 in
set_option maxHeartbeats 2000000 in
theorem rtcheck_c (file : Int) (xs : List Ac) (va : Value) (w : World) (hA : ActsR (ph w) va xs) : Calls Tryd.prog 17 #[.int .i64 file, va] w (RetV w (.int .i64 (tchk file xs))) := by
  obtain ⟨xa, xc, rfl, xlen, hA⟩ := hA.form
  by_cases hf1 : file < 0
  · have hE2 : Hid (tchk file xs = 1) := if_pos (by omega)
    go_enter Tryd.func17, Tryd.ntmps17
    go_wp2_with fail
    go_ret
    exact ⟨ret_int hE2.out.symm, (by repeat (first | (with_reducible assumption) | (with_reducible exact Ext.rfl' _) | (with_reducible exact Ext.new _ _) | (with_reducible refine Ext.alloc' ?_ _) | (with_reducible refine Ext.drew' ?_) | (with_reducible refine Ext.drewN' ?_ _) | (with_reducible refine Ext.set' ?_ ?_ _; rotate_left; (focus (first | omega | (simp; done) | (simp; omega)))) | (with_reducible refine Ext.then (b := ?_) ?_ ?_; rotate_left; rotate_left; (with_reducible assumption))))⟩
  by_cases hf2 : 4095 < file
  · have hE2 : Hid (tchk file xs = 1) := if_pos (by omega)
    go_enter Tryd.func17, Tryd.ntmps17
    go_wp2_with fail
    go_ret
    exact ⟨ret_int hE2.out.symm, (by repeat (first | (with_reducible assumption) | (with_reducible exact Ext.rfl' _) | (with_reducible exact Ext.new _ _) | (with_reducible refine Ext.alloc' ?_ _) | (with_reducible refine Ext.drew' ?_) | (with_reducible refine Ext.drewN' ?_ _) | (with_reducible refine Ext.set' ?_ ?_ _; rotate_left; (focus (first | omega | (simp; done) | (simp; omega)))) | (with_reducible refine Ext.then (b := ?_) ?_ ?_; rotate_left; rotate_left; (with_reducible assumption))))⟩
  have hE : Hid (tchk file xs = if xs.any (badB file) = true then 5 else 0) := if_neg (by omega)
  go_enter Tryd.func17, Tryd.ntmps17
  go_wp2_with fail
  go_loopw [5] (fun i wr => ∃ k : Nat, k ≤ xs.length ∧ i = .int .i64 k ∧ Hid (∀ x ∈ xs.take k, badB file x = false) ∧ Ext w wr) (fun i _ => xs.length - (intOf i).toNat)
  case atStart => exact ⟨0, by omega, rfl, Lib.hid (by simp), Ext.rfl' _⟩
  case round =>
    obtain ⟨k, hk, rfl, hno, hxr⟩ := hrel
    by_cases hlt : k < xs.length
    · obtain ⟨gb, go, rfl, gc, gl, -⟩ := ActsR.row (hA.mono mono_ActR hxr.ple) k hlt
      have hyes : badB file xs[k] = true → Hid (tchk file xs = 5) := fun h => by show _ = _; rw [hE.out, if_pos (List.any_eq_true.2 ⟨_, List.getElem_mem hlt, h⟩)]
      have hno' : badB file xs[k] = false → Hid (∀ x ∈ xs.take (k + 1), badB file x = false) := fun h => Lib.hid (take_all (p := fun x => badB file x = false) hlt h hno.out)
      generalize xs[k] = x at *
      obtain ⟨fc, -⟩ := (Own.new wr (actC x).toArray 63).facts
      have q0 : _ = some (Value.int .i64 x.kind) := fc 0
      have q1 : _ = some (Value.int .i64 x.day) := fc 1
      have q3 : _ = some (Value.int .i64 x.file) := fc 3
      have q7 : _ = some (Value.int .i64 x.number) := fc 7
      clear fc hno
      by_cases h1 : x.kind = 9
      · have b1 : (x.kind == 9) = true := by rw [beq_iff_eq]; exact h1
        by_cases h2 : x.file = file
        · have b2 : (x.file == file) = true := by rw [beq_iff_eq]; exact h2
          by_cases h3 : x.day ≤ x.number
          · have b3 : decide (x.day ≤ x.number) = true := by simpa using h3
            by_cases h4 : x.day < 0
            · have b4 : decide (x.day < 0) = true := by simpa using h4
              have hE2 := hyes (by unfold badB; rw [b1, b2, b3, b4]; rfl)
              clear hyes hno' hE h1 h2
              go_upto_region 7 with (first | (refine wpList_load_mid rfl 63 _ rfl _ _ rfl (actC _) _ gc Tryd.underlying63 rfl (by kernel_rfl) ?_) | (refine wpList_store_new rfl 63 _ _ rfl (actC _).toArray rfl rfl 63 _ (by kernel_rfl) rfl (one_act _) ?_))
              go_wp2_with fail
              go_ret
              exact ⟨ret_int hE2.out.symm, (by repeat (first | (with_reducible assumption) | (with_reducible exact Ext.rfl' _) | (with_reducible exact Ext.new _ _) | (with_reducible refine Ext.alloc' ?_ _) | (with_reducible refine Ext.drew' ?_) | (with_reducible refine Ext.drewN' ?_ _) | (with_reducible refine Ext.set' ?_ ?_ _; rotate_left; (focus (first | omega | (simp; done) | (simp; omega)))) | (with_reducible refine Ext.then (b := ?_) ?_ ?_; rotate_left; rotate_left; (with_reducible assumption))))⟩
            · have b4 : decide (x.day < 0) = false := by simpa using h4
              by_cases h5 : 131072 < x.number
              · have b5 : decide (131072 < x.number) = true := by simpa using h5
                have hE2 := hyes (by unfold badB; rw [b1, b2, b3, b4, b5]; rfl)
                clear hyes hno' hE h1 h2
                go_upto_region 7 with (first | (refine wpList_load_mid rfl 63 _ rfl _ _ rfl (actC _) _ gc Tryd.underlying63 rfl (by kernel_rfl) ?_) | (refine wpList_store_new rfl 63 _ _ rfl (actC _).toArray rfl rfl 63 _ (by kernel_rfl) rfl (one_act _) ?_))
                go_wp2_with fail
                go_ret
                exact ⟨ret_int hE2.out.symm, (by repeat (first | (with_reducible assumption) | (with_reducible exact Ext.rfl' _) | (with_reducible exact Ext.new _ _) | (with_reducible refine Ext.alloc' ?_ _) | (with_reducible refine Ext.drew' ?_) | (with_reducible refine Ext.drewN' ?_ _) | (with_reducible refine Ext.set' ?_ ?_ _; rotate_left; (focus (first | omega | (simp; done) | (simp; omega)))) | (with_reducible refine Ext.then (b := ?_) ?_ ?_; rotate_left; rotate_left; (with_reducible assumption))))⟩
              · have b5 : decide (131072 < x.number) = false := by simpa using h5
                have hr := hno' (by unfold badB; rw [b4, b5]; simp)
                clear hyes hno' h1 h2
                go_upto_region 7 with (first | (refine wpList_load_mid rfl 63 _ rfl _ _ rfl (actC _) _ gc Tryd.underlying63 rfl (by kernel_rfl) ?_) | (refine wpList_store_new rfl 63 _ _ rfl (actC _).toArray rfl rfl 63 _ (by kernel_rfl) rfl (one_act _) ?_))
                go_wp2_with fail
                go_roundw
                case rel => exact ⟨k + 1, by omega, rfl, hr, (by repeat (first | (with_reducible assumption) | (with_reducible exact Ext.rfl' _) | (with_reducible exact Ext.new _ _) | (with_reducible refine Ext.alloc' ?_ _) | (with_reducible refine Ext.drew' ?_) | (with_reducible refine Ext.drewN' ?_ _) | (with_reducible refine Ext.set' ?_ ?_ _; rotate_left; (focus (first | omega | (simp; done) | (simp; omega)))) | (with_reducible refine Ext.then (b := ?_) ?_ ?_; rotate_left; rotate_left; (with_reducible assumption))))⟩
                case measure => simp [intOf]; omega
          · have b3 : decide (x.day ≤ x.number) = false := by simpa using h3
            have hr := hno' (by unfold badB; rw [b3]; simp)
            clear hyes hno' h1 h2
            go_upto_region 7 with (first | (refine wpList_load_mid rfl 63 _ rfl _ _ rfl (actC _) _ gc Tryd.underlying63 rfl (by kernel_rfl) ?_) | (refine wpList_store_new rfl 63 _ _ rfl (actC _).toArray rfl rfl 63 _ (by kernel_rfl) rfl (one_act _) ?_))
            go_wp2_with fail
            go_roundw
            case rel => exact ⟨k + 1, by omega, rfl, hr, (by repeat (first | (with_reducible assumption) | (with_reducible exact Ext.rfl' _) | (with_reducible exact Ext.new _ _) | (with_reducible refine Ext.alloc' ?_ _) | (with_reducible refine Ext.drew' ?_) | (with_reducible refine Ext.drewN' ?_ _) | (with_reducible refine Ext.set' ?_ ?_ _; rotate_left; (focus (first | omega | (simp; done) | (simp; omega)))) | (with_reducible refine Ext.then (b := ?_) ?_ ?_; rotate_left; rotate_left; (with_reducible assumption))))⟩
            case measure => simp [intOf]; omega
        · have b2 : (x.file == file) = false := by rw [beq_eq_false_iff_ne]; exact h2
          have hr := hno' (by unfold badB; rw [b2]; simp)
          clear hyes hno' h1 h2
          go_upto_region 7 with (first | (refine wpList_load_mid rfl 63 _ rfl _ _ rfl (actC _) _ gc Tryd.underlying63 rfl (by kernel_rfl) ?_) | (refine wpList_store_new rfl 63 _ _ rfl (actC _).toArray rfl rfl 63 _ (by kernel_rfl) rfl (one_act _) ?_))
          go_wp2_with fail
          go_roundw
          case rel => exact ⟨k + 1, by omega, rfl, hr, (by repeat (first | (with_reducible assumption) | (with_reducible exact Ext.rfl' _) | (with_reducible exact Ext.new _ _) | (with_reducible refine Ext.alloc' ?_ _) | (with_reducible refine Ext.drew' ?_) | (with_reducible refine Ext.drewN' ?_ _) | (with_reducible refine Ext.set' ?_ ?_ _; rotate_left; (focus (first | omega | (simp; done) | (simp; omega)))) | (with_reducible refine Ext.then (b := ?_) ?_ ?_; rotate_left; rotate_left; (with_reducible assumption))))⟩
          case measure => simp [intOf]; omega
      · have b1 : (x.kind == 9) = false := by rw [beq_eq_false_iff_ne]; exact h1
        have hr := hno' (by unfold badB; rw [b1]; simp)
        clear hyes hno' h1
        go_upto_region 7 with (first | (refine wpList_load_mid rfl 63 _ rfl _ _ rfl (actC _) _ gc Tryd.underlying63 rfl (by kernel_rfl) ?_) | (refine wpList_store_new rfl 63 _ _ rfl (actC _).toArray rfl rfl 63 _ (by kernel_rfl) rfl (one_act _) ?_))
        go_wp2_with fail
        go_roundw
        case rel => exact ⟨k + 1, by omega, rfl, hr, (by repeat (first | (with_reducible assumption) | (with_reducible exact Ext.rfl' _) | (with_reducible exact Ext.new _ _) | (with_reducible refine Ext.alloc' ?_ _) | (with_reducible refine Ext.drew' ?_) | (with_reducible refine Ext.drewN' ?_ _) | (with_reducible refine Ext.set' ?_ ?_ _; rotate_left; (focus (first | omega | (simp; done) | (simp; omega)))) | (with_reducible refine Ext.then (b := ?_) ?_ ?_; rotate_left; rotate_left; (with_reducible assumption))))⟩
        case measure => simp [intOf]; omega
    · have hE2 : Hid (tchk file xs = 0) := by
        show _ = _
        rw [hE.out, if_neg]
        rw [Bool.not_eq_true, List.any_eq_false]
        intro x hx
        have := take_done (p := fun x => badB file x = false) (by omega) hno.out x hx
        simp [this]
      clear hno hE
      go_wp2_with fail
      go_ret
      exact ⟨ret_int hE2.out.symm, hxr⟩
end Go.Proofs.YtcmdekhhclgdcaaDoor
