/- package calendar: the closure over acts, and open. -/
import Derived.Test.YtcmdekhhclgdcaaDoorCalC
namespace Go.Proofs.YtcmdekhhclgdcaaDoor
open Go.RowKit Go.Shelf
set_option linter.unusedSimpArgs false
set_option linter.unusedVariables false
def shutB (office day : Int) (a : Ac) : Bool := a.kind == 20 && a.office == office && inB day a.day a.number
set_option maxRecDepth 100000 in
set_option maxHeartbeats 1000000 in
theorem dayIn_c (xs : List Ac) (office day : Int) (g5 g4 : Nat) (va : Value) (w : World) (hc5 : cellAt (ph w) g5 0 = some va) (hc4 : cellAt (ph w) g4 0 = some (.int .i64 office)) (hA : ActsR (ph w) va xs) :
    Calls Tryd.prog 81 #[.int .i64 day, .pointer (some ⟨g5, 0, none⟩), .pointer (some ⟨g4, 0, none⟩)] w (RetV w (.bool (xs.any (shutB office day)))) := by
  obtain ⟨xa, xc, rfl, xlen, hA⟩ := hA.form
  rw [← cell_ph] at hc5 hc4
  have hg5 := cell_lt hc5
  have hg4 := cell_lt hc4
  go_enter Tryd.func81, Tryd.ntmps81
  go_wp2_with fail
  go_loopw [9] (fun i wr => ∃ k : Nat, k ≤ xs.length ∧ i = .int .i64 k ∧ Hid (∀ x ∈ xs.take k, shutB office day x = false) ∧ Ext w wr) (fun i _ => xs.length - (intOf i).toNat)
  case atStart => exact ⟨0, by omega, rfl, Lib.hid (by simp), Ext.rfl' _⟩
  case round =>
    obtain ⟨k, hk, rfl, hno, hxr⟩ := hrel
    have hc5' := hxr.cell1 hc5
    have hc4' := hxr.cell1 hc4
    have hg4' := cell_lt hc4'
    by_cases hlt : k < xs.length
    · obtain ⟨gb, go, rfl, gc, gl, -⟩ := ActsR.row (hA.mono mono_ActR hxr.ple) k hlt
      have hyes : shutB office day xs[k] = true → xs.any (shutB office day) = true := fun h => List.any_eq_true.2 ⟨_, List.getElem_mem hlt, h⟩
      have hno' : shutB office day xs[k] = false → Hid (∀ x ∈ xs.take (k + 1), shutB office day x = false) := fun h => Lib.hid (take_all (p := fun x => shutB office day x = false) hlt h hno.out)
      generalize xs[k] = x at *
      obtain ⟨fc, -⟩ := (Own.new wr (actC x).toArray 63).facts
      have fx := Ext.new wr (.cells (actC x).toArray 63)
      have hc5n := fx.cell1 hc5'
      have hc4n := fx.cell1 hc4'
      have q0 : _ = some (Value.int .i64 x.kind) := fc 0
      have q1 : _ = some (Value.int .i64 x.day) := fc 1
      have q4 : _ = some (Value.int .i64 x.office) := fc 4
      have q7 : _ = some (Value.int .i64 x.number) := fc 7
      clear fc hno
      by_cases h1 : x.kind = 20
      · have b1 : (x.kind == 20) = true := by rw [beq_iff_eq]; exact h1
        by_cases h2 : x.office = office
        · have b2 : (x.office == office) = true := by rw [beq_iff_eq]; exact h2
          cases h3 : inB day x.day x.number with
          | true =>
            have hr := Lib.hid (hyes (by unfold shutB; rw [b1, b2, h3]; rfl))
            clear hyes hno' h1 h2
            go_wp2_with (first | (refine wpList_load_mid rfl 63 _ rfl _ _ rfl (actC _) _ gc Tryd.underlying63 rfl (by kernel_rfl) ?_) | (refine wpList_store_new rfl 63 _ _ rfl (actC _).toArray rfl rfl 63 _ (by kernel_rfl) rfl (one_act _) ?_))
            refine RetP_at (calIn_c day x.day x.number _) ?_
            rw [h3]
            go_wp2_with fail
            go_ret
            exact ⟨ret_bool hr.out.symm, (by repeat (first | (with_reducible assumption) | (with_reducible exact Ext.rfl' _) | (with_reducible exact Ext.new _ _) | (with_reducible refine Ext.alloc' ?_ _) | (with_reducible refine Ext.drew' ?_) | (with_reducible refine Ext.drewN' ?_ _) | (with_reducible refine Ext.set' ?_ ?_ _; rotate_left; (focus (first | omega | (simp; done) | (simp; omega)))) | (with_reducible refine Ext.then (b := ?_) ?_ ?_; rotate_left; rotate_left; (with_reducible assumption))))⟩
          | false =>
            have hr := hno' (by unfold shutB; rw [h3]; simp)
            clear hyes hno' h1 h2
            go_wp2_with (first | (refine wpList_load_mid rfl 63 _ rfl _ _ rfl (actC _) _ gc Tryd.underlying63 rfl (by kernel_rfl) ?_) | (refine wpList_store_new rfl 63 _ _ rfl (actC _).toArray rfl rfl 63 _ (by kernel_rfl) rfl (one_act _) ?_))
            refine RetP_at (calIn_c day x.day x.number _) ?_
            rw [h3]
            go_wp2_with fail
            go_roundw
            case rel => exact ⟨k + 1, by omega, rfl, hr, (by repeat (first | (with_reducible assumption) | (with_reducible exact Ext.rfl' _) | (with_reducible exact Ext.new _ _) | (with_reducible refine Ext.alloc' ?_ _) | (with_reducible refine Ext.drew' ?_) | (with_reducible refine Ext.drewN' ?_ _) | (with_reducible refine Ext.set' ?_ ?_ _; rotate_left; (focus (first | omega | (simp; done) | (simp; omega)))) | (with_reducible refine Ext.then (b := ?_) ?_ ?_; rotate_left; rotate_left; (with_reducible assumption))))⟩
            case measure => simp [intOf]; omega
        · have b2 : (x.office == office) = false := by rw [beq_eq_false_iff_ne]; exact h2
          have hr := hno' (by unfold shutB; rw [b2]; simp)
          clear hyes hno' h1 h2
          go_wp2_with (first | (refine wpList_load_mid rfl 63 _ rfl _ _ rfl (actC _) _ gc Tryd.underlying63 rfl (by kernel_rfl) ?_) | (refine wpList_store_new rfl 63 _ _ rfl (actC _).toArray rfl rfl 63 _ (by kernel_rfl) rfl (one_act _) ?_))
          go_roundw
          case rel => exact ⟨k + 1, by omega, rfl, hr, (by repeat (first | (with_reducible assumption) | (with_reducible exact Ext.rfl' _) | (with_reducible exact Ext.new _ _) | (with_reducible refine Ext.alloc' ?_ _) | (with_reducible refine Ext.drew' ?_) | (with_reducible refine Ext.drewN' ?_ _) | (with_reducible refine Ext.set' ?_ ?_ _; rotate_left; (focus (first | omega | (simp; done) | (simp; omega)))) | (with_reducible refine Ext.then (b := ?_) ?_ ?_; rotate_left; rotate_left; (with_reducible assumption))))⟩
          case measure => simp [intOf]; omega
      · have b1 : (x.kind == 20) = false := by rw [beq_eq_false_iff_ne]; exact h1
        have hr := hno' (by unfold shutB; rw [b1]; simp)
        clear hyes hno' h1
        go_wp2_with (first | (refine wpList_load_mid rfl 63 _ rfl _ _ rfl (actC _) _ gc Tryd.underlying63 rfl (by kernel_rfl) ?_) | (refine wpList_store_new rfl 63 _ _ rfl (actC _).toArray rfl rfl 63 _ (by kernel_rfl) rfl (one_act _) ?_))
        go_roundw
        case rel => exact ⟨k + 1, by omega, rfl, hr, (by repeat (first | (with_reducible assumption) | (with_reducible exact Ext.rfl' _) | (with_reducible exact Ext.new _ _) | (with_reducible refine Ext.alloc' ?_ _) | (with_reducible refine Ext.drew' ?_) | (with_reducible refine Ext.drewN' ?_ _) | (with_reducible refine Ext.set' ?_ ?_ _; rotate_left; (focus (first | omega | (simp; done) | (simp; omega)))) | (with_reducible refine Ext.then (b := ?_) ?_ ?_; rotate_left; rotate_left; (with_reducible assumption))))⟩
        case measure => simp [intOf]; omega
    · have hr : Hid (xs.any (shutB office day) = false) := by
        show _ = _
        rw [List.any_eq_false]
        intro x hx
        have := take_done (p := fun x => shutB office day x = false) (by omega) hno.out x hx
        simp [this]
      clear hno
      go_wp2_with fail
      go_ret
      exact ⟨ret_bool hr.out.symm, hxr⟩
end Go.Proofs.YtcmdekhhclgdcaaDoor
