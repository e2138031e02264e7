/- package calendar: the closures of of, and open. -/
import Derived.Test.YtcmdekhhclgdcaaDoorCalO
namespace Go.Proofs.YtcmdekhhclgdcaaDoor
open Go.RowKit Go.Shelf
set_option linter.unusedSimpArgs false
set_option linter.unusedVariables false
theorem wk_c (ws : List Int) (n : Int) (g : Nat) (w : World) (h0 : 0 ≤ n) (h1 : n ≤ 6) (hc : ∀ j u, (wkArr ws)[j]? = some u → cellAt (ph w) g j = some u) :
    Calls Tryd.prog 79 #[.int .i64 n, .pointer (some ⟨g, 0, none⟩)] w (RetP w (.bool (decide (n ∈ ws)))) := by
  obtain ⟨j, rfl⟩ : ∃ j : Nat, n = j := ⟨n.toNat, by omega⟩
  have hj : j ≤ 6 := by omega
  have h := hc j _ (wkArr_get ws j hj)
  rw [← cell_ph] at h
  clear hc
  go_enter Tryd.func79, Tryd.ntmps79
  go_wp2_with fail
  go_ret
  exact ⟨rfl, rfl⟩
def hitB (d : Dat) (h : Dat) : Bool := h.2.1 == d.2.1 && h.2.2 == d.2.2
set_option maxHeartbeats 1000000 in
theorem dateIn_c (hs : List Dat) (d : Dat) (g : Nat) (b : Value) (w : World) (hc : cellAt (ph w) g 1 = some b) (hH : DatesR (ph w) b hs) :
    Calls Tryd.prog 80 #[datA d, .pointer (some ⟨g, 0, none⟩)] w (RetV w (.bool (hs.any (hitB d)))) := by
  obtain ⟨d0, d1, d2⟩ := d
  obtain ⟨ha, hcp, rfl, hlen, hH⟩ := hH.form
  rw [← cell_ph] at hc
  have hgl := cell_lt hc
  have hO := Own.new w #[.int .i64 d0, .int .i64 d1, .int .i64 d2] 94
  have hx := Ext.new w (.cells #[.int .i64 d0, .int .i64 d1, .int .i64 d2] 94)
  go_enter Tryd.func80, Tryd.ntmps80
  go_wp2_with fail
  generalize w.alloc _ = W at *
  have hc' := hx.cell1 hc
  have hH' := hH.mono mono_DateR hx.ple
  go_loopw [9] (fun i wr => ∃ k : Nat, k ≤ hs.length ∧ i = .int .i64 k ∧ Hid (∀ x ∈ hs.take k, hitB (d0, d1, d2) x = false) ∧ Ext W wr) (fun i _ => hs.length - (intOf i).toNat)
  case atStart => exact ⟨0, by omega, rfl, Lib.hid (by simp), Ext.rfl' _⟩
  case round =>
    obtain ⟨k, hk, rfl, hno, hxr⟩ := hrel
    by_cases hlt : k < hs.length
    · obtain ⟨gb, go, rfl, gc0, gc1, gc2, gl, -, -, -⟩ := DatesR.at (hH'.mono mono_DateR hxr.ple) k hlt
      have hO1 := hO.keep hxr
      obtain ⟨oc, of⟩ := hO1.facts
      have hyes : hitB (d0, d1, d2) hs[k] = true → hs.any (hitB (d0, d1, d2)) = true := fun h => List.any_eq_true.2 ⟨_, List.getElem_mem hlt, h⟩
      have hno' : hitB (d0, d1, d2) hs[k] = false → Hid (∀ x ∈ hs.take (k + 1), hitB (d0, d1, d2) x = false) := fun h => Lib.hid (take_all (p := fun x => hitB (d0, d1, d2) x = false) hlt h hno.out)
      generalize hs[k] = x at *
      obtain ⟨y, m, e⟩ := x
      dsimp only at gc0 gc1 gc2
      have ol := hO1.lt
      by_cases hm : m = d1
      · have bm : (m == d1) = true := by rw [beq_iff_eq]; exact hm
        by_cases he : e = d2
        · have hr := Lib.hid (hyes (by simp [hitB, hm, he]))
          have be : (e == d2) = true := by rw [beq_iff_eq]; exact he
          clear hyes hno' hno hm he
          go_wp2_with fail
          go_ret
          exact ⟨ret_bool hr.out.symm, (by repeat (first | (with_reducible assumption) | (with_reducible exact Ext.rfl' _) | (with_reducible exact Ext.new _ _) | (with_reducible refine Ext.alloc' ?_ _) | (with_reducible refine Ext.drew' ?_) | (with_reducible refine Ext.drewN' ?_ _) | (with_reducible refine Ext.set' ?_ ?_ _; rotate_left; (focus (first | omega | (simp; done) | (simp; omega)))) | (with_reducible refine Ext.then (b := ?_) ?_ ?_; rotate_left; rotate_left; (with_reducible assumption))))⟩
        · have hr := hno' (by simp [hitB, hm, he])
          have be : (e == d2) = false := by rw [beq_eq_false_iff_ne]; exact he
          clear hyes hno' hno hm he
          go_wp2_with fail
          go_roundw
          case rel => exact ⟨k + 1, by omega, rfl, hr, (by repeat (first | (with_reducible assumption) | (with_reducible exact Ext.rfl' _) | (with_reducible exact Ext.new _ _) | (with_reducible refine Ext.alloc' ?_ _) | (with_reducible refine Ext.drew' ?_) | (with_reducible refine Ext.drewN' ?_ _) | (with_reducible refine Ext.set' ?_ ?_ _; rotate_left; (focus (first | omega | (simp; done) | (simp; omega)))) | (with_reducible refine Ext.then (b := ?_) ?_ ?_; rotate_left; rotate_left; (with_reducible assumption))))⟩
          case measure => simp [intOf]; omega
      · have hr := hno' (by simp [hitB, hm])
        have bm : (m == d1) = false := by rw [beq_eq_false_iff_ne]; exact hm
        clear hyes hno' hno hm
        go_wp2_with fail
        go_roundw
        case rel => exact ⟨k + 1, by omega, rfl, hr, (by repeat (first | (with_reducible assumption) | (with_reducible exact Ext.rfl' _) | (with_reducible exact Ext.new _ _) | (with_reducible refine Ext.alloc' ?_ _) | (with_reducible refine Ext.drew' ?_) | (with_reducible refine Ext.drewN' ?_ _) | (with_reducible refine Ext.set' ?_ ?_ _; rotate_left; (focus (first | omega | (simp; done) | (simp; omega)))) | (with_reducible refine Ext.then (b := ?_) ?_ ?_; rotate_left; rotate_left; (with_reducible assumption))))⟩
        case measure => simp [intOf]; omega
    · have hr : Hid (hs.any (hitB (d0, d1, d2)) = false) := by
        show _ = _
        rw [List.any_eq_false]
        intro x hx
        have := take_done (p := fun x => hitB (d0, d1, d2) x = false) (by omega) hno.out x hx
        simp [this]
      clear hno
      go_wp2_with fail
      go_ret
      exact ⟨ret_bool hr.out.symm, hx.then hxr⟩
end Go.Proofs.YtcmdekhhclgdcaaDoor
