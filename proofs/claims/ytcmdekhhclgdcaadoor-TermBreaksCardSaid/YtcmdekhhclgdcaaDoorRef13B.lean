/- package priorartref13: Of. -/
import Derived.Test.YtcmdekhhclgdcaaDoorRef13
namespace Go.Proofs.YtcmdekhhclgdcaaDoor
open Go.RowKit Go.Shelf
set_option linter.unusedSimpArgs false
set_option linter.unusedVariables false
def ofE (y m k : Int) : Int × Int := if 2300 < y then (0, 5) else if 131072 < numV y m k then (0, 5) else (numV y m k, 0)
set_option maxHeartbeats 1000000 in
theorem rof_c (y m k : Int) (w : World) (h0 : 1900 ≤ y) (h1 : y ≤ 9999) (hm : 1 ≤ m) (hm' : m ≤ 12) (hk : 1 ≤ k) (hk' : k ≤ lenM y m) :
    Calls Tryd.prog 84 #[.agg #[.int .i64 y, .int .i64 m, .int .i64 k]] w (RetV w (two (ofE y m k).1 (ofE y m k).2)) := by
  have hl := lenM_bd y m
  have hvc := fun w => rvalid_c y m k w h0 h1 hm hm' hk hk'
  have hk2 : k ≤ 31 := by omega
  clear hl hk'
  by_cases hy : 2300 < y
  · rw [show ofE y m k = (0, 5) from if_pos hy]
    go_enter Tryd.func84, Tryd.ntmps84
    go_wp2_with fail
    refine RetV_at (hvc _) ?_
    intro w1 hx1
    have hO := (Own.new w #[.int .i64 y, .int .i64 m, .int .i64 k] 94).keep hx1
    have hx : Ext w w1 := (by repeat (first | (with_reducible assumption) | (with_reducible exact Ext.rfl' _) | (with_reducible exact Ext.new _ _) | (with_reducible refine Ext.alloc' ?_ _) | (with_reducible refine Ext.drew' ?_) | (with_reducible refine Ext.drewN' ?_ _) | (with_reducible refine Ext.set' ?_ ?_ _; rotate_left; (focus (first | omega | (simp; done) | (simp; omega)))) | (with_reducible refine Ext.then (b := ?_) ?_ ?_; rotate_left; rotate_left; (with_reducible assumption))))
    obtain ⟨oc, of⟩ := hO.facts
    clear hx1
    go_wp2_with fail
    go_ret2
    exact ⟨rfl, hx⟩
  · have hE : Hid (ofE y m k = if 131072 < numV y m k then (0, 5) else (numV y m k, 0)) := if_neg hy
    have hy' : y ≤ 2300 := by omega
    have hb1 := bef_up (a := 1900) (b := y) h0
    have hb0 := bef1900
    have p1 : bef 1900 ≤ 693595 := by omega
    have p2 : 693595 ≤ bef 1900 := by omega
    clear hb0
    go_enter Tryd.func84, Tryd.ntmps84
    go_wp2_with fail
    refine RetV_at (hvc _) ?_
    intro w1 hx1
    have hO := (Own.new w #[.int .i64 y, .int .i64 m, .int .i64 k] 94).keep hx1
    have hx : Ext w w1 := (by repeat (first | (with_reducible assumption) | (with_reducible exact Ext.rfl' _) | (with_reducible exact Ext.new _ _) | (with_reducible refine Ext.alloc' ?_ _) | (with_reducible refine Ext.drew' ?_) | (with_reducible refine Ext.drewN' ?_ _) | (with_reducible refine Ext.set' ?_ ?_ _; rotate_left; (focus (first | omega | (simp; done) | (simp; omega)))) | (with_reducible refine Ext.then (b := ?_) ?_ ?_; rotate_left; rotate_left; (with_reducible assumption))))
    obtain ⟨oc, of⟩ := hO.facts
    clear hx1 hb1 hvc
    go_wp2_with fail
    go_loopw [5, 6] (fun n i wr => ∃ v : Int, 1900 ≤ v ∧ v ≤ y ∧ i = .int .i64 v ∧ n = .int .i64 (k - 1 + (bef v - bef 1900)) ∧ wr = w1) (fun _ i _ => 10000 - (intOf i).toNat)
    case atStart => exact ⟨1900, by omega, h0, rfl, by first | rfl | (congr 1; omega), rfl⟩
    case round =>
      obtain ⟨v, hv0, hv1, rfl, rfl, rfl⟩ := hrel
      have e1 := bef_mono (a := 1900) (b := v) hv0
      have e2 := bef_up (a := 1900) (b := v) hv0
      have e3 := bef_succ v
      have g1 : 0 ≤ bef v - bef 1900 := by omega
      have g2 : bef v - bef 1900 ≤ 200000 := by omega
      by_cases hlt : v < y
      · generalize hA : bef v - bef 1900 = A at *
        have w1' : IntKind.i64.wrap (k - 1 + A + 365) = k - 1 + A + 365 := by rw [IntKind.wrap_i64]; omega
        have hl := rleap_c v wr (by omega) (by omega)
        have hn : bef (v + 1) - bef 1900 = A + 365 + if leapB v = true then 1 else 0 := by omega
        replace hA := Lib.hid hA
        generalize leapB v = b at *
        replace hn := Lib.hid hn
        clear e1 e2 e3
        cases b with
        | true =>
          go_wp2_with fail
          refine RetP_at hl ?_
          go_wp2_with fail
          go_roundw
          case rel => exact ⟨v + 1, by omega, by omega, rfl, by congr 1; have := hn.out; simp at this; omega, trivial⟩
          case measure => simp [intOf]; omega
        | false =>
          go_wp2_with fail
          refine RetP_at hl ?_
          go_wp2_with fail
          go_roundw
          case rel => exact ⟨v + 1, by omega, by omega, rfl, by congr 1; have := hn.out; simp at this; omega, trivial⟩
          case measure => simp [intOf]; omega
      · obtain rfl : v = y := by omega
        generalize hA : bef v - bef 1900 = A at *
        have hN : Hid (numV v m k = A + dayM v (m - 1).toNat + k - 1) := by show _ = _; unfold numV; omega
        clear e1 e2 e3 hA
        go_wp2_with fail
        go_loopw [5, 7] (fun n i w' => ∃ q : Nat, q < m ∧ i = .int .i64 (q + 1) ∧ n = .int .i64 (k - 1 + A + dayM v q) ∧ w' = wr) (fun _ i _ => 20 - (intOf i).toNat)
        case atStart => exact ⟨0, by omega, rfl, by congr 1; simp [dayM], rfl⟩
        case round =>
          obtain ⟨q, hq, rfl, rfl, rfl⟩ := hrel
          have hd := dayM_ge v q
          by_cases hlt2 : (q : Int) + 1 < m
          · have hs : Hid (dayM v (q + 1) = dayM v q + lenM v (q + 1)) := rfl
            have hl := rlength_c v (q + 1) wr (by omega) (by omega)
            have hlb := lenM_bd v (q + 1)
            rw [show lenV v ((q : Int) + 1) = (lenM v (q + 1), 0) from if_pos ⟨by omega, by omega⟩] at hl
            generalize lenM v ((q : Int) + 1) = n at *
            generalize dayM v q = D at *
            clear hlt
            go_wp2_with fail
            refine RetP_at hl ?_
            go_wp2_with fail
            go_roundw
            case rel => exact ⟨q + 1, by omega, by congr 1, by congr 1; rw [hs.out]; omega, trivial⟩
            case measure => simp [intOf]; omega
          · have hq2 : (m - 1).toNat = q := by omega
            rw [hq2] at hN
            generalize dayM v q = D at *
            generalize numV v m k = z at *
            have hz : k - 1 + A + D = z := by have := hN.out; omega
            rw [hz]
            clear hlt hN hd hz
            by_cases hz : 131072 < z
            · have hE2 : Hid (ofE v m k = (0, 5)) := by show _ = _; rw [hE.out, if_pos hz]
              clear hE
              go_wp2_with fail
              go_ret2
              rw [hE2.out]
              exact ⟨rfl, hx⟩
            · have hE2 : Hid (ofE v m k = (z, 0)) := by show _ = _; rw [hE.out, if_neg hz]
              clear hE
              go_wp2_with fail
              go_ret2
              rw [hE2.out]
              exact ⟨rfl, hx⟩
end Go.Proofs.YtcmdekhhclgdcaaDoor
