/- package priorartref13: Leap, Length, Valid, Of.; package priorartref13: Of.; package priorartref13: Date.; package priorartref13: Add. -/
import Derived.Test.YtcmdekhhclgdcaaGreatDoorCivA
namespace Go.Proofs.YtcmdekhhclgdcaaGreatDoor
open Go.RowKit Go.Shelf
set_option linter.unusedSimpArgs false
set_option linter.unusedVariables false
theorem rleap_c (y : Int) (w : World) (h0 : 0 ≤ y) (h1 : y ≤ 1000000) : Calls Tryz.prog 59 #[.int .i64 y] w (RetP w (.bool (leapB y))) := by
  have e := leapB_iff (y := y)
  generalize hb : leapB y = b at *
  clear hb
  by_cases a : y % 400 = 0
  · have hb : b = true := e.2 (by omega)
    subst hb
    have a' : (y % 400 == 0) = true := by rw [beq_iff_eq]; exact a
    clear e a
    go_enter Tryz.func59, Tryz.ntmps59
    go_wp2_with fail
    go_ret
    exact ⟨rfl, rfl⟩
  · have a' : (y % 400 == 0) = false := by rw [beq_eq_false_iff_ne]; exact a
    by_cases c : y % 4 = 0
    · have c' : (y % 4 == 0) = true := by rw [beq_iff_eq]; exact c
      by_cases d : y % 100 = 0
      · have hb : b = false := by rw [Bool.eq_false_iff]; intro h; have := e.1 h; omega
        subst hb
        have d' : (y % 100 != 0) = false := by rw [bne_eq_false_iff_eq]; exact d
        clear e a c d
        go_enter Tryz.func59, Tryz.ntmps59
        go_wp2_with fail
        go_ret
        exact ⟨rfl, rfl⟩
      · have hb : b = true := e.2 (by omega)
        subst hb
        have d' : (y % 100 != 0) = true := by rw [bne_iff_ne]; exact d
        clear e a c d
        go_enter Tryz.func59, Tryz.ntmps59
        go_wp2_with fail
        go_ret
        exact ⟨rfl, rfl⟩
    · have hb : b = false := by rw [Bool.eq_false_iff]; intro h; have := e.1 h; omega
      subst hb
      have c' : (y % 4 == 0) = false := by rw [beq_eq_false_iff_ne]; exact c
      clear e a c
      go_enter Tryz.func59, Tryz.ntmps59
      go_wp2_with fail
      go_ret
      exact ⟨rfl, rfl⟩
theorem rlength_c (y m : Int) (w : World) (h0 : 0 ≤ y) (h1 : y ≤ 1000000) :
    Calls Tryz.prog 32 #[.int .i64 y, .int .i64 m] w (RetP w (two (lenV y m).1 (lenV y m).2)) := by
  by_cases hm : 1 ≤ m ∧ m ≤ 12
  · have hv : lenV y m = (lenM y m, 0) := if_pos hm
    by_cases h2 : m = 2
    · subst h2
      have hl : lenM y 2 = if leapB y then 29 else 28 := if_pos rfl
      rw [hv, hl]
      have hlc := rleap_c y w h0 h1
      generalize leapB y = b at *
      clear hv hl
      cases b with
      | true =>
        dsimp only [if_true, two]
        go_enter Tryz.func32, Tryz.ntmps32
        go_wp2_with fail
        refine RetP_at hlc ?_
        go_wp2_with fail
        go_ret2
        exact ⟨rfl, rfl⟩
      | false =>
        rw [show (if false = true then (29 : Int) else 28) = 28 from rfl]
        dsimp only [two]
        go_enter Tryz.func32, Tryz.ntmps32
        go_wp2_with fail
        refine RetP_at hlc ?_
        go_wp2_with fail
        go_ret2
        exact ⟨rfl, rfl⟩
    · have hl : lenM y m = if m = 4 ∨ m = 6 ∨ m = 9 ∨ m = 11 then 30 else 31 := by
        unfold lenM
        rw [if_neg (by omega)]
      rw [hv, hl]
      clear hv hl
      obtain ⟨hm0, hm1⟩ := hm
      by_cases h : m = 4 ∨ m = 6 ∨ m = 9 ∨ m = 11
      · rw [if_pos h]
        rcases h with rfl | rfl | rfl | rfl
        all_goals
          go_enter Tryz.func32, Tryz.ntmps32
          go_wp2_with fail
          go_ret2
          exact ⟨rfl, rfl⟩
      · rw [if_neg h]
        have b1 : (m == 2) = false := by rw [beq_eq_false_iff_ne]; exact h2
        have b4 : (m == 4) = false := by rw [beq_eq_false_iff_ne]; omega
        have b6 : (m == 6) = false := by rw [beq_eq_false_iff_ne]; omega
        have b9 : (m == 9) = false := by rw [beq_eq_false_iff_ne]; omega
        have b11 : (m == 11) = false := by rw [beq_eq_false_iff_ne]; omega
        clear h h2
        go_enter Tryz.func32, Tryz.ntmps32
        go_wp2_with fail
        go_ret2
        exact ⟨rfl, rfl⟩
  · have hv : lenV y m = (0, 1) := if_neg hm
    rw [hv]
    clear hv
    by_cases h : m < 1
    · clear hm
      go_enter Tryz.func32, Tryz.ntmps32
      go_wp2_with fail
      go_ret2
      exact ⟨rfl, rfl⟩
    · have h2 : 12 < m := by omega
      clear hm
      go_enter Tryz.func32, Tryz.ntmps32
      go_wp2_with fail
      go_ret2
      exact ⟨rfl, rfl⟩
theorem rvalid_c (y m k : Int) (w : World) (h0 : 1900 ≤ y) (h1 : y ≤ 9999) (hm : 1 ≤ m) (hm' : m ≤ 12) (hk : 1 ≤ k) (hk' : k ≤ lenM y m) :
    Calls Tryz.prog 98 #[.agg #[.int .i64 y, .int .i64 m, .int .i64 k]] w (RetV w (.bool true)) := by
  have hv : lenV y m = (lenM y m, 0) := if_pos ⟨hm, hm'⟩
  generalize lenM y m = n at *
  go_enter Tryz.func98, Tryz.ntmps98
  go_wp2_with fail
  refine RetP_at (rlength_c y m _ (by omega) (by omega)) ?_
  rw [hv]
  clear hv
  go_wp2_with fail
  go_ret
  exact ⟨rfl, (by repeat (first | (with_reducible assumption) | (with_reducible exact Ext.rfl' _) | (with_reducible exact Ext.new _ _) | (with_reducible refine Ext.alloc' ?_ _) | (with_reducible refine Ext.drew' ?_) | (with_reducible refine Ext.drewN' ?_ _) | (with_reducible refine Ext.set' ?_ ?_ _; rotate_left; (focus (first | omega | (simp; done) | (simp; omega)))) | (with_reducible refine Ext.then (b := ?_) ?_ ?_; rotate_left; rotate_left; (with_reducible assumption))))⟩
end Go.Proofs.YtcmdekhhclgdcaaGreatDoor
namespace Go.Proofs.YtcmdekhhclgdcaaGreatDoor
open Go.RowKit Go.Shelf
set_option linter.unusedSimpArgs false
set_option linter.unusedVariables false
def ofE (y m k : Int) : Int × Int := if 2300 < y then (0, 5) else if 131072 < numV y m k then (0, 5) else (numV y m k, 0)
set_option maxHeartbeats 1000000 in
theorem rof_c (y m k : Int) (w : World) (h0 : 1900 ≤ y) (h1 : y ≤ 9999) (hm : 1 ≤ m) (hm' : m ≤ 12) (hk : 1 ≤ k) (hk' : k ≤ lenM y m) :
    Calls Tryz.prog 74 #[.agg #[.int .i64 y, .int .i64 m, .int .i64 k]] w (RetV w (two (ofE y m k).1 (ofE y m k).2)) := by
  have hl := lenM_bd y m
  have hvc := fun w => rvalid_c y m k w h0 h1 hm hm' hk hk'
  have hk2 : k ≤ 31 := by omega
  clear hl hk'
  by_cases hy : 2300 < y
  · rw [show ofE y m k = (0, 5) from if_pos hy]
    go_enter Tryz.func74, Tryz.ntmps74
    go_wp2_with fail
    refine RetV_at (hvc _) ?_
    intro w1 hx1
    have hO := (Own.new w #[.int .i64 y, .int .i64 m, .int .i64 k] 81).keep hx1
    have hx : Ext w w1 := (by repeat (first | (with_reducible assumption) | (with_reducible exact Ext.rfl' _) | (with_reducible exact Ext.new _ _) | (with_reducible refine Ext.alloc' ?_ _) | (with_reducible refine Ext.drew' ?_) | (with_reducible refine Ext.drewN' ?_ _) | (with_reducible refine Ext.set' ?_ ?_ _; rotate_left; (focus (first | omega | (simp; done) | (simp; omega)))) | (with_reducible refine Ext.then (b := ?_) ?_ ?_; rotate_left; rotate_left; (with_reducible assumption))))
    obtain ⟨oc, of⟩ := hO.facts
    clear hx1
    go_wp2_with fail
    go_ret2
    exact ⟨rfl, hx⟩
  · have hE : Hid (ofE y m k = if 131072 < numV y m k then (0, 5) else (numV y m k, 0)) := if_neg hy
    have hy' : y ≤ 2300 := by omega
    have hb1 := bef_up (a := 1900) (b := y) h0
    have hb0 := bef1900
    have p1 : bef 1900 ≤ 693595 := by omega
    have p2 : 693595 ≤ bef 1900 := by omega
    clear hb0
    go_enter Tryz.func74, Tryz.ntmps74
    go_wp2_with fail
    refine RetV_at (hvc _) ?_
    intro w1 hx1
    have hO := (Own.new w #[.int .i64 y, .int .i64 m, .int .i64 k] 81).keep hx1
    have hx : Ext w w1 := (by repeat (first | (with_reducible assumption) | (with_reducible exact Ext.rfl' _) | (with_reducible exact Ext.new _ _) | (with_reducible refine Ext.alloc' ?_ _) | (with_reducible refine Ext.drew' ?_) | (with_reducible refine Ext.drewN' ?_ _) | (with_reducible refine Ext.set' ?_ ?_ _; rotate_left; (focus (first | omega | (simp; done) | (simp; omega)))) | (with_reducible refine Ext.then (b := ?_) ?_ ?_; rotate_left; rotate_left; (with_reducible assumption))))
    obtain ⟨oc, of⟩ := hO.facts
    clear hx1 hb1 hvc
    go_wp2_with fail
    go_loopw [5, 6] (fun n i wr => ∃ v : Int, 1900 ≤ v ∧ v ≤ y ∧ i = .int .i64 v ∧ n = .int .i64 (k - 1 + (bef v - bef 1900)) ∧ wr = w1) (fun _ i _ => 10000 - (intOf i).toNat)
    case atStart => exact ⟨1900, by omega, h0, rfl, by first | rfl | (congr 1; omega), rfl⟩
    case round =>
      obtain ⟨v, hv0, hv1, rfl, rfl, rfl⟩ := hrel
      have e1 := bef_mono (a := 1900) (b := v) hv0
      have e2 := bef_up (a := 1900) (b := v) hv0
      have e3 := bef_succ v
      have g1 : 0 ≤ bef v - bef 1900 := by omega
      have g2 : bef v - bef 1900 ≤ 200000 := by omega
      by_cases hlt : v < y
      · generalize hA : bef v - bef 1900 = A at *
        have w1' : IntKind.i64.wrap (k - 1 + A + 365) = k - 1 + A + 365 := by rw [IntKind.wrap_i64]; omega
        have hl := rleap_c v wr (by omega) (by omega)
        have hn : bef (v + 1) - bef 1900 = A + 365 + if leapB v = true then 1 else 0 := by omega
        replace hA := Lib.hid hA
        generalize leapB v = b at *
        replace hn := Lib.hid hn
        clear e1 e2 e3
        cases b with
        | true =>
          go_wp2_with fail
          refine RetP_at hl ?_
          go_wp2_with fail
          go_roundw
          case rel => exact ⟨v + 1, by omega, by omega, rfl, by congr 1; have := hn.out; simp at this; omega, trivial⟩
          case measure => simp [intOf]; omega
        | false =>
          go_wp2_with fail
          refine RetP_at hl ?_
          go_wp2_with fail
          go_roundw
          case rel => exact ⟨v + 1, by omega, by omega, rfl, by congr 1; have := hn.out; simp at this; omega, trivial⟩
          case measure => simp [intOf]; omega
      · obtain rfl : v = y := by omega
        generalize hA : bef v - bef 1900 = A at *
        have hN : Hid (numV v m k = A + dayM v (m - 1).toNat + k - 1) := by show _ = _; unfold numV; omega
        clear e1 e2 e3 hA
        go_wp2_with fail
        go_loopw [5, 7] (fun n i w' => ∃ q : Nat, q < m ∧ i = .int .i64 (q + 1) ∧ n = .int .i64 (k - 1 + A + dayM v q) ∧ w' = wr) (fun _ i _ => 20 - (intOf i).toNat)
        case atStart => exact ⟨0, by omega, rfl, by congr 1; simp [dayM], rfl⟩
        case round =>
          obtain ⟨q, hq, rfl, rfl, rfl⟩ := hrel
          have hd := dayM_ge v q
          by_cases hlt2 : (q : Int) + 1 < m
          · have hs : Hid (dayM v (q + 1) = dayM v q + lenM v (q + 1)) := rfl
            have hl := rlength_c v (q + 1) wr (by omega) (by omega)
            have hlb := lenM_bd v (q + 1)
            rw [show lenV v ((q : Int) + 1) = (lenM v (q + 1), 0) from if_pos ⟨by omega, by omega⟩] at hl
            generalize lenM v ((q : Int) + 1) = n at *
            generalize dayM v q = D at *
            clear hlt
            go_wp2_with fail
            refine RetP_at hl ?_
            go_wp2_with fail
            go_roundw
            case rel => exact ⟨q + 1, by omega, by congr 1, by congr 1; rw [hs.out]; omega, trivial⟩
            case measure => simp [intOf]; omega
          · have hq2 : (m - 1).toNat = q := by omega
            rw [hq2] at hN
            generalize dayM v q = D at *
            generalize numV v m k = z at *
            have hz : k - 1 + A + D = z := by have := hN.out; omega
            rw [hz]
            clear hlt hN hd hz
            by_cases hz : 131072 < z
            · have hE2 : Hid (ofE v m k = (0, 5)) := by show _ = _; rw [hE.out, if_pos hz]
              clear hE
              go_wp2_with fail
              go_ret2
              rw [hE2.out]
              exact ⟨rfl, hx⟩
            · have hE2 : Hid (ofE v m k = (z, 0)) := by show _ = _; rw [hE.out, if_neg hz]
              clear hE
              go_wp2_with fail
              go_ret2
              rw [hE2.out]
              exact ⟨rfl, hx⟩
end Go.Proofs.YtcmdekhhclgdcaaGreatDoor
namespace Go.Proofs.YtcmdekhhclgdcaaGreatDoor
open Go.RowKit Go.Shelf
set_option linter.unusedSimpArgs false
set_option linter.unusedVariables false
set_option maxHeartbeats 2000000 in
theorem rdate_c (d : Int) (w : World) : Calls Tryz.prog 73 #[.int .i64 d] w (DateP w d) := by
  by_cases hr : 0 ≤ d ∧ d ≤ 131072
  · have hDE : Hid (dateE d = (dateV d, 0)) := if_pos hr
    go_enter Tryz.func73, Tryz.ntmps73
    go_wp2_with fail
    have hO := (Own.new w #[.int .i64 0, .int .i64 0, .int .i64 0] 81).alloc (.cells #[.int .i64 1900, .int .i64 1, .int .i64 1] 81)
    have hB : Own ((w.alloc (.cells #[.int .i64 0, .int .i64 0, .int .i64 0] 81)).alloc (.cells #[.int .i64 1900, .int .i64 1, .int .i64 1] 81)) (w.heap.size + 1) #[.int .i64 1900, .int .i64 1, .int .i64 1] 81 := Own.new' _ _ _ (by simp)
    have hx : Ext w ((w.alloc (.cells #[.int .i64 0, .int .i64 0, .int .i64 0] 81)).alloc (.cells #[.int .i64 1900, .int .i64 1, .int .i64 1] 81)) := (by repeat (first | (with_reducible assumption) | (with_reducible exact Ext.rfl' _) | (with_reducible exact Ext.new _ _) | (with_reducible refine Ext.alloc' ?_ _) | (with_reducible refine Ext.drew' ?_) | (with_reducible refine Ext.drewN' ?_ _) | (with_reducible refine Ext.set' ?_ ?_ _; rotate_left; (focus (first | omega | (simp; done) | (simp; omega)))) | (with_reducible refine Ext.then (b := ?_) ?_ ?_; rotate_left; rotate_left; (with_reducible assumption))))
    generalize (w.alloc (.cells #[.int .i64 0, .int .i64 0, .int .i64 0] 81)).alloc (.cells #[.int .i64 1900, .int .i64 1, .int .i64 1] 81) = W at *
    have hb4 := bef1900
    have p1 : bef 1900 ≤ 693595 := by omega
    have p2 : 693595 ≤ bef 1900 := by omega
    clear hb4
    go_loopw [0, 5] (fun x n wr => ∃ v : Int, 1900 ≤ v ∧ v ≤ 2300 ∧ bef v - bef 1900 ≤ d ∧ x = .int .i64 (d - (bef v - bef 1900)) ∧ Own wr (w.heap.size + 1) #[.int .i64 v, .int .i64 1, .int .i64 1] 81 ∧ Own wr w.heap.size #[.int .i64 0, .int .i64 0, .int .i64 0] 81 ∧ Ext w wr) (fun x _ _ => (intOf x).toNat)
    case atStart => exact ⟨1900, by omega, by omega, by omega, by congr 1; omega, hB, hO, hx⟩
    case round =>
      clear hx hB hO
      obtain ⟨v, hv0, hv1, hvd, rfl, hB, hO, hx⟩ := hrel
      have e1 := bef_mono (a := 1900) (b := v) hv0
      have e2 := bef_mono (a := 1900) (b := v + 1) (by omega)
      have e3 := bef_succ v
      have e5 := dayM_12 v
      have hl := rleap_c v wr (by omega) (by omega)
      obtain ⟨L, hL⟩ : ∃ L : Int, L = if leapB v = true then 366 else 365 := ⟨_, rfl⟩
      have hL1 : 365 ≤ L ∧ L ≤ 366 := by rw [hL]; split <;> omega
      have hn : bef (v + 1) - bef 1900 = (bef v - bef 1900) + L := by rw [hL]; split <;> simp_all <;> omega
      have hn12 : dayM v 12 = L := by rw [hL]; split <;> simp_all <;> omega
      have hA0 : 0 ≤ bef v - bef 1900 := by omega
      have hm : v + 1 ≤ 2300 ∨ d < (bef v - bef 1900) + L := by omega
      replace hn := Lib.hid hn
      replace hn12 := Lib.hid hn12
      generalize hA : bef v - bef 1900 = A at *
      have hA2 : Hid (bef v - bef 1900 = A) := hA
      clear hA
      obtain ⟨oc, of⟩ := hB.facts
      clear e1 e2 e3 e5
      by_cases hlt : d - A < L
      · clear hm
        generalize hR : d - A = r at *
        have hr0 : 0 ≤ r := by omega
        have hr1 : r ≤ 366 := by omega
        replace hR := Lib.hid hR
        have hl2 : ∃ b, leapB v = b := ⟨_, rfl⟩
        obtain ⟨b, hb⟩ := hl2
        rw [hb] at hl hL
        clear hb hvd
        cases b with
        | true =>
          rw [if_pos rfl] at hL
          subst hL
          go_wp2_with fail
          refine RetP_at hl ?_
          go_wp2_with fail
          clear oc of hl hL1 hn
          go_loopw [0, 6, 7] (fun x _n _e wq => ∃ q : Nat, q < 12 ∧ dayM v q ≤ r ∧ x = .int .i64 (r - dayM v q) ∧ Own wq (w.heap.size + 1) #[.int .i64 v, .int .i64 (q + 1), .int .i64 1] 81 ∧ Own wq w.heap.size #[.int .i64 0, .int .i64 0, .int .i64 0] 81 ∧ Ext w wq) (fun x _ _ _ => (intOf x).toNat)
          case atStart => exact ⟨0, by omega, by simp [dayM]; omega, by congr 1; simp [dayM], hB, hO, hx⟩
          case round =>
            clear hB hO hx
            obtain ⟨q, hq, hqr, rfl, hB, hO, hx⟩ := hrel
            obtain ⟨oc, of⟩ := hB.facts
            obtain ⟨oc2, of2⟩ := hO.facts
            have hl := fun wq => rlength_c v (q + 1) wq (by omega) (by omega)
            simp only [show lenV v ((q : Int) + 1) = (lenM v (q + 1), 0) from if_pos ⟨by omega, by omega⟩] at hl
            have hlb := lenM_bd v (q + 1)
            have hd := dayM_ge v q
            have hs : Hid (dayM v (q + 1) = dayM v q + lenM v (q + 1)) := rfl
            have hlk : ¬ (r - dayM v q < lenM v (q + 1)) → q + 1 < 12 := by
              intro h
              by_cases e : q + 1 = 12
              · have h1 := hs.out
                have h2 := hn12.out
                rw [e] at h1
                omega
              · omega
            have hdv : r - dayM v q < lenM v (q + 1) → dateV d = (v, (q : Int) + 1, 1 + (r - dayM v q)) := by
              intro h
              refine dateV_eq ⟨by omega, by omega, by omega, by omega, by omega, ?_⟩
              have h1 := hR.out
              have h2 := hA2.out
              rw [show ((q : Int) + 1 - 1).toNat = q by omega]
              omega
            clear hn12
            generalize lenM v ((q : Int) + 1) = L at *
            generalize hDq : dayM v q = D at *
            clear hDq
            by_cases h : r - D < L
            · have hdv' := Lib.hid (hdv h)
              clear hdv hlk
              go_wp2_with fail
              refine RetP_at (hl _) ?_
              go_wp2_with fail
              have o5 := ((hO.setOther (p := ⟨w.heap.size + 1, 2, none⟩) (by simp) (.int .i64 (1 + (r - D)))).set 0 (.int .i64 v)).set 1 (.int .i64 (q + 1)) |>.set 2 (.int .i64 (1 + (r - D)))
              have x5 := (((hx.setCell (p := ⟨w.heap.size + 1, 2, none⟩) (by simp) (.int .i64 (1 + (r - D)))).setCell (p := ⟨w.heap.size, 0, none⟩) (by simp) (.int .i64 v)).setCell (p := ⟨w.heap.size, 1, none⟩) (by simp) (.int .i64 (q + 1))).setCell (p := ⟨w.heap.size, 2, none⟩) (by simp) (.int .i64 (1 + (r - D)))
              obtain ⟨c5, -⟩ := o5.facts
              refine bodyPost_ret (v := .tuple #[.agg #[.int .i64 v, .int .i64 (q + 1), .int .i64 (1 + (r - D))], .int .i64 0]) ?_ rfl ?_
              · have r0 := c5 0
                have r1 := c5 1
                have r2 := c5 2
                simp at r0 r1 r2
                simp [results, Tryz.results73, go_sem, r0, r1, r2]
              · unfold DateP
                rw [hDE.out, hdv'.out]
                exact ⟨rfl, x5⟩
            · have hq2 := hlk h
              clear hdv hlk
              go_wp2_with fail
              refine RetP_at (hl _) ?_
              go_wp2_with fail
              go_roundw
              case rel => exact ⟨q + 1, hq2, by rw [hs.out]; omega, by congr 1; rw [hs.out]; omega, hB.set 1 (.int .i64 (q + 1 + 1)), hO.setOther (by simp) _, hx.setCell (p := ⟨w.heap.size + 1, 1, none⟩) (by simp) _⟩
              case measure => simp [intOf]; omega
        | false =>
          rw [if_neg (by simp)] at hL
          subst hL
          go_wp2_with fail
          refine RetP_at hl ?_
          go_wp2_with fail
          clear oc of hl hL1 hn
          go_loopw [0, 6, 7] (fun x _n _e wq => ∃ q : Nat, q < 12 ∧ dayM v q ≤ r ∧ x = .int .i64 (r - dayM v q) ∧ Own wq (w.heap.size + 1) #[.int .i64 v, .int .i64 (q + 1), .int .i64 1] 81 ∧ Own wq w.heap.size #[.int .i64 0, .int .i64 0, .int .i64 0] 81 ∧ Ext w wq) (fun x _ _ _ => (intOf x).toNat)
          case atStart => exact ⟨0, by omega, by simp [dayM]; omega, by congr 1; simp [dayM], hB, hO, hx⟩
          case round =>
            clear hB hO hx
            obtain ⟨q, hq, hqr, rfl, hB, hO, hx⟩ := hrel
            obtain ⟨oc, of⟩ := hB.facts
            obtain ⟨oc2, of2⟩ := hO.facts
            have hl := fun wq => rlength_c v (q + 1) wq (by omega) (by omega)
            simp only [show lenV v ((q : Int) + 1) = (lenM v (q + 1), 0) from if_pos ⟨by omega, by omega⟩] at hl
            have hlb := lenM_bd v (q + 1)
            have hd := dayM_ge v q
            have hs : Hid (dayM v (q + 1) = dayM v q + lenM v (q + 1)) := rfl
            have hlk : ¬ (r - dayM v q < lenM v (q + 1)) → q + 1 < 12 := by
              intro h
              by_cases e : q + 1 = 12
              · have h1 := hs.out
                have h2 := hn12.out
                rw [e] at h1
                omega
              · omega
            have hdv : r - dayM v q < lenM v (q + 1) → dateV d = (v, (q : Int) + 1, 1 + (r - dayM v q)) := by
              intro h
              refine dateV_eq ⟨by omega, by omega, by omega, by omega, by omega, ?_⟩
              have h1 := hR.out
              have h2 := hA2.out
              rw [show ((q : Int) + 1 - 1).toNat = q by omega]
              omega
            clear hn12
            generalize lenM v ((q : Int) + 1) = L at *
            generalize hDq : dayM v q = D at *
            clear hDq
            by_cases h : r - D < L
            · have hdv' := Lib.hid (hdv h)
              clear hdv hlk
              go_wp2_with fail
              refine RetP_at (hl _) ?_
              go_wp2_with fail
              have o5 := ((hO.setOther (p := ⟨w.heap.size + 1, 2, none⟩) (by simp) (.int .i64 (1 + (r - D)))).set 0 (.int .i64 v)).set 1 (.int .i64 (q + 1)) |>.set 2 (.int .i64 (1 + (r - D)))
              have x5 := (((hx.setCell (p := ⟨w.heap.size + 1, 2, none⟩) (by simp) (.int .i64 (1 + (r - D)))).setCell (p := ⟨w.heap.size, 0, none⟩) (by simp) (.int .i64 v)).setCell (p := ⟨w.heap.size, 1, none⟩) (by simp) (.int .i64 (q + 1))).setCell (p := ⟨w.heap.size, 2, none⟩) (by simp) (.int .i64 (1 + (r - D)))
              obtain ⟨c5, -⟩ := o5.facts
              refine bodyPost_ret (v := .tuple #[.agg #[.int .i64 v, .int .i64 (q + 1), .int .i64 (1 + (r - D))], .int .i64 0]) ?_ rfl ?_
              · have r0 := c5 0
                have r1 := c5 1
                have r2 := c5 2
                simp at r0 r1 r2
                simp [results, Tryz.results73, go_sem, r0, r1, r2]
              · unfold DateP
                rw [hDE.out, hdv'.out]
                exact ⟨rfl, x5⟩
            · have hq2 := hlk h
              clear hdv hlk
              go_wp2_with fail
              refine RetP_at (hl _) ?_
              go_wp2_with fail
              go_roundw
              case rel => exact ⟨q + 1, hq2, by rw [hs.out]; omega, by congr 1; rw [hs.out]; omega, hB.set 1 (.int .i64 (q + 1 + 1)), hO.setOther (by simp) _, hx.setCell (p := ⟨w.heap.size + 1, 1, none⟩) (by simp) _⟩
              case measure => simp [intOf]; omega
      · clear hvd
        have hm2 : v + 1 ≤ 2300 := by omega
        obtain ⟨b, hb⟩ : ∃ b, leapB v = b := ⟨_, rfl⟩
        rw [hb] at hl hL
        clear hb hm
        cases b with
        | true =>
          rw [if_pos rfl] at hL
          subst hL
          go_wp2_with fail
          refine RetP_at hl ?_
          go_wp2_with fail
          go_roundw
          case rel => exact ⟨v + 1, by omega, by omega, by rw [hn.out]; omega, by congr 1; rw [hn.out]; omega, hB.set 0 (.int .i64 (v + 1)), hO.setOther (by simp) _, hx.setCell (p := ⟨w.heap.size + 1, 0, none⟩) (by simp) _⟩
          case measure => simp [intOf]; omega
        | false =>
          rw [if_neg (by simp)] at hL
          subst hL
          go_wp2_with fail
          refine RetP_at hl ?_
          go_wp2_with fail
          go_roundw
          case rel => exact ⟨v + 1, by omega, by omega, by rw [hn.out]; omega, by congr 1; rw [hn.out]; omega, hB.set 0 (.int .i64 (v + 1)), hO.setOther (by simp) _, hx.setCell (p := ⟨w.heap.size + 1, 0, none⟩) (by simp) _⟩
          case measure => simp [intOf]; omega
  · have hDE : Hid (dateE d = ((0, 0, 0), 5)) := if_neg hr
    by_cases h0 : d < 0
    · clear hr
      go_enter Tryz.func73, Tryz.ntmps73
      go_wp2_with fail
      exact bodyPost_ret (v := .tuple #[.agg #[.int .i64 0, .int .i64 0, .int .i64 0], .int .i64 5]) (by simp [results, Tryz.results73, go_sem]) rfl (by unfold DateP; rw [hDE.out]; exact ⟨rfl, (by repeat (first | (with_reducible assumption) | (with_reducible exact Ext.rfl' _) | (with_reducible exact Ext.new _ _) | (with_reducible refine Ext.alloc' ?_ _) | (with_reducible refine Ext.drew' ?_) | (with_reducible refine Ext.drewN' ?_ _) | (with_reducible refine Ext.set' ?_ ?_ _; rotate_left; (focus (first | omega | (simp; done) | (simp; omega)))) | (with_reducible refine Ext.then (b := ?_) ?_ ?_; rotate_left; rotate_left; (with_reducible assumption))))⟩)
    · have h1 : 131072 < d := by omega
      clear hr
      go_enter Tryz.func73, Tryz.ntmps73
      go_wp2_with fail
      exact bodyPost_ret (v := .tuple #[.agg #[.int .i64 0, .int .i64 0, .int .i64 0], .int .i64 5]) (by simp [results, Tryz.results73, go_sem]) rfl (by unfold DateP; rw [hDE.out]; exact ⟨rfl, (by repeat (first | (with_reducible assumption) | (with_reducible exact Ext.rfl' _) | (with_reducible exact Ext.new _ _) | (with_reducible refine Ext.alloc' ?_ _) | (with_reducible refine Ext.drew' ?_) | (with_reducible refine Ext.drewN' ?_ _) | (with_reducible refine Ext.set' ?_ ?_ _; rotate_left; (focus (first | omega | (simp; done) | (simp; omega)))) | (with_reducible refine Ext.then (b := ?_) ?_ ?_; rotate_left; rotate_left; (with_reducible assumption))))⟩)
end Go.Proofs.YtcmdekhhclgdcaaGreatDoor
namespace Go.Proofs.YtcmdekhhclgdcaaGreatDoor
open Go.RowKit Go.Shelf
set_option linter.unusedSimpArgs false
set_option linter.unusedVariables false
theorem dayM_0 (y : Int) (n : Nat) : 0 ≤ dayM y n := by have := dayM_ge y n; omega
/-- beyond the year 2300 the number is beyond the last day -/
theorem numV_late {y m k : Int} (h : 2300 < y) (hk : 1 ≤ k) : 131072 < numV y m k := by
  have h1 := bef_mono (a := 2301) (b := y) (by omega)
  have h2 := bef1900
  have h3 : bef 2301 = 840057 := by unfold bef; omega
  have h4 := dayM_0 y (m - 1).toNat
  unfold numV
  omega
theorem ofE_add {y m k : Int} (hk : 1 ≤ k) : ofE y m k = if numV y m k ≤ 131072 then (numV y m k, 0) else (0, 5) := by
  unfold ofE
  by_cases h : 2300 < y
  · rw [if_pos h, if_neg (by have := numV_late (m := m) h hk; omega)]
  · rw [if_neg h]
    by_cases h2 : 131072 < numV y m k
    · rw [if_pos h2, if_neg (by omega)]
    · rw [if_neg h2, if_pos (by omega)]
set_option maxHeartbeats 2000000 in
theorem radd_c (d many : Int) (w : World) : Calls Tryz.prog 56 #[.int .i64 d, .int .i64 many] w (RetV w (two (addV d many).1 (addV d many).2)) := by
  by_cases h1 : 0 ≤ d ∧ d ≤ 131072
  · have hDE : dateE d = (dateV d, 0) := if_pos h1
    have hDc := rdate_c d w
    unfold DateP at hDc
    rw [hDE] at hDc
    have hI := dateV_is d h1.1
    by_cases h2 : 0 ≤ many ∧ many ≤ 12000
    · obtain ⟨h20, h21⟩ := h2
      have hE : Hid (addV d many = if addD (dateV d) many ≤ 131072 then (addD (dateV d) many, 0) else (0, 5)) := by
        show _ = _
        unfold addV; rw [if_neg (by omega), if_neg (by omega)]
      generalize dateV d = p at *
      obtain ⟨y, m, k⟩ := p
      dsimp only at hI hDc
      have hy := hI.y1 h1.2
      obtain ⟨hy0, hm0, hm1, hk0, hk1, -⟩ := hI
      have hlm := lenM_bd y m
      have hk2 : k ≤ 31 := by omega
      clear hk1 hlm hDE
      have hAD : addD (y, m, k) many = numV ((12 * y + m - 1 + many) / 12) ((12 * y + m - 1 + many) % 12 + 1) (min k (lenM ((12 * y + m - 1 + many) / 12) ((12 * y + m - 1 + many) % 12 + 1))) := rfl
      rw [hAD] at hE
      clear hAD
      obtain ⟨yy, hyy⟩ : ∃ yy, yy = (12 * y + m - 1 + many) / 12 := ⟨_, rfl⟩
      obtain ⟨mm, hmm⟩ : ∃ mm, mm = (12 * y + m - 1 + many) % 12 + 1 := ⟨_, rfl⟩
      rw [← hyy, ← hmm] at hE
      have hY : 1900 ≤ yy ∧ yy ≤ 3400 := by omega
      have hM : 1 ≤ mm ∧ mm ≤ 12 := by omega
      obtain ⟨hY0, hY1⟩ := hY
      obtain ⟨hM0, hM1⟩ := hM
      have hlm := lenM_bd yy mm
      have hLV : lenV yy mm = (lenM yy mm, 0) := if_pos ⟨hM0, hM1⟩
      have hlc := fun w => rlength_c yy mm w (by omega) (by omega)
      simp only [hLV] at hlc
      obtain ⟨kk, hkk⟩ : ∃ kk, kk = min k (lenM yy mm) := ⟨_, rfl⟩
      have hk3 : 1 ≤ kk := by omega
      have hk4 : kk ≤ lenM yy mm := by omega
      have hoc := fun w => rof_c yy mm kk w hY0 (by omega) hM0 hM1 hk3 hk4
      rw [ofE_add hk3] at hoc
      rw [← hkk] at hE
      have hE2 : Hid ((if numV yy mm kk ≤ 131072 then (numV yy mm kk, 0) else (0, 5)) = addV d many) := hE.out.symm
      rw [hE2.out] at hoc
      clear hE hE2 hLV hk3 hk4
      generalize lenM yy mm = L at *
      generalize addV d many = res at *
      obtain ⟨ra, rb⟩ := res
      dsimp only [two] at hoc hlc ⊢
      have hq1 : IntKind.i64.wrap (y + many / 12) = y + many / 12 := by rw [IntKind.wrap_i64]; omega
      have hq2 : IntKind.i64.wrap (m + many % 12) = m + many % 12 := by rw [IntKind.wrap_i64]; omega
      go_enter Tryz.func56, Tryz.ntmps56
      go_wp2_with fail
      refine hDc.mono ?_
      rintro e w1 ⟨rfl, hx1⟩
      have hO := Own.new w1 #[.int .i64 y, .int .i64 m, .int .i64 k] 81
      have hxW : Ext w (w1.alloc (.cells #[.int .i64 y, .int .i64 m, .int .i64 k] 81)) := (by repeat (first | (with_reducible assumption) | (with_reducible exact Ext.rfl' _) | (with_reducible exact Ext.new _ _) | (with_reducible refine Ext.alloc' ?_ _) | (with_reducible refine Ext.drew' ?_) | (with_reducible refine Ext.drewN' ?_ _) | (with_reducible refine Ext.set' ?_ ?_ _; rotate_left; (focus (first | omega | (simp; done) | (simp; omega)))) | (with_reducible refine Ext.then (b := ?_) ?_ ?_; rotate_left; rotate_left; (with_reducible assumption))))
      have hg : w.heap.size ≤ w1.heap.size := hx1.size
      by_cases hmc : m + many % 12 > 12
      · have e1 : Hid (y + many / 12 + 1 = yy) := by show _ = _; omega
        have e2 : Hid (m + many % 12 - 12 = mm) := by show _ = _; omega
        clear hyy hmm
        go_wp2_with fail
        rw [e1.out, e2.out]
        refine RetP_at (hlc _) ?_
        by_cases hkl : k ≤ L
        · obtain rfl : kk = k := by omega
          clear hkk
          go_wp2_with fail
          refine RetV_at (hoc _) ?_
          intro w4 hx4
          have hx5 : Ext w w4 := (by repeat (first | (with_reducible assumption) | (with_reducible exact Ext.rfl' _) | (with_reducible exact Ext.new _ _) | (with_reducible refine Ext.alloc' ?_ _) | (with_reducible refine Ext.drew' ?_) | (with_reducible refine Ext.drewN' ?_ _) | (with_reducible refine Ext.set' ?_ ?_ _; rotate_left; (focus (first | omega | (simp; done) | (simp; omega)))) | (with_reducible refine Ext.then (b := ?_) ?_ ?_; rotate_left; rotate_left; (with_reducible assumption))))
          go_wp2_with fail
          go_ret2
          exact ⟨rfl, hx5⟩
        · obtain rfl : kk = L := by omega
          clear hkk
          go_wp2_with fail
          refine RetV_at (hoc _) ?_
          intro w4 hx4
          have hx5 : Ext w w4 := (by repeat (first | (with_reducible assumption) | (with_reducible exact Ext.rfl' _) | (with_reducible exact Ext.new _ _) | (with_reducible refine Ext.alloc' ?_ _) | (with_reducible refine Ext.drew' ?_) | (with_reducible refine Ext.drewN' ?_ _) | (with_reducible refine Ext.set' ?_ ?_ _; rotate_left; (focus (first | omega | (simp; done) | (simp; omega)))) | (with_reducible refine Ext.then (b := ?_) ?_ ?_; rotate_left; rotate_left; (with_reducible assumption))))
          go_wp2_with fail
          go_ret2
          exact ⟨rfl, hx5⟩
      · have e1 : Hid (y + many / 12 = yy) := by show _ = _; omega
        have e2 : Hid (m + many % 12 = mm) := by show _ = _; omega
        clear hyy hmm
        go_wp2_with fail
        rw [e1.out, e2.out]
        refine RetP_at (hlc _) ?_
        by_cases hkl : k ≤ L
        · obtain rfl : kk = k := by omega
          clear hkk
          go_wp2_with fail
          refine RetV_at (hoc _) ?_
          intro w4 hx4
          have hx5 : Ext w w4 := (by repeat (first | (with_reducible assumption) | (with_reducible exact Ext.rfl' _) | (with_reducible exact Ext.new _ _) | (with_reducible refine Ext.alloc' ?_ _) | (with_reducible refine Ext.drew' ?_) | (with_reducible refine Ext.drewN' ?_ _) | (with_reducible refine Ext.set' ?_ ?_ _; rotate_left; (focus (first | omega | (simp; done) | (simp; omega)))) | (with_reducible refine Ext.then (b := ?_) ?_ ?_; rotate_left; rotate_left; (with_reducible assumption))))
          go_wp2_with fail
          go_ret2
          exact ⟨rfl, hx5⟩
        · obtain rfl : kk = L := by omega
          clear hkk
          go_wp2_with fail
          refine RetV_at (hoc _) ?_
          intro w4 hx4
          have hx5 : Ext w w4 := (by repeat (first | (with_reducible assumption) | (with_reducible exact Ext.rfl' _) | (with_reducible exact Ext.new _ _) | (with_reducible refine Ext.alloc' ?_ _) | (with_reducible refine Ext.drew' ?_) | (with_reducible refine Ext.drewN' ?_ _) | (with_reducible refine Ext.set' ?_ ?_ _; rotate_left; (focus (first | omega | (simp; done) | (simp; omega)))) | (with_reducible refine Ext.then (b := ?_) ?_ ?_; rotate_left; rotate_left; (with_reducible assumption))))
          go_wp2_with fail
          go_ret2
          exact ⟨rfl, hx5⟩
    · have hE : Hid (addV d many = (0, 1)) := by show _ = _; unfold addV; rw [if_neg (by omega), if_pos (by omega)]
      generalize dateV d = p at *
      clear hI hDE
      by_cases h3 : many < 0
      · clear h2
        go_enter Tryz.func56, Tryz.ntmps56
        go_wp2_with fail
        refine hDc.mono ?_
        rintro e w1 ⟨rfl, hx1⟩
        go_wp2_with fail
        go_ret2
        rw [hE.out]
        exact ⟨rfl, (by repeat (first | (with_reducible assumption) | (with_reducible exact Ext.rfl' _) | (with_reducible exact Ext.new _ _) | (with_reducible refine Ext.alloc' ?_ _) | (with_reducible refine Ext.drew' ?_) | (with_reducible refine Ext.drewN' ?_ _) | (with_reducible refine Ext.set' ?_ ?_ _; rotate_left; (focus (first | omega | (simp; done) | (simp; omega)))) | (with_reducible refine Ext.then (b := ?_) ?_ ?_; rotate_left; rotate_left; (with_reducible assumption))))⟩
      · have h4 : 12000 < many := by omega
        clear h2
        go_enter Tryz.func56, Tryz.ntmps56
        go_wp2_with fail
        refine hDc.mono ?_
        rintro e w1 ⟨rfl, hx1⟩
        go_wp2_with fail
        go_ret2
        rw [hE.out]
        exact ⟨rfl, (by repeat (first | (with_reducible assumption) | (with_reducible exact Ext.rfl' _) | (with_reducible exact Ext.new _ _) | (with_reducible refine Ext.alloc' ?_ _) | (with_reducible refine Ext.drew' ?_) | (with_reducible refine Ext.drewN' ?_ _) | (with_reducible refine Ext.set' ?_ ?_ _; rotate_left; (focus (first | omega | (simp; done) | (simp; omega)))) | (with_reducible refine Ext.then (b := ?_) ?_ ?_; rotate_left; rotate_left; (with_reducible assumption))))⟩
  · have hE : Hid (addV d many = (0, 5)) := by show _ = _; unfold addV; rw [if_pos (by omega)]
    have hDE : dateE d = ((0, 0, 0), 5) := if_neg h1
    have hDc := rdate_c d w
    unfold DateP at hDc
    rw [hDE] at hDc
    clear hDE
    go_enter Tryz.func56, Tryz.ntmps56
    go_wp2_with fail
    refine hDc.mono ?_
    rintro e w1 ⟨rfl, hx1⟩
    dsimp only
    go_wp2_with fail
    go_ret2
    rw [hE.out]
    exact ⟨rfl, (by repeat (first | (with_reducible assumption) | (with_reducible exact Ext.rfl' _) | (with_reducible exact Ext.new _ _) | (with_reducible refine Ext.alloc' ?_ _) | (with_reducible refine Ext.drew' ?_) | (with_reducible refine Ext.drewN' ?_ _) | (with_reducible refine Ext.set' ?_ ?_ _; rotate_left; (focus (first | omega | (simp; done) | (simp; omega)))) | (with_reducible refine Ext.then (b := ?_) ?_ ?_; rotate_left; rotate_left; (with_reducible assumption))))⟩
end Go.Proofs.YtcmdekhhclgdcaaGreatDoor
