/- package priorartref13: Date. -/
import Derived.Test.YtcmdekhhclgdcaaDoorRef13B
namespace Go.Proofs.YtcmdekhhclgdcaaDoor
open Go.RowKit Go.Shelf
set_option linter.unusedSimpArgs false
set_option linter.unusedVariables false
set_option maxHeartbeats 2000000 in
theorem rdate_c (d : Int) (w : World) : Calls Tryd.prog 83 #[.int .i64 d] w (DateP w d) := by
  by_cases hr : 0 ≤ d ∧ d ≤ 131072
  · have hDE : Hid (dateE d = (dateV d, 0)) := if_pos hr
    go_enter Tryd.func83, Tryd.ntmps83
    go_wp2_with fail
    have hO := (Own.new w #[.int .i64 0, .int .i64 0, .int .i64 0] 94).alloc (.cells #[.int .i64 1900, .int .i64 1, .int .i64 1] 94)
    have hB : Own ((w.alloc (.cells #[.int .i64 0, .int .i64 0, .int .i64 0] 94)).alloc (.cells #[.int .i64 1900, .int .i64 1, .int .i64 1] 94)) (w.heap.size + 1) #[.int .i64 1900, .int .i64 1, .int .i64 1] 94 := Own.new' _ _ _ (by simp)
    have hx : Ext w ((w.alloc (.cells #[.int .i64 0, .int .i64 0, .int .i64 0] 94)).alloc (.cells #[.int .i64 1900, .int .i64 1, .int .i64 1] 94)) := (by repeat (first | (with_reducible assumption) | (with_reducible exact Ext.rfl' _) | (with_reducible exact Ext.new _ _) | (with_reducible refine Ext.alloc' ?_ _) | (with_reducible refine Ext.drew' ?_) | (with_reducible refine Ext.drewN' ?_ _) | (with_reducible refine Ext.set' ?_ ?_ _; rotate_left; (focus (first | omega | (simp; done) | (simp; omega)))) | (with_reducible refine Ext.then (b := ?_) ?_ ?_; rotate_left; rotate_left; (with_reducible assumption))))
    generalize (w.alloc (.cells #[.int .i64 0, .int .i64 0, .int .i64 0] 94)).alloc (.cells #[.int .i64 1900, .int .i64 1, .int .i64 1] 94) = W at *
    have hb4 := bef1900
    have p1 : bef 1900 ≤ 693595 := by omega
    have p2 : 693595 ≤ bef 1900 := by omega
    clear hb4
    go_loopw [0, 5] (fun x n wr => ∃ v : Int, 1900 ≤ v ∧ v ≤ 2300 ∧ bef v - bef 1900 ≤ d ∧ x = .int .i64 (d - (bef v - bef 1900)) ∧ Own wr (w.heap.size + 1) #[.int .i64 v, .int .i64 1, .int .i64 1] 94 ∧ Own wr w.heap.size #[.int .i64 0, .int .i64 0, .int .i64 0] 94 ∧ Ext w wr) (fun x _ _ => (intOf x).toNat)
    case atStart => exact ⟨1900, by omega, by omega, by omega, by congr 1; omega, hB, hO, hx⟩
    case round =>
      clear hx hB hO
      obtain ⟨v, hv0, hv1, hvd, rfl, hB, hO, hx⟩ := hrel
      have e1 := bef_mono (a := 1900) (b := v) hv0
      have e2 := bef_mono (a := 1900) (b := v + 1) (by omega)
      have e3 := bef_succ v
      have e5 := dayM_12 v
      have hl := rleap_c v wr (by omega) (by omega)
      obtain ⟨L, hL⟩ : ∃ L : Int, L = if leapB v = true then 366 else 365 := ⟨_, rfl⟩
      have hL1 : 365 ≤ L ∧ L ≤ 366 := by rw [hL]; split <;> omega
      have hn : bef (v + 1) - bef 1900 = (bef v - bef 1900) + L := by rw [hL]; split <;> simp_all <;> omega
      have hn12 : dayM v 12 = L := by rw [hL]; split <;> simp_all <;> omega
      have hA0 : 0 ≤ bef v - bef 1900 := by omega
      have hm : v + 1 ≤ 2300 ∨ d < (bef v - bef 1900) + L := by omega
      replace hn := Lib.hid hn
      replace hn12 := Lib.hid hn12
      generalize hA : bef v - bef 1900 = A at *
      have hA2 : Hid (bef v - bef 1900 = A) := hA
      clear hA
      obtain ⟨oc, of⟩ := hB.facts
      clear e1 e2 e3 e5
      by_cases hlt : d - A < L
      · clear hm
        generalize hR : d - A = r at *
        have hr0 : 0 ≤ r := by omega
        have hr1 : r ≤ 366 := by omega
        replace hR := Lib.hid hR
        have hl2 : ∃ b, leapB v = b := ⟨_, rfl⟩
        obtain ⟨b, hb⟩ := hl2
        rw [hb] at hl hL
        clear hb hvd
        cases b with
        | true =>
          rw [if_pos rfl] at hL
          subst hL
          go_wp2_with fail
          refine RetP_at hl ?_
          go_wp2_with fail
          clear oc of hl hL1 hn
          go_loopw [0, 6, 7] (fun x _n _e wq => ∃ q : Nat, q < 12 ∧ dayM v q ≤ r ∧ x = .int .i64 (r - dayM v q) ∧ Own wq (w.heap.size + 1) #[.int .i64 v, .int .i64 (q + 1), .int .i64 1] 94 ∧ Own wq w.heap.size #[.int .i64 0, .int .i64 0, .int .i64 0] 94 ∧ Ext w wq) (fun x _ _ _ => (intOf x).toNat)
          case atStart => exact ⟨0, by omega, by simp [dayM]; omega, by congr 1; simp [dayM], hB, hO, hx⟩
          case round =>
            clear hB hO hx
            obtain ⟨q, hq, hqr, rfl, hB, hO, hx⟩ := hrel
            obtain ⟨oc, of⟩ := hB.facts
            obtain ⟨oc2, of2⟩ := hO.facts
            have hl := fun wq => rlength_c v (q + 1) wq (by omega) (by omega)
            simp only [show lenV v ((q : Int) + 1) = (lenM v (q + 1), 0) from if_pos ⟨by omega, by omega⟩] at hl
            have hlb := lenM_bd v (q + 1)
            have hd := dayM_ge v q
            have hs : Hid (dayM v (q + 1) = dayM v q + lenM v (q + 1)) := rfl
            have hlk : ¬ (r - dayM v q < lenM v (q + 1)) → q + 1 < 12 := by
              intro h
              by_cases e : q + 1 = 12
              · have h1 := hs.out
                have h2 := hn12.out
                rw [e] at h1
                omega
              · omega
            have hdv : r - dayM v q < lenM v (q + 1) → dateV d = (v, (q : Int) + 1, 1 + (r - dayM v q)) := by
              intro h
              refine dateV_eq ⟨by omega, by omega, by omega, by omega, by omega, ?_⟩
              have h1 := hR.out
              have h2 := hA2.out
              rw [show ((q : Int) + 1 - 1).toNat = q by omega]
              omega
            clear hn12
            generalize lenM v ((q : Int) + 1) = L at *
            generalize hDq : dayM v q = D at *
            clear hDq
            by_cases h : r - D < L
            · have hdv' := Lib.hid (hdv h)
              clear hdv hlk
              go_wp2_with fail
              refine RetP_at (hl _) ?_
              go_wp2_with fail
              have o5 := ((hO.setOther (p := ⟨w.heap.size + 1, 2, none⟩) (by simp) (.int .i64 (1 + (r - D)))).set 0 (.int .i64 v)).set 1 (.int .i64 (q + 1)) |>.set 2 (.int .i64 (1 + (r - D)))
              have x5 := (((hx.setCell (p := ⟨w.heap.size + 1, 2, none⟩) (by simp) (.int .i64 (1 + (r - D)))).setCell (p := ⟨w.heap.size, 0, none⟩) (by simp) (.int .i64 v)).setCell (p := ⟨w.heap.size, 1, none⟩) (by simp) (.int .i64 (q + 1))).setCell (p := ⟨w.heap.size, 2, none⟩) (by simp) (.int .i64 (1 + (r - D)))
              obtain ⟨c5, -⟩ := o5.facts
              refine bodyPost_ret (v := .tuple #[.agg #[.int .i64 v, .int .i64 (q + 1), .int .i64 (1 + (r - D))], .int .i64 0]) ?_ rfl ?_
              · have r0 := c5 0
                have r1 := c5 1
                have r2 := c5 2
                simp at r0 r1 r2
                simp [results, Tryd.results83, go_sem, r0, r1, r2]
              · unfold DateP
                rw [hDE.out, hdv'.out]
                exact ⟨rfl, x5⟩
            · have hq2 := hlk h
              clear hdv hlk
              go_wp2_with fail
              refine RetP_at (hl _) ?_
              go_wp2_with fail
              go_roundw
              case rel => exact ⟨q + 1, hq2, by rw [hs.out]; omega, by congr 1; rw [hs.out]; omega, hB.set 1 (.int .i64 (q + 1 + 1)), hO.setOther (by simp) _, hx.setCell (p := ⟨w.heap.size + 1, 1, none⟩) (by simp) _⟩
              case measure => simp [intOf]; omega
        | false =>
          rw [if_neg (by simp)] at hL
          subst hL
          go_wp2_with fail
          refine RetP_at hl ?_
          go_wp2_with fail
          clear oc of hl hL1 hn
          go_loopw [0, 6, 7] (fun x _n _e wq => ∃ q : Nat, q < 12 ∧ dayM v q ≤ r ∧ x = .int .i64 (r - dayM v q) ∧ Own wq (w.heap.size + 1) #[.int .i64 v, .int .i64 (q + 1), .int .i64 1] 94 ∧ Own wq w.heap.size #[.int .i64 0, .int .i64 0, .int .i64 0] 94 ∧ Ext w wq) (fun x _ _ _ => (intOf x).toNat)
          case atStart => exact ⟨0, by omega, by simp [dayM]; omega, by congr 1; simp [dayM], hB, hO, hx⟩
          case round =>
            clear hB hO hx
            obtain ⟨q, hq, hqr, rfl, hB, hO, hx⟩ := hrel
            obtain ⟨oc, of⟩ := hB.facts
            obtain ⟨oc2, of2⟩ := hO.facts
            have hl := fun wq => rlength_c v (q + 1) wq (by omega) (by omega)
            simp only [show lenV v ((q : Int) + 1) = (lenM v (q + 1), 0) from if_pos ⟨by omega, by omega⟩] at hl
            have hlb := lenM_bd v (q + 1)
            have hd := dayM_ge v q
            have hs : Hid (dayM v (q + 1) = dayM v q + lenM v (q + 1)) := rfl
            have hlk : ¬ (r - dayM v q < lenM v (q + 1)) → q + 1 < 12 := by
              intro h
              by_cases e : q + 1 = 12
              · have h1 := hs.out
                have h2 := hn12.out
                rw [e] at h1
                omega
              · omega
            have hdv : r - dayM v q < lenM v (q + 1) → dateV d = (v, (q : Int) + 1, 1 + (r - dayM v q)) := by
              intro h
              refine dateV_eq ⟨by omega, by omega, by omega, by omega, by omega, ?_⟩
              have h1 := hR.out
              have h2 := hA2.out
              rw [show ((q : Int) + 1 - 1).toNat = q by omega]
              omega
            clear hn12
            generalize lenM v ((q : Int) + 1) = L at *
            generalize hDq : dayM v q = D at *
            clear hDq
            by_cases h : r - D < L
            · have hdv' := Lib.hid (hdv h)
              clear hdv hlk
              go_wp2_with fail
              refine RetP_at (hl _) ?_
              go_wp2_with fail
              have o5 := ((hO.setOther (p := ⟨w.heap.size + 1, 2, none⟩) (by simp) (.int .i64 (1 + (r - D)))).set 0 (.int .i64 v)).set 1 (.int .i64 (q + 1)) |>.set 2 (.int .i64 (1 + (r - D)))
              have x5 := (((hx.setCell (p := ⟨w.heap.size + 1, 2, none⟩) (by simp) (.int .i64 (1 + (r - D)))).setCell (p := ⟨w.heap.size, 0, none⟩) (by simp) (.int .i64 v)).setCell (p := ⟨w.heap.size, 1, none⟩) (by simp) (.int .i64 (q + 1))).setCell (p := ⟨w.heap.size, 2, none⟩) (by simp) (.int .i64 (1 + (r - D)))
              obtain ⟨c5, -⟩ := o5.facts
              refine bodyPost_ret (v := .tuple #[.agg #[.int .i64 v, .int .i64 (q + 1), .int .i64 (1 + (r - D))], .int .i64 0]) ?_ rfl ?_
              · have r0 := c5 0
                have r1 := c5 1
                have r2 := c5 2
                simp at r0 r1 r2
                simp [results, Tryd.results83, go_sem, r0, r1, r2]
              · unfold DateP
                rw [hDE.out, hdv'.out]
                exact ⟨rfl, x5⟩
            · have hq2 := hlk h
              clear hdv hlk
              go_wp2_with fail
              refine RetP_at (hl _) ?_
              go_wp2_with fail
              go_roundw
              case rel => exact ⟨q + 1, hq2, by rw [hs.out]; omega, by congr 1; rw [hs.out]; omega, hB.set 1 (.int .i64 (q + 1 + 1)), hO.setOther (by simp) _, hx.setCell (p := ⟨w.heap.size + 1, 1, none⟩) (by simp) _⟩
              case measure => simp [intOf]; omega
      · clear hvd
        have hm2 : v + 1 ≤ 2300 := by omega
        obtain ⟨b, hb⟩ : ∃ b, leapB v = b := ⟨_, rfl⟩
        rw [hb] at hl hL
        clear hb hm
        cases b with
        | true =>
          rw [if_pos rfl] at hL
          subst hL
          go_wp2_with fail
          refine RetP_at hl ?_
          go_wp2_with fail
          go_roundw
          case rel => exact ⟨v + 1, by omega, by omega, by rw [hn.out]; omega, by congr 1; rw [hn.out]; omega, hB.set 0 (.int .i64 (v + 1)), hO.setOther (by simp) _, hx.setCell (p := ⟨w.heap.size + 1, 0, none⟩) (by simp) _⟩
          case measure => simp [intOf]; omega
        | false =>
          rw [if_neg (by simp)] at hL
          subst hL
          go_wp2_with fail
          refine RetP_at hl ?_
          go_wp2_with fail
          go_roundw
          case rel => exact ⟨v + 1, by omega, by omega, by rw [hn.out]; omega, by congr 1; rw [hn.out]; omega, hB.set 0 (.int .i64 (v + 1)), hO.setOther (by simp) _, hx.setCell (p := ⟨w.heap.size + 1, 0, none⟩) (by simp) _⟩
          case measure => simp [intOf]; omega
  · have hDE : Hid (dateE d = ((0, 0, 0), 5)) := if_neg hr
    by_cases h0 : d < 0
    · clear hr
      go_enter Tryd.func83, Tryd.ntmps83
      go_wp2_with fail
      exact bodyPost_ret (v := .tuple #[.agg #[.int .i64 0, .int .i64 0, .int .i64 0], .int .i64 5]) (by simp [results, Tryd.results83, go_sem]) rfl (by unfold DateP; rw [hDE.out]; exact ⟨rfl, (by repeat (first | (with_reducible assumption) | (with_reducible exact Ext.rfl' _) | (with_reducible exact Ext.new _ _) | (with_reducible refine Ext.alloc' ?_ _) | (with_reducible refine Ext.drew' ?_) | (with_reducible refine Ext.drewN' ?_ _) | (with_reducible refine Ext.set' ?_ ?_ _; rotate_left; (focus (first | omega | (simp; done) | (simp; omega)))) | (with_reducible refine Ext.then (b := ?_) ?_ ?_; rotate_left; rotate_left; (with_reducible assumption))))⟩)
    · have h1 : 131072 < d := by omega
      clear hr
      go_enter Tryd.func83, Tryd.ntmps83
      go_wp2_with fail
      exact bodyPost_ret (v := .tuple #[.agg #[.int .i64 0, .int .i64 0, .int .i64 0], .int .i64 5]) (by simp [results, Tryd.results83, go_sem]) rfl (by unfold DateP; rw [hDE.out]; exact ⟨rfl, (by repeat (first | (with_reducible assumption) | (with_reducible exact Ext.rfl' _) | (with_reducible exact Ext.new _ _) | (with_reducible refine Ext.alloc' ?_ _) | (with_reducible refine Ext.drew' ?_) | (with_reducible refine Ext.drewN' ?_ _) | (with_reducible refine Ext.set' ?_ ?_ _; rotate_left; (focus (first | omega | (simp; done) | (simp; omega)))) | (with_reducible refine Ext.then (b := ?_) ?_ ?_; rotate_left; rotate_left; (with_reducible assumption))))⟩)
end Go.Proofs.YtcmdekhhclgdcaaDoor
