/- package span: both ends of an interval. -/
import Derived.Test.YtcbmgajaaechjaaGreatSpV
namespace Go.Proofs.YtcbmgajaaechjaaGreat
open Go.RowKit Go.Shelf
set_option linter.unusedSimpArgs false
set_option linter.unusedVariables false
/-- a box of its own, made since -/
def endsV (x : Itv) : Value := .tuple #[enA (loE x), enA (hiE x)]
set_option maxRecDepth 100000 in
set_option maxHeartbeats 2000000 in
theorem ends_c (x : Itv) (w : World) : Calls Tryz.prog 113 #[itA x] w (RetV w (endsV x)) := by
  obtain ⟨⟨a, b⟩, ⟨c, d⟩, lO, hO, lI, hI⟩ := x
  unfold itA
  dsimp only
  go_enter Tryz.func113, Tryz.ntmps113
  go_upto_region 1 with (fail)
  have hX : Ext w (((w.alloc (.cells #[.int .i64 a, .int .i64 b, .int .i64 c, .int .i64 d, .bool lO, .bool hO, .bool lI, .bool hI] 117)).alloc (.cells #[.int .i64 0, .int .i64 0, .int .i64 0, .bool false] 137)).alloc (.cells #[.int .i64 0, .int .i64 0, .int .i64 0, .bool false] 137)) := (by repeat (first | (with_reducible assumption) | (with_reducible exact Ext.rfl' _) | (with_reducible exact Ext.new _ _) | (with_reducible refine Ext.alloc' ?_ _) | (with_reducible refine Ext.drew' ?_) | (with_reducible refine Ext.drewN' ?_ _) | (with_reducible refine Ext.set' ?_ ?_ _; rotate_left; (focus (first | omega | (simp; done) | (simp; omega)))) | (with_reducible refine Ext.then (b := ?_) ?_ ?_; rotate_left; rotate_left; (with_reducible assumption))))
  have hO1 := ((Own.new w #[.int .i64 a, .int .i64 b, .int .i64 c, .int .i64 d, .bool lO, .bool hO, .bool lI, .bool hI] 117).alloc (.cells #[.int .i64 0, .int .i64 0, .int .i64 0, .bool false] 137)).alloc (.cells #[.int .i64 0, .int .i64 0, .int .i64 0, .bool false] 137)
  obtain ⟨of, og⟩ := hO1.facts
  have o0 : _ = some (Value.int .i64 a) := of 0
  have o1 : _ = some (Value.int .i64 b) := of 1
  have o2 : _ = some (Value.int .i64 c) := of 2
  have o3 : _ = some (Value.int .i64 d) := of 3
  have o4 : _ = some (Value.bool lO) := of 4
  have o5 : _ = some (Value.bool hO) := of 5
  have o6 : _ = some (Value.bool lI) := of 6
  have o7 : _ = some (Value.bool hI) := of 7
  have hsz := hO1.lt
  clear of og hO1
  have hsz2 : w.heap.size + 1 + 1 < (((w.alloc (.cells #[.int .i64 a, .int .i64 b, .int .i64 c, .int .i64 d, .bool lO, .bool hO, .bool lI, .bool hI] 117)).alloc (.cells #[.int .i64 0, .int .i64 0, .int .i64 0, .bool false] 137)).alloc (.cells #[.int .i64 0, .int .i64 0, .int .i64 0, .bool false] 137)).heap.size := by simp
  have p2 := (Own.new' (w.alloc (.cells #[.int .i64 a, .int .i64 b, .int .i64 c, .int .i64 d, .bool lO, .bool hO, .bool lI, .bool hI] 117)) #[.int .i64 0, .int .i64 0, .int .i64 0, .bool false] 137 (n := w.heap.size + 1) (by simp)).alloc (.cells #[.int .i64 0, .int .i64 0, .int .i64 0, .bool false] 137)
  have p3 := Own.new' ((w.alloc (.cells #[.int .i64 a, .int .i64 b, .int .i64 c, .int .i64 d, .bool lO, .bool hO, .bool lI, .bool hI] 117)).alloc (.cells #[.int .i64 0, .int .i64 0, .int .i64 0, .bool false] 137)) #[.int .i64 0, .int .i64 0, .int .i64 0, .bool false] 137 (n := w.heap.size + 1 + 1) (by simp)
  generalize ((w.alloc _).alloc _).alloc _ = W at *
  replace p2 := Lib.hid p2
  replace p3 := Lib.hid p3
  go_cut [4, 5] (fun v4 v5 wx => ∃ g4 g5, v4 = .pointer (some ⟨g4, 0, none⟩) ∧ v5 = .pointer (some ⟨g5, 0, none⟩) ∧ g4 ≠ g5 ∧ W.heap.size ≤ g4 ∧ W.heap.size ≤ g5 ∧ Own wx g4 #[.int .i64 0, .int .i64 a, .int .i64 b, .bool lO] 137 ∧ Own wx g5 #[.int .i64 0, .int .i64 c, .int .i64 d, .bool !hO] 137 ∧ Ext W wx)
  case first =>
    go_region
    · go_wp2_with fail
      go_meet
      case rel => exact ⟨_, _, rfl, rfl, by omega, by omega, by omega, (Own.new W _ _).alloc _, Own.new' _ _ _ (by simp), (by repeat (first | (with_reducible assumption) | (with_reducible exact Ext.rfl' _) | (with_reducible exact Ext.new _ _) | (with_reducible refine Ext.alloc' ?_ _) | (with_reducible refine Ext.drew' ?_) | (with_reducible refine Ext.drewN' ?_ _) | (with_reducible refine Ext.set' ?_ ?_ _; rotate_left; (focus (first | omega | (simp; done) | (simp; omega)))) | (with_reducible refine Ext.then (b := ?_) ?_ ?_; rotate_left; rotate_left; (with_reducible assumption))))⟩
    · go_wp2_with fail
      go_meet
      case rel => exact ⟨_, _, rfl, rfl, by omega, by omega, by omega, Own.new' _ _ _ (by simp), (Own.new W _ _).alloc _, (by repeat (first | (with_reducible assumption) | (with_reducible exact Ext.rfl' _) | (with_reducible exact Ext.new _ _) | (with_reducible refine Ext.alloc' ?_ _) | (with_reducible refine Ext.drew' ?_) | (with_reducible refine Ext.drewN' ?_ _) | (with_reducible refine Ext.set' ?_ ?_ _; rotate_left; (focus (first | omega | (simp; done) | (simp; omega)))) | (with_reducible refine Ext.then (b := ?_) ?_ ?_; rotate_left; rotate_left; (with_reducible assumption))))⟩
  case rest =>
    obtain ⟨g4, g5, rfl, rfl, hne, l4, l5, q4, q5, hx⟩ := hcut
    replace o6 := hx.cell1 o6
    replace o7 := hx.cell1 o7
    replace p2 := p2.out.keep hx
    replace p3 := p3.out.keep hx
    replace hX := hX.then hx
    have hsz3 := hx.size
    clear o0 o1 o2 o3 o4 o5
    have n5 : g4 ≠ w.heap.size := by omega
    have n6 : g5 ≠ w.heap.size := by omega
    have hv : Hid (endsV ⟨⟨a, b⟩, ⟨c, d⟩, lO, hO, lI, hI⟩ = .tuple #[enA (if lI then botE else ⟨0, ⟨a, b⟩, lO⟩), enA (if hI then topE else ⟨0, ⟨c, d⟩, !hO⟩)]) := rfl
    have z4 := q4.lt
    have z5 := q5.lt
    generalize hL : (if lI then botE else ⟨0, ⟨a, b⟩, lO⟩ : En) = L at hv
    generalize hR : (if hI then topE else ⟨0, ⟨c, d⟩, !hO⟩ : En) = R at hv
    replace hL := Lib.hid hL
    replace hR := Lib.hid hR
    go_upto_if 18 with (fail)
    go_cut [] (fun wx => Own wx g4 #[.int .i64 L.far, .int .i64 L.at'.num, .int .i64 L.at'.den, .bool L.aft] 137 ∧ Own wx g5 #[.int .i64 0, .int .i64 c, .int .i64 d, .bool !hO] 137 ∧ Own wx (w.heap.size + 1) #[.int .i64 0, .int .i64 0, .int .i64 0, .bool false] 137 ∧ Own wx (w.heap.size + 1 + 1) #[.int .i64 0, .int .i64 0, .int .i64 0, .bool false] 137 ∧ wx.cell? ⟨w.heap.size, 7, none⟩ = some (.bool hI) ∧ Ext w wx)
    case first =>
      obtain ⟨c4, f4⟩ := q4.facts
      cases lI with
      | true =>
        have hL' : L = botE := by rw [← hL.out]; rfl
        go_wp2_with fail
        go_meet
        case rel =>
          subst hL'
          have k1 := ((((q4.set 0 (.int .i64 (-1))).set 1 (.int .i64 0)).set 2 (.int .i64 0)).set 3 (.bool false))
          exact ⟨k1, (((q5.setOther (p := ⟨g4, 0, none⟩) hne.symm _).setOther (p := ⟨g4, 1, none⟩) hne.symm _).setOther (p := ⟨g4, 2, none⟩) hne.symm _).setOther (p := ⟨g4, 3, none⟩) hne.symm _,
            (((p2.setOther (p := ⟨g4, 0, none⟩) (by simp; omega) _).setOther (p := ⟨g4, 1, none⟩) (by simp; omega) _).setOther (p := ⟨g4, 2, none⟩) (by simp; omega) _).setOther (p := ⟨g4, 3, none⟩) (by simp; omega) _,
            (((p3.setOther (p := ⟨g4, 0, none⟩) (by simp; omega) _).setOther (p := ⟨g4, 1, none⟩) (by simp; omega) _).setOther (p := ⟨g4, 2, none⟩) (by simp; omega) _).setOther (p := ⟨g4, 3, none⟩) (by simp; omega) _,
            by simp [go_sem, n5, Ne.symm n5, o7], (by repeat (first | (with_reducible assumption) | (with_reducible exact Ext.rfl' _) | (with_reducible exact Ext.new _ _) | (with_reducible refine Ext.alloc' ?_ _) | (with_reducible refine Ext.drew' ?_) | (with_reducible refine Ext.drewN' ?_ _) | (with_reducible refine Ext.set' ?_ ?_ _; rotate_left; (focus (first | omega | (simp; done) | (simp; omega)))) | (with_reducible refine Ext.then (b := ?_) ?_ ?_; rotate_left; rotate_left; (with_reducible assumption))))⟩
      | false =>
        have hL' : L = ⟨0, ⟨a, b⟩, lO⟩ := by rw [← hL.out]; rfl
        go_wp2_with fail
        go_meet
        case rel => subst hL'; exact ⟨q4, q5, p2, p3, o7, hX⟩
    case rest =>
      clear q4 q5 p2 p3 o7 o6 hX z4 z5
      obtain ⟨q4, q5, p2, p3, o7, hX⟩ := hcut
      have z4 := q4.lt
      have z5 := q5.lt
      go_upto_if 21 with (fail)
      go_cut [] (fun wx => Own wx g4 #[.int .i64 L.far, .int .i64 L.at'.num, .int .i64 L.at'.den, .bool L.aft] 137 ∧ Own wx g5 #[.int .i64 R.far, .int .i64 R.at'.num, .int .i64 R.at'.den, .bool R.aft] 137 ∧ Own wx (w.heap.size + 1) #[.int .i64 0, .int .i64 0, .int .i64 0, .bool false] 137 ∧ Own wx (w.heap.size + 1 + 1) #[.int .i64 0, .int .i64 0, .int .i64 0, .bool false] 137 ∧ Ext w wx)
      case first =>
        obtain ⟨c5, f5⟩ := q5.facts
        cases hI with
        | true =>
          have hR' : R = topE := by rw [← hR.out]; rfl
          go_wp2_with fail
          go_meet
          case rel =>
            subst hR'
            exact ⟨(((q4.setOther (p := ⟨g5, 0, none⟩) hne _).setOther (p := ⟨g5, 1, none⟩) hne _).setOther (p := ⟨g5, 2, none⟩) hne _).setOther (p := ⟨g5, 3, none⟩) hne _,
              ((((q5.set 0 (.int .i64 1)).set 1 (.int .i64 0)).set 2 (.int .i64 0)).set 3 (.bool false)),
              (((p2.setOther (p := ⟨g5, 0, none⟩) (by simp; omega) _).setOther (p := ⟨g5, 1, none⟩) (by simp; omega) _).setOther (p := ⟨g5, 2, none⟩) (by simp; omega) _).setOther (p := ⟨g5, 3, none⟩) (by simp; omega) _,
              (((p3.setOther (p := ⟨g5, 0, none⟩) (by simp; omega) _).setOther (p := ⟨g5, 1, none⟩) (by simp; omega) _).setOther (p := ⟨g5, 2, none⟩) (by simp; omega) _).setOther (p := ⟨g5, 3, none⟩) (by simp; omega) _,
              (by repeat (first | (with_reducible assumption) | (with_reducible exact Ext.rfl' _) | (with_reducible exact Ext.new _ _) | (with_reducible refine Ext.alloc' ?_ _) | (with_reducible refine Ext.drew' ?_) | (with_reducible refine Ext.drewN' ?_ _) | (with_reducible refine Ext.set' ?_ ?_ _; rotate_left; (focus (first | omega | (simp; done) | (simp; omega)))) | (with_reducible refine Ext.then (b := ?_) ?_ ?_; rotate_left; rotate_left; (with_reducible assumption))))⟩
        | false =>
          have hR' : R = ⟨0, ⟨c, d⟩, !hO⟩ := by rw [← hR.out]; rfl
          go_wp2_with fail
          go_meet
          case rel => subst hR'; exact ⟨q4, q5, p2, p3, hX⟩
      case rest =>
        clear q4 q5 p2 p3 o7 hX z4 z5
        obtain ⟨q4, q5, p2, p3, hX⟩ := hcut
        obtain ⟨c2, f2⟩ := p2.facts
        obtain ⟨c3, f3⟩ := p3.facts
        obtain ⟨c4, f4⟩ := q4.facts
        obtain ⟨c5, f5⟩ := q5.facts
        have z2 := p2.lt
        have z3 := p3.lt
        have z4 := q4.lt
        have z5 := q5.lt
        have n1 : g4 ≠ w.heap.size + 1 := by omega
        have n2 : g4 ≠ w.heap.size + 1 + 1 := by omega
        have n3 : g5 ≠ w.heap.size + 1 := by omega
        have n4 : g5 ≠ w.heap.size + 1 + 1 := by omega
        clear q4 q5 p2 p3 hL hR
        obtain ⟨Lf, ⟨Ln, Ld⟩, Lt⟩ := L
        obtain ⟨Rf, ⟨Rn, Rd⟩, Rt⟩ := R
        go_wp2_with fail
        go_region
        go_wp2_with fail
        exact bodyPost_ret (v := .tuple #[enA ⟨Lf, ⟨Ln, Ld⟩, Lt⟩, enA ⟨Rf, ⟨Rn, Rd⟩, Rt⟩]) (by simp [enA, results, Tryz.results113, go_sem, c2, c3, f2, f3, z2, z3]) rfl ⟨by rw [hv.out], (by repeat (first | (with_reducible assumption) | (with_reducible exact Ext.rfl' _) | (with_reducible exact Ext.new _ _) | (with_reducible refine Ext.alloc' ?_ _) | (with_reducible refine Ext.drew' ?_) | (with_reducible refine Ext.drewN' ?_ _) | (with_reducible refine Ext.set' ?_ ?_ _; rotate_left; (focus (first | omega | (simp; done) | (simp; omega)))) | (with_reducible refine Ext.then (b := ?_) ?_ ?_; rotate_left; rotate_left; (with_reducible assumption))))⟩
end Go.Proofs.YtcbmgajaaechjaaGreat
