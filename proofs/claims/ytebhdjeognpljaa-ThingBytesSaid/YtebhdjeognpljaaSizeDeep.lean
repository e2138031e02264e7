/- Size and Deep of both sides. -/
import Derived.Test.YtebhdjeognpljaaThing
namespace Go.Proofs.Ytebhdjeognpljaa
open Go.RowKit
set_option linter.unusedSimpArgs false
set_option linter.unusedVariables false
set_option maxHeartbeats 400000 in
theorem size_c (t : Thing) : ∀ (cs : List Value) (w : World), ThingR (ph w) cs t → t.size < 1000000 →
    Calls Try.prog 11 #[.agg cs.toArray] w (RetV w (.int .i64 t.size)) := by
  induction t using Thing.ind with
  | h t ih =>
    intro cs w hr hs
    obtain ⟨a1, c1, a2, c2, a3, c3, rfl, -, -, hlen, -, -, hp⟩ := hr.form
    rw [Thing.size_eq] at hs
    go_enter Try.func11, Try.ntmps11
    go_wp2
    go_loopw [3, 9] (fun n i wr => ∃ k : Nat, k ≤ t.parts.length ∧ i = .int .i64 k ∧ n = .int .i64 (1 + sumN Thing.size (t.parts.take k) : Nat) ∧ Ext w wr) (fun _ i _ => t.parts.length - (intOf i).toNat)
    case atStart => exact ⟨0, Nat.zero_le _, rfl, by simp [sumN], (by repeat (first | (with_reducible assumption) | (with_reducible exact Ext.rfl' _) | (with_reducible exact Ext.new _ _) | (with_reducible refine Ext.alloc' ?_ _) | (with_reducible refine Ext.drew' ?_) | (with_reducible refine Ext.drewN' ?_ _) | (with_reducible refine Ext.set' ?_ ?_ _; rotate_left; (focus (first | omega | (simp; done) | (simp; omega)))) | (with_reducible refine Ext.then (b := ?_) ?_ ?_; rotate_left; rotate_left; (with_reducible assumption))))⟩
    case round =>
      obtain ⟨k, hk, rfl, rfl, hb⟩ := hrel
      have hst := sumN_take_le Thing.size t.parts k
      by_cases hlt : k < t.parts.length
      · have hp' := hp.mono mono_ThingR hb.ple
        obtain ⟨b, o, b1, d1, b2, d2, b3, d3, rfl, h0, h1, h2, hE, hbl⟩ := ThingsR.at hp' k hlt
        have H3 := Lib.hid (sumN_take Thing.size t.parts k hlt)
        have hst2 := sumN_take_le Thing.size t.parts (k+1)
        rw [H3.out] at hst2
        have H := Lib.hid ih
        clear ih hp hp'
        go_wp2_with fail
        refine (H.out _ (by simp) _ _ (mono_ThingR _ _ _ _ (Ext.ple (by repeat (first | (with_reducible assumption) | (with_reducible exact Ext.rfl' _) | (with_reducible exact Ext.new _ _) | (with_reducible refine Ext.alloc' ?_ _) | (with_reducible refine Ext.drew' ?_) | (with_reducible refine Ext.drewN' ?_ _) | (with_reducible refine Ext.set' ?_ ?_ _; rotate_left; (focus (first | omega | (simp; done) | (simp; omega)))) | (with_reducible refine Ext.then (b := ?_) ?_ ?_; rotate_left; rotate_left; (with_reducible assumption))))) hE) (by omega)).mono ?_
        rintro e w1 ⟨rfl, hb1⟩
        go_wp2_with fail
        go_roundw
        case rel => exact ⟨k + 1, by omega, by go_num, by rw [H3.out]; go_num, (by repeat (first | (with_reducible assumption) | (with_reducible exact Ext.rfl' _) | (with_reducible exact Ext.new _ _) | (with_reducible refine Ext.alloc' ?_ _) | (with_reducible refine Ext.drew' ?_) | (with_reducible refine Ext.drewN' ?_ _) | (with_reducible refine Ext.set' ?_ ?_ _; rotate_left; (focus (first | omega | (simp; done) | (simp; omega)))) | (with_reducible refine Ext.then (b := ?_) ?_ ?_; rotate_left; rotate_left; (with_reducible assumption))))⟩
        case measure => simp [intOf]; omega
      · have hst2 : t.parts.take k = t.parts := List.take_of_length_le (by omega)
        have H3 := Lib.hid hst2
        clear hst2 ih hp
        go_wp2_with fail
        go_ret
        refine ⟨ret_int ?_, hb⟩
        rw [H3.out, Thing.size_eq]
set_option maxHeartbeats 400000 in
theorem size_r (t : Thing) : ∀ (cs : List Value) (w : World), ThingR (ph w) cs t → t.size < 1000000 →
    Calls Try.prog 12 #[.agg cs.toArray] w (RetV w (.int .i64 t.size)) := by
  induction t using Thing.ind with
  | h t ih =>
    intro cs w hr hs
    obtain ⟨a1, c1, a2, c2, a3, c3, rfl, -, -, hlen, -, -, hp⟩ := hr.form
    rw [Thing.size_eq] at hs
    go_enter Try.func12, Try.ntmps12
    go_wp2
    go_loopw [3, 4] (fun n i wr => ∃ k : Nat, k ≤ t.parts.length ∧ i = .int .i64 k ∧ n = .int .i64 (1 + sumN Thing.size (t.parts.take k) : Nat) ∧ Own wr w.heap.size #[.slice a1 t.cls.length c1, .slice a2 t.vals.length c2, .slice a3 t.parts.length c3] 29 ∧ Ext w wr) (fun _ i _ => t.parts.length - (intOf i).toNat)
    case atStart => exact ⟨0, Nat.zero_le _, rfl, by simp [sumN], (by repeat (first | (with_reducible assumption) | (with_reducible exact Own.new _ _ _) | (with_reducible refine Own.new' _ _ _ ?_; (focus (simp; done))) | (with_reducible refine Own.alloc ?_ _) | (with_reducible refine Own.drew ?_) | (with_reducible refine Own.drewN ?_ _) | (with_reducible refine Own.keep (w := ?_) ?_ ?_; rotate_left; (with_reducible assumption); (exact (by repeat (first | (with_reducible assumption) | (with_reducible exact Ext.rfl' _) | (with_reducible exact Ext.new _ _) | (with_reducible refine Ext.alloc' ?_ _) | (with_reducible refine Ext.drew' ?_) | (with_reducible refine Ext.drewN' ?_ _) | (with_reducible refine Ext.set' ?_ ?_ _; rotate_left; (focus (first | omega | (simp; done) | (simp; omega)))) | (with_reducible refine Ext.then (b := ?_) ?_ ?_; rotate_left; rotate_left; (with_reducible assumption)))))) | (with_reducible refine Own.keep (w := ?_) ?_ ?_; rotate_left; rotate_left; (with_reducible assumption)))), (by repeat (first | (with_reducible assumption) | (with_reducible exact Ext.rfl' _) | (with_reducible exact Ext.new _ _) | (with_reducible refine Ext.alloc' ?_ _) | (with_reducible refine Ext.drew' ?_) | (with_reducible refine Ext.drewN' ?_ _) | (with_reducible refine Ext.set' ?_ ?_ _; rotate_left; (focus (first | omega | (simp; done) | (simp; omega)))) | (with_reducible refine Ext.then (b := ?_) ?_ ?_; rotate_left; rotate_left; (with_reducible assumption))))⟩
    case round =>
      obtain ⟨k, hk, rfl, rfl, ho, hb⟩ := hrel
      obtain ⟨hoc, hof⟩ := ho.facts
      have hst := sumN_take_le Thing.size t.parts k
      by_cases hlt : k < t.parts.length
      · have hp' := hp.mono mono_ThingR hb.ple
        obtain ⟨b, o, b1, d1, b2, d2, b3, d3, rfl, h0, h1, h2, hE, hbl⟩ := ThingsR.at hp' k hlt
        have H3 := Lib.hid (sumN_take Thing.size t.parts k hlt)
        have hst2 := sumN_take_le Thing.size t.parts (k+1)
        rw [H3.out] at hst2
        have H := Lib.hid ih
        clear ih hp hp'
        go_wp2_with fail
        refine (H.out _ (by simp) _ _ (mono_ThingR _ _ _ _ (Ext.ple (by repeat (first | (with_reducible assumption) | (with_reducible exact Ext.rfl' _) | (with_reducible exact Ext.new _ _) | (with_reducible refine Ext.alloc' ?_ _) | (with_reducible refine Ext.drew' ?_) | (with_reducible refine Ext.drewN' ?_ _) | (with_reducible refine Ext.set' ?_ ?_ _; rotate_left; (focus (first | omega | (simp; done) | (simp; omega)))) | (with_reducible refine Ext.then (b := ?_) ?_ ?_; rotate_left; rotate_left; (with_reducible assumption))))) hE) (by omega)).mono ?_
        rintro e w1 ⟨rfl, hb1⟩
        go_wp2_with fail
        go_roundw
        case rel => exact ⟨k + 1, by omega, by go_num, by rw [H3.out]; go_num, (by repeat (first | (with_reducible assumption) | (with_reducible exact Own.new _ _ _) | (with_reducible refine Own.new' _ _ _ ?_; (focus (simp; done))) | (with_reducible refine Own.alloc ?_ _) | (with_reducible refine Own.drew ?_) | (with_reducible refine Own.drewN ?_ _) | (with_reducible refine Own.keep (w := ?_) ?_ ?_; rotate_left; (with_reducible assumption); (exact (by repeat (first | (with_reducible assumption) | (with_reducible exact Ext.rfl' _) | (with_reducible exact Ext.new _ _) | (with_reducible refine Ext.alloc' ?_ _) | (with_reducible refine Ext.drew' ?_) | (with_reducible refine Ext.drewN' ?_ _) | (with_reducible refine Ext.set' ?_ ?_ _; rotate_left; (focus (first | omega | (simp; done) | (simp; omega)))) | (with_reducible refine Ext.then (b := ?_) ?_ ?_; rotate_left; rotate_left; (with_reducible assumption)))))) | (with_reducible refine Own.keep (w := ?_) ?_ ?_; rotate_left; rotate_left; (with_reducible assumption)))), (by repeat (first | (with_reducible assumption) | (with_reducible exact Ext.rfl' _) | (with_reducible exact Ext.new _ _) | (with_reducible refine Ext.alloc' ?_ _) | (with_reducible refine Ext.drew' ?_) | (with_reducible refine Ext.drewN' ?_ _) | (with_reducible refine Ext.set' ?_ ?_ _; rotate_left; (focus (first | omega | (simp; done) | (simp; omega)))) | (with_reducible refine Ext.then (b := ?_) ?_ ?_; rotate_left; rotate_left; (with_reducible assumption))))⟩
        case measure => simp [intOf]; omega
      · have hst2 : t.parts.take k = t.parts := List.take_of_length_le (by omega)
        have H3 := Lib.hid hst2
        clear hst2 ih hp
        go_wp2_with fail
        go_ret
        refine ⟨ret_int ?_, hb⟩
        rw [H3.out, Thing.size_eq]
set_option maxHeartbeats 400000 in
theorem deep_c (t : Thing) : ∀ (cs : List Value) (w : World), ThingR (ph w) cs t → t.deep < 1000000 →
    Calls Try.prog 13 #[.agg cs.toArray] w (RetV w (.int .i64 t.deep)) := by
  induction t using Thing.ind with
  | h t ih =>
    intro cs w hr hs
    obtain ⟨a1, c1, a2, c2, a3, c3, rfl, -, -, hlen, -, -, hp⟩ := hr.form
    rw [Thing.deep_eq] at hs
    go_enter Try.func13, Try.ntmps13
    go_wp2
    go_loopw [3, 9] (fun n i wr => ∃ k : Nat, k ≤ t.parts.length ∧ i = .int .i64 k ∧ n = .int .i64 (maxN Thing.deep (t.parts.take k) : Nat) ∧ Ext w wr) (fun _ i _ => t.parts.length - (intOf i).toNat)
    case atStart => exact ⟨0, Nat.zero_le _, rfl, by simp [maxN], (by repeat (first | (with_reducible assumption) | (with_reducible exact Ext.rfl' _) | (with_reducible exact Ext.new _ _) | (with_reducible refine Ext.alloc' ?_ _) | (with_reducible refine Ext.drew' ?_) | (with_reducible refine Ext.drewN' ?_ _) | (with_reducible refine Ext.set' ?_ ?_ _; rotate_left; (focus (first | omega | (simp; done) | (simp; omega)))) | (with_reducible refine Ext.then (b := ?_) ?_ ?_; rotate_left; rotate_left; (with_reducible assumption))))⟩
    case round =>
      obtain ⟨k, hk, rfl, rfl, hb⟩ := hrel
      have hst := maxN_take_le Thing.deep t.parts k
      by_cases hlt : k < t.parts.length
      · have hp' := hp.mono mono_ThingR hb.ple
        obtain ⟨b, o, b1, d1, b2, d2, b3, d3, rfl, h0, h1, h2, hE, hbl⟩ := ThingsR.at hp' k hlt
        have H3 := Lib.hid (maxN_take Thing.deep t.parts k hlt)
        have hst2 := maxN_take_le Thing.deep t.parts (k+1)
        rw [H3.out] at hst2
        have H := Lib.hid ih
        clear ih hp hp'
        go_wp2_with fail
        refine (H.out _ (by simp) _ _ (mono_ThingR _ _ _ _ (Ext.ple (by repeat (first | (with_reducible assumption) | (with_reducible exact Ext.rfl' _) | (with_reducible exact Ext.new _ _) | (with_reducible refine Ext.alloc' ?_ _) | (with_reducible refine Ext.drew' ?_) | (with_reducible refine Ext.drewN' ?_ _) | (with_reducible refine Ext.set' ?_ ?_ _; rotate_left; (focus (first | omega | (simp; done) | (simp; omega)))) | (with_reducible refine Ext.then (b := ?_) ?_ ?_; rotate_left; rotate_left; (with_reducible assumption))))) hE) (by omega)).mono ?_
        rintro e w1 ⟨rfl, hb1⟩
        go_wp2_with fail
        go_roundw
        case rel => exact ⟨k + 1, by omega, by go_num, by rw [H3.out]; go_num, (by repeat (first | (with_reducible assumption) | (with_reducible exact Ext.rfl' _) | (with_reducible exact Ext.new _ _) | (with_reducible refine Ext.alloc' ?_ _) | (with_reducible refine Ext.drew' ?_) | (with_reducible refine Ext.drewN' ?_ _) | (with_reducible refine Ext.set' ?_ ?_ _; rotate_left; (focus (first | omega | (simp; done) | (simp; omega)))) | (with_reducible refine Ext.then (b := ?_) ?_ ?_; rotate_left; rotate_left; (with_reducible assumption))))⟩
        case measure => simp [intOf]; omega
      · have hst2 : t.parts.take k = t.parts := List.take_of_length_le (by omega)
        have H3 := Lib.hid hst2
        clear hst2 ih hp
        go_wp2_with fail
        go_ret
        refine ⟨ret_int ?_, hb⟩
        rw [H3.out, Thing.deep_eq]; omega
set_option maxHeartbeats 400000 in
theorem deep_r (t : Thing) : ∀ (cs : List Value) (w : World), ThingR (ph w) cs t → t.deep < 1000000 →
    Calls Try.prog 14 #[.agg cs.toArray] w (RetV w (.int .i64 t.deep)) := by
  induction t using Thing.ind with
  | h t ih =>
    intro cs w hr hs
    obtain ⟨a1, c1, a2, c2, a3, c3, rfl, -, -, hlen, -, -, hp⟩ := hr.form
    rw [Thing.deep_eq] at hs
    go_enter Try.func14, Try.ntmps14
    go_wp2
    go_loopw [3, 4] (fun n i wr => ∃ k : Nat, k ≤ t.parts.length ∧ i = .int .i64 k ∧ n = .int .i64 (maxN Thing.deep (t.parts.take k) : Nat) ∧ Own wr w.heap.size #[.slice a1 t.cls.length c1, .slice a2 t.vals.length c2, .slice a3 t.parts.length c3] 29 ∧ Ext w wr) (fun _ i _ => t.parts.length - (intOf i).toNat)
    case atStart => exact ⟨0, Nat.zero_le _, rfl, by simp [maxN], (by repeat (first | (with_reducible assumption) | (with_reducible exact Own.new _ _ _) | (with_reducible refine Own.new' _ _ _ ?_; (focus (simp; done))) | (with_reducible refine Own.alloc ?_ _) | (with_reducible refine Own.drew ?_) | (with_reducible refine Own.drewN ?_ _) | (with_reducible refine Own.keep (w := ?_) ?_ ?_; rotate_left; (with_reducible assumption); (exact (by repeat (first | (with_reducible assumption) | (with_reducible exact Ext.rfl' _) | (with_reducible exact Ext.new _ _) | (with_reducible refine Ext.alloc' ?_ _) | (with_reducible refine Ext.drew' ?_) | (with_reducible refine Ext.drewN' ?_ _) | (with_reducible refine Ext.set' ?_ ?_ _; rotate_left; (focus (first | omega | (simp; done) | (simp; omega)))) | (with_reducible refine Ext.then (b := ?_) ?_ ?_; rotate_left; rotate_left; (with_reducible assumption)))))) | (with_reducible refine Own.keep (w := ?_) ?_ ?_; rotate_left; rotate_left; (with_reducible assumption)))), (by repeat (first | (with_reducible assumption) | (with_reducible exact Ext.rfl' _) | (with_reducible exact Ext.new _ _) | (with_reducible refine Ext.alloc' ?_ _) | (with_reducible refine Ext.drew' ?_) | (with_reducible refine Ext.drewN' ?_ _) | (with_reducible refine Ext.set' ?_ ?_ _; rotate_left; (focus (first | omega | (simp; done) | (simp; omega)))) | (with_reducible refine Ext.then (b := ?_) ?_ ?_; rotate_left; rotate_left; (with_reducible assumption))))⟩
    case round =>
      obtain ⟨k, hk, rfl, rfl, ho, hb⟩ := hrel
      obtain ⟨hoc, hof⟩ := ho.facts
      have hst := maxN_take_le Thing.deep t.parts k
      by_cases hlt : k < t.parts.length
      · have hp' := hp.mono mono_ThingR hb.ple
        obtain ⟨b, o, b1, d1, b2, d2, b3, d3, rfl, h0, h1, h2, hE, hbl⟩ := ThingsR.at hp' k hlt
        have H3 := Lib.hid (maxN_take Thing.deep t.parts k hlt)
        have hst2 := maxN_take_le Thing.deep t.parts (k+1)
        rw [H3.out] at hst2
        have H := Lib.hid ih
        clear ih hp hp'
        go_wp2_with fail
        refine (H.out _ (by simp) _ _ (mono_ThingR _ _ _ _ (Ext.ple (by repeat (first | (with_reducible assumption) | (with_reducible exact Ext.rfl' _) | (with_reducible exact Ext.new _ _) | (with_reducible refine Ext.alloc' ?_ _) | (with_reducible refine Ext.drew' ?_) | (with_reducible refine Ext.drewN' ?_ _) | (with_reducible refine Ext.set' ?_ ?_ _; rotate_left; (focus (first | omega | (simp; done) | (simp; omega)))) | (with_reducible refine Ext.then (b := ?_) ?_ ?_; rotate_left; rotate_left; (with_reducible assumption))))) hE) (by omega)).mono ?_
        rintro e w1 ⟨rfl, hb1⟩
        go_wp2_with fail
        go_roundw
        case rel => exact ⟨k + 1, by omega, by go_num, by rw [H3.out]; go_num, (by repeat (first | (with_reducible assumption) | (with_reducible exact Own.new _ _ _) | (with_reducible refine Own.new' _ _ _ ?_; (focus (simp; done))) | (with_reducible refine Own.alloc ?_ _) | (with_reducible refine Own.drew ?_) | (with_reducible refine Own.drewN ?_ _) | (with_reducible refine Own.keep (w := ?_) ?_ ?_; rotate_left; (with_reducible assumption); (exact (by repeat (first | (with_reducible assumption) | (with_reducible exact Ext.rfl' _) | (with_reducible exact Ext.new _ _) | (with_reducible refine Ext.alloc' ?_ _) | (with_reducible refine Ext.drew' ?_) | (with_reducible refine Ext.drewN' ?_ _) | (with_reducible refine Ext.set' ?_ ?_ _; rotate_left; (focus (first | omega | (simp; done) | (simp; omega)))) | (with_reducible refine Ext.then (b := ?_) ?_ ?_; rotate_left; rotate_left; (with_reducible assumption)))))) | (with_reducible refine Own.keep (w := ?_) ?_ ?_; rotate_left; rotate_left; (with_reducible assumption)))), (by repeat (first | (with_reducible assumption) | (with_reducible exact Ext.rfl' _) | (with_reducible exact Ext.new _ _) | (with_reducible refine Ext.alloc' ?_ _) | (with_reducible refine Ext.drew' ?_) | (with_reducible refine Ext.drewN' ?_ _) | (with_reducible refine Ext.set' ?_ ?_ _; rotate_left; (focus (first | omega | (simp; done) | (simp; omega)))) | (with_reducible refine Ext.then (b := ?_) ?_ ?_; rotate_left; rotate_left; (with_reducible assumption))))⟩
        case measure => simp [intOf]; omega
      · have hst2 : t.parts.take k = t.parts := List.take_of_length_le (by omega)
        have H3 := Lib.hid hst2
        clear hst2 ih hp
        go_wp2_with fail
        go_ret
        refine ⟨ret_int ?_, hb⟩
        rw [H3.out, Thing.deep_eq]; omega
end Go.Proofs.Ytebhdjeognpljaa
