/- Deep of package formula; Size and Deep of the reference. -/
import Derived.Test.YtcbmgajaaechjaaGreatForm
namespace Go.Proofs.YtcbmgajaaechjaaGreat
open Go.RowKit
set_option linter.unusedSimpArgs false
set_option linter.unusedVariables false
set_option maxHeartbeats 400000 in
theorem fdeep_c (f : Fm) : ∀ (cs : List Value) (w : World), FmR (ph w) cs f → f.deep < 1000000 →
    Calls Tryz.prog 20 #[.agg cs.toArray] w (RetV w (.int .i64 f.deep)) := by
  induction f using Fm.ind with
  | h f ih =>
    intro cs w hr hs
    obtain ⟨a3, c3, a4, c4, rfl, -, -, -, hlen, -, hp⟩ := hr.form
    unfold fmC
    rw [Fm.deep_eq] at hs
    go_enter Tryz.func20, Tryz.ntmps20
    go_wp2
    go_loopw [3, 9] (fun n i wr => ∃ k : Nat, k ≤ f.kids.length ∧ i = .int .i64 k ∧ n = .int .i64 (maxN Fm.deep (f.kids.take k) : Nat) ∧ Ext w wr) (fun _ i _ => f.kids.length - (intOf i).toNat)
    case atStart => exact ⟨0, Nat.zero_le _, rfl, by simp [maxN], (by repeat (first | (with_reducible assumption) | (with_reducible exact Ext.rfl' _) | (with_reducible exact Ext.new _ _) | (with_reducible refine Ext.alloc' ?_ _) | (with_reducible refine Ext.drew' ?_) | (with_reducible refine Ext.drewN' ?_ _) | (with_reducible refine Ext.set' ?_ ?_ _; rotate_left; (focus (first | omega | (simp; done) | (simp; omega)))) | (with_reducible refine Ext.then (b := ?_) ?_ ?_; rotate_left; rotate_left; (with_reducible assumption))))⟩
    case round =>
      obtain ⟨k, hk, rfl, rfl, hb⟩ := hrel
      skip
      have hst := maxN_take_le Fm.deep f.kids k
      by_cases hlt : k < f.kids.length
      · have hp' := hp.mono mono_FmR hb.ple
        obtain ⟨b, o, b3, d3, b4, d4, rfl, h0, h1, h2, h3, hE, hbl⟩ := FmsR.at hp' k hlt
        unfold fmC at hE
        have H3 := Lib.hid (maxN_take Fm.deep f.kids k hlt)
        have hst2 := maxN_take_le Fm.deep f.kids (k+1)
        rw [H3.out] at hst2
        have H := Lib.hid ih
        clear ih hp hp'
        go_wp2_with fail
        refine (H.out _ (by simp) _ _ (mono_FmR _ _ _ _ (Ext.ple (by repeat (first | (with_reducible assumption) | (with_reducible exact Ext.rfl' _) | (with_reducible exact Ext.new _ _) | (with_reducible refine Ext.alloc' ?_ _) | (with_reducible refine Ext.drew' ?_) | (with_reducible refine Ext.drewN' ?_ _) | (with_reducible refine Ext.set' ?_ ?_ _; rotate_left; (focus (first | omega | (simp; done) | (simp; omega)))) | (with_reducible refine Ext.then (b := ?_) ?_ ?_; rotate_left; rotate_left; (with_reducible assumption))))) hE) (by omega)).mono ?_
        rintro e w1 ⟨rfl, hb1⟩
        go_wp2_with fail
        go_roundw
        case rel => exact ⟨k + 1, by omega, by go_num, by rw [H3.out]; go_num, (by repeat (first | (with_reducible assumption) | (with_reducible exact Ext.rfl' _) | (with_reducible exact Ext.new _ _) | (with_reducible refine Ext.alloc' ?_ _) | (with_reducible refine Ext.drew' ?_) | (with_reducible refine Ext.drewN' ?_ _) | (with_reducible refine Ext.set' ?_ ?_ _; rotate_left; (focus (first | omega | (simp; done) | (simp; omega)))) | (with_reducible refine Ext.then (b := ?_) ?_ ?_; rotate_left; rotate_left; (with_reducible assumption))))⟩
        case measure => simp [intOf]; omega
      · have hst2 : f.kids.take k = f.kids := List.take_of_length_le (by omega)
        have H3 := Lib.hid hst2
        clear hst2 ih hp
        go_wp2_with fail
        go_ret
        refine ⟨ret_int ?_, hb⟩
        rw [H3.out, Fm.deep_eq]; omega
set_option maxHeartbeats 400000 in
theorem rfsize_c (f : Fm) : ∀ (cs : List Value) (w : World), FmR (ph w) cs f → f.size < 1000000 →
    Calls Tryz.prog 19 #[.agg cs.toArray] w (RetV w (.int .i64 f.size)) := by
  induction f using Fm.ind with
  | h f ih =>
    intro cs w hr hs
    obtain ⟨a3, c3, a4, c4, rfl, -, -, -, hlen, -, hp⟩ := hr.form
    unfold fmC
    rw [Fm.size_eq] at hs
    go_enter Tryz.func19, Tryz.ntmps19
    go_wp2
    go_loopw [3, 4] (fun n i wr => ∃ k : Nat, k ≤ f.kids.length ∧ i = .int .i64 k ∧ n = .int .i64 (1 + sumN Fm.size (f.kids.take k) : Nat) ∧ Own wr w.heap.size #[.int .i64 f.op, .int .i64 f.n, .slice a3 f.inn.length c3, .slice a4 f.kids.length c4] 39 ∧ Ext w wr) (fun _ i _ => f.kids.length - (intOf i).toNat)
    case atStart => exact ⟨0, Nat.zero_le _, rfl, by simp [sumN], (by repeat (first | (with_reducible assumption) | (with_reducible exact Own.new _ _ _) | (with_reducible refine Own.new' _ _ _ ?_; (focus (simp; done))) | (with_reducible refine Own.alloc ?_ _) | (with_reducible refine Own.drew ?_) | (with_reducible refine Own.drewN ?_ _) | (with_reducible refine Own.keep (w := ?_) ?_ ?_; rotate_left; (with_reducible assumption); (exact (by repeat (first | (with_reducible assumption) | (with_reducible exact Ext.rfl' _) | (with_reducible exact Ext.new _ _) | (with_reducible refine Ext.alloc' ?_ _) | (with_reducible refine Ext.drew' ?_) | (with_reducible refine Ext.drewN' ?_ _) | (with_reducible refine Ext.set' ?_ ?_ _; rotate_left; (focus (first | omega | (simp; done) | (simp; omega)))) | (with_reducible refine Ext.then (b := ?_) ?_ ?_; rotate_left; rotate_left; (with_reducible assumption)))))) | (with_reducible refine Own.keep (w := ?_) ?_ ?_; rotate_left; rotate_left; (with_reducible assumption)))), (by repeat (first | (with_reducible assumption) | (with_reducible exact Ext.rfl' _) | (with_reducible exact Ext.new _ _) | (with_reducible refine Ext.alloc' ?_ _) | (with_reducible refine Ext.drew' ?_) | (with_reducible refine Ext.drewN' ?_ _) | (with_reducible refine Ext.set' ?_ ?_ _; rotate_left; (focus (first | omega | (simp; done) | (simp; omega)))) | (with_reducible refine Ext.then (b := ?_) ?_ ?_; rotate_left; rotate_left; (with_reducible assumption))))⟩
    case round =>
      obtain ⟨k, hk, rfl, rfl, ho, hb⟩ := hrel
      obtain ⟨hoc, hof⟩ := ho.facts
      have hst := sumN_take_le Fm.size f.kids k
      by_cases hlt : k < f.kids.length
      · have hp' := hp.mono mono_FmR hb.ple
        obtain ⟨b, o, b3, d3, b4, d4, rfl, h0, h1, h2, h3, hE, hbl⟩ := FmsR.at hp' k hlt
        unfold fmC at hE
        have H3 := Lib.hid (sumN_take Fm.size f.kids k hlt)
        have hst2 := sumN_take_le Fm.size f.kids (k+1)
        rw [H3.out] at hst2
        have H := Lib.hid ih
        clear ih hp hp'
        go_wp2_with fail
        refine (H.out _ (by simp) _ _ (mono_FmR _ _ _ _ (Ext.ple (by repeat (first | (with_reducible assumption) | (with_reducible exact Ext.rfl' _) | (with_reducible exact Ext.new _ _) | (with_reducible refine Ext.alloc' ?_ _) | (with_reducible refine Ext.drew' ?_) | (with_reducible refine Ext.drewN' ?_ _) | (with_reducible refine Ext.set' ?_ ?_ _; rotate_left; (focus (first | omega | (simp; done) | (simp; omega)))) | (with_reducible refine Ext.then (b := ?_) ?_ ?_; rotate_left; rotate_left; (with_reducible assumption))))) hE) (by omega)).mono ?_
        rintro e w1 ⟨rfl, hb1⟩
        go_wp2_with fail
        go_roundw
        case rel => exact ⟨k + 1, by omega, by go_num, by rw [H3.out]; go_num, (by repeat (first | (with_reducible assumption) | (with_reducible exact Own.new _ _ _) | (with_reducible refine Own.new' _ _ _ ?_; (focus (simp; done))) | (with_reducible refine Own.alloc ?_ _) | (with_reducible refine Own.drew ?_) | (with_reducible refine Own.drewN ?_ _) | (with_reducible refine Own.keep (w := ?_) ?_ ?_; rotate_left; (with_reducible assumption); (exact (by repeat (first | (with_reducible assumption) | (with_reducible exact Ext.rfl' _) | (with_reducible exact Ext.new _ _) | (with_reducible refine Ext.alloc' ?_ _) | (with_reducible refine Ext.drew' ?_) | (with_reducible refine Ext.drewN' ?_ _) | (with_reducible refine Ext.set' ?_ ?_ _; rotate_left; (focus (first | omega | (simp; done) | (simp; omega)))) | (with_reducible refine Ext.then (b := ?_) ?_ ?_; rotate_left; rotate_left; (with_reducible assumption)))))) | (with_reducible refine Own.keep (w := ?_) ?_ ?_; rotate_left; rotate_left; (with_reducible assumption)))), (by repeat (first | (with_reducible assumption) | (with_reducible exact Ext.rfl' _) | (with_reducible exact Ext.new _ _) | (with_reducible refine Ext.alloc' ?_ _) | (with_reducible refine Ext.drew' ?_) | (with_reducible refine Ext.drewN' ?_ _) | (with_reducible refine Ext.set' ?_ ?_ _; rotate_left; (focus (first | omega | (simp; done) | (simp; omega)))) | (with_reducible refine Ext.then (b := ?_) ?_ ?_; rotate_left; rotate_left; (with_reducible assumption))))⟩
        case measure => simp [intOf]; omega
      · have hst2 : f.kids.take k = f.kids := List.take_of_length_le (by omega)
        have H3 := Lib.hid hst2
        clear hst2 ih hp
        go_wp2_with fail
        go_ret
        refine ⟨ret_int ?_, hb⟩
        rw [H3.out, Fm.size_eq]
set_option maxHeartbeats 400000 in
theorem rfdeep_c (f : Fm) : ∀ (cs : List Value) (w : World), FmR (ph w) cs f → f.deep < 1000000 →
    Calls Tryz.prog 21 #[.agg cs.toArray] w (RetV w (.int .i64 f.deep)) := by
  induction f using Fm.ind with
  | h f ih =>
    intro cs w hr hs
    obtain ⟨a3, c3, a4, c4, rfl, -, -, -, hlen, -, hp⟩ := hr.form
    unfold fmC
    rw [Fm.deep_eq] at hs
    go_enter Tryz.func21, Tryz.ntmps21
    go_wp2
    go_loopw [3, 4] (fun n i wr => ∃ k : Nat, k ≤ f.kids.length ∧ i = .int .i64 k ∧ n = .int .i64 (maxN Fm.deep (f.kids.take k) : Nat) ∧ Own wr w.heap.size #[.int .i64 f.op, .int .i64 f.n, .slice a3 f.inn.length c3, .slice a4 f.kids.length c4] 39 ∧ Ext w wr) (fun _ i _ => f.kids.length - (intOf i).toNat)
    case atStart => exact ⟨0, Nat.zero_le _, rfl, by simp [maxN], (by repeat (first | (with_reducible assumption) | (with_reducible exact Own.new _ _ _) | (with_reducible refine Own.new' _ _ _ ?_; (focus (simp; done))) | (with_reducible refine Own.alloc ?_ _) | (with_reducible refine Own.drew ?_) | (with_reducible refine Own.drewN ?_ _) | (with_reducible refine Own.keep (w := ?_) ?_ ?_; rotate_left; (with_reducible assumption); (exact (by repeat (first | (with_reducible assumption) | (with_reducible exact Ext.rfl' _) | (with_reducible exact Ext.new _ _) | (with_reducible refine Ext.alloc' ?_ _) | (with_reducible refine Ext.drew' ?_) | (with_reducible refine Ext.drewN' ?_ _) | (with_reducible refine Ext.set' ?_ ?_ _; rotate_left; (focus (first | omega | (simp; done) | (simp; omega)))) | (with_reducible refine Ext.then (b := ?_) ?_ ?_; rotate_left; rotate_left; (with_reducible assumption)))))) | (with_reducible refine Own.keep (w := ?_) ?_ ?_; rotate_left; rotate_left; (with_reducible assumption)))), (by repeat (first | (with_reducible assumption) | (with_reducible exact Ext.rfl' _) | (with_reducible exact Ext.new _ _) | (with_reducible refine Ext.alloc' ?_ _) | (with_reducible refine Ext.drew' ?_) | (with_reducible refine Ext.drewN' ?_ _) | (with_reducible refine Ext.set' ?_ ?_ _; rotate_left; (focus (first | omega | (simp; done) | (simp; omega)))) | (with_reducible refine Ext.then (b := ?_) ?_ ?_; rotate_left; rotate_left; (with_reducible assumption))))⟩
    case round =>
      obtain ⟨k, hk, rfl, rfl, ho, hb⟩ := hrel
      obtain ⟨hoc, hof⟩ := ho.facts
      have hst := maxN_take_le Fm.deep f.kids k
      by_cases hlt : k < f.kids.length
      · have hp' := hp.mono mono_FmR hb.ple
        obtain ⟨b, o, b3, d3, b4, d4, rfl, h0, h1, h2, h3, hE, hbl⟩ := FmsR.at hp' k hlt
        unfold fmC at hE
        have H3 := Lib.hid (maxN_take Fm.deep f.kids k hlt)
        have hst2 := maxN_take_le Fm.deep f.kids (k+1)
        rw [H3.out] at hst2
        have H := Lib.hid ih
        clear ih hp hp'
        go_wp2_with fail
        refine (H.out _ (by simp) _ _ (mono_FmR _ _ _ _ (Ext.ple (by repeat (first | (with_reducible assumption) | (with_reducible exact Ext.rfl' _) | (with_reducible exact Ext.new _ _) | (with_reducible refine Ext.alloc' ?_ _) | (with_reducible refine Ext.drew' ?_) | (with_reducible refine Ext.drewN' ?_ _) | (with_reducible refine Ext.set' ?_ ?_ _; rotate_left; (focus (first | omega | (simp; done) | (simp; omega)))) | (with_reducible refine Ext.then (b := ?_) ?_ ?_; rotate_left; rotate_left; (with_reducible assumption))))) hE) (by omega)).mono ?_
        rintro e w1 ⟨rfl, hb1⟩
        go_wp2_with fail
        go_roundw
        case rel => exact ⟨k + 1, by omega, by go_num, by rw [H3.out]; go_num, (by repeat (first | (with_reducible assumption) | (with_reducible exact Own.new _ _ _) | (with_reducible refine Own.new' _ _ _ ?_; (focus (simp; done))) | (with_reducible refine Own.alloc ?_ _) | (with_reducible refine Own.drew ?_) | (with_reducible refine Own.drewN ?_ _) | (with_reducible refine Own.keep (w := ?_) ?_ ?_; rotate_left; (with_reducible assumption); (exact (by repeat (first | (with_reducible assumption) | (with_reducible exact Ext.rfl' _) | (with_reducible exact Ext.new _ _) | (with_reducible refine Ext.alloc' ?_ _) | (with_reducible refine Ext.drew' ?_) | (with_reducible refine Ext.drewN' ?_ _) | (with_reducible refine Ext.set' ?_ ?_ _; rotate_left; (focus (first | omega | (simp; done) | (simp; omega)))) | (with_reducible refine Ext.then (b := ?_) ?_ ?_; rotate_left; rotate_left; (with_reducible assumption)))))) | (with_reducible refine Own.keep (w := ?_) ?_ ?_; rotate_left; rotate_left; (with_reducible assumption)))), (by repeat (first | (with_reducible assumption) | (with_reducible exact Ext.rfl' _) | (with_reducible exact Ext.new _ _) | (with_reducible refine Ext.alloc' ?_ _) | (with_reducible refine Ext.drew' ?_) | (with_reducible refine Ext.drewN' ?_ _) | (with_reducible refine Ext.set' ?_ ?_ _; rotate_left; (focus (first | omega | (simp; done) | (simp; omega)))) | (with_reducible refine Ext.then (b := ?_) ?_ ?_; rotate_left; rotate_left; (with_reducible assumption))))⟩
        case measure => simp [intOf]; omega
      · have hst2 : f.kids.take k = f.kids := List.take_of_length_le (by omega)
        have H3 := Lib.hid hst2
        clear hst2 ih hp
        go_wp2_with fail
        go_ret
        refine ⟨ret_int ?_, hb⟩
        rw [H3.out, Fm.deep_eq]; omega
end Go.Proofs.YtcbmgajaaechjaaGreat
