/- package formula: Valid. -/
import Derived.Test.YtcbmgajaaechjaaGreatFmF
import Derived.Test.YtcbmgajaaechjaaGreatFmS
import Derived.Test.YtcbmgajaaechjaaGreatFmZ
namespace Go.Proofs.YtcbmgajaaechjaaGreat
open Go.RowKit Go.Shelf
set_option linter.unusedSimpArgs false
set_option linter.unusedVariables false
attribute [local go_sem] Oper.semAt_some
theorem wholeB_all (f : Fm) : wholeB f = f.pre.all formed1 := rfl
/-- a round's box of the node -/
def NodeA {H : PH} (tm : FmA H → Nat → Array Value) (x : FmA H) (a' : Act) (W : World) : Prop :=
  ∃ Bx, Bx < W.heap.size ∧ Own W Bx x.1.1.toArray 39 ∧ a' = { tmps := tm x Bx, defers := [] }
theorem NodeA.from {H : PH} (tm : FmA H → Nat → Array Value) (B : Nat) (x : FmA H) (a' : Act) : OwnFrom B (fun (_ : Unit) W => NodeA tm x a' W) := by
  rintro _ A C row ⟨Bx, h1, h2, h3⟩ hg hr
  exact ⟨Bx, Nat.lt_of_lt_of_le h1 hg.size, own_keptF h2 hg fun r e => (hr r e).2, h3⟩
theorem Ext.grownG' {w w' : World} (e : Ext w w') (r : Option Nat) : w.grownBy w' r := ⟨e.os, e.tape, e.output, e.size, fun k hk _ => e.block k hk⟩
set_option maxRecDepth 100000 in
set_option maxHeartbeats 2000000 in
theorem fvalid_in (f : Fm) (cs : List Value) (w : World) (hr : FmR (ph w) cs f) (hs : f.bulk ≤ 900000) : CallsIn Fence.wide 7 Tryz.prog 17 #[.agg cs.toArray] w (RetV w (.int .i64 (validF f))) := by
  have hr' := hr
  obtain ⟨a3, c3, a4, c4, rfl, -⟩ := hr.form
  unfold fmC at hr' ⊢
  have hs1 := f.size_le_bulk
  have hs2 := f.deep_le_size
  refine callsIn_of_wp_marks Tryz.func17 rfl trivial ?_ rfl
  simp only [Tryz.ntmps17, List.size_toArray, List.length_cons, List.length_nil, Nat.reduceAdd, Nat.reduceSub, Array.replicate_succ, Array.replicate_zero, List.push_toArray, List.append_toArray, List.nil_append, List.cons_append]
  refine wpIn_wide.2 ?_
  go_wp2_with fail
  refine RetV_at (fsize_c f _ _ (mono_FmR _ _ _ _ (Ext.ple (by repeat (first | (with_reducible assumption) | (with_reducible exact Ext.rfl' _) | (with_reducible exact Ext.new _ _) | (with_reducible refine Ext.alloc' ?_ _) | (with_reducible refine Ext.drew' ?_) | (with_reducible refine Ext.drewN' ?_ _) | (with_reducible refine Ext.set' ?_ ?_ _; rotate_left; (focus (first | omega | (simp; done) | (simp; omega)))) | (with_reducible refine Ext.then (b := ?_) ?_ ?_; rotate_left; rotate_left; (with_reducible assumption))))) hr') (by omega)) ?_
  intro w1 hx1
  have ho : Own w1 w.heap.size #[.int .i64 f.op, .int .i64 f.n, .slice a3 f.inn.length c3, .slice a4 f.kids.length c4] 39 := (by repeat (first | (with_reducible assumption) | (with_reducible exact Own.new _ _ _) | (with_reducible refine Own.new' _ _ _ ?_; (focus (simp; done))) | (with_reducible refine Own.alloc ?_ _) | (with_reducible refine Own.drew ?_) | (with_reducible refine Own.drewN ?_ _) | (with_reducible refine Own.keep (w := ?_) ?_ ?_; rotate_left; (with_reducible assumption); (exact (by repeat (first | (with_reducible assumption) | (with_reducible exact Ext.rfl' _) | (with_reducible exact Ext.new _ _) | (with_reducible refine Ext.alloc' ?_ _) | (with_reducible refine Ext.drew' ?_) | (with_reducible refine Ext.drewN' ?_ _) | (with_reducible refine Ext.set' ?_ ?_ _; rotate_left; (focus (first | omega | (simp; done) | (simp; omega)))) | (with_reducible refine Ext.then (b := ?_) ?_ ?_; rotate_left; rotate_left; (with_reducible assumption)))))) | (with_reducible refine Own.keep (w := ?_) ?_ ?_; rotate_left; rotate_left; (with_reducible assumption))))
  have hoE : Own w1 (w.heap.size + 1) #[.int .i64 0] 26 := (by repeat (first | (with_reducible assumption) | (with_reducible exact Own.new _ _ _) | (with_reducible refine Own.new' _ _ _ ?_; (focus (simp; done))) | (with_reducible refine Own.alloc ?_ _) | (with_reducible refine Own.drew ?_) | (with_reducible refine Own.drewN ?_ _) | (with_reducible refine Own.keep (w := ?_) ?_ ?_; rotate_left; (with_reducible assumption); (exact (by repeat (first | (with_reducible assumption) | (with_reducible exact Ext.rfl' _) | (with_reducible exact Ext.new _ _) | (with_reducible refine Ext.alloc' ?_ _) | (with_reducible refine Ext.drew' ?_) | (with_reducible refine Ext.drewN' ?_ _) | (with_reducible refine Ext.set' ?_ ?_ _; rotate_left; (focus (first | omega | (simp; done) | (simp; omega)))) | (with_reducible refine Ext.then (b := ?_) ?_ ?_; rotate_left; rotate_left; (with_reducible assumption)))))) | (with_reducible refine Own.keep (w := ?_) ?_ ?_; rotate_left; rotate_left; (with_reducible assumption))))
  have hx : Ext w w1 := (by repeat (first | (with_reducible assumption) | (with_reducible exact Ext.rfl' _) | (with_reducible exact Ext.new _ _) | (with_reducible refine Ext.alloc' ?_ _) | (with_reducible refine Ext.drew' ?_) | (with_reducible refine Ext.drewN' ?_ _) | (with_reducible refine Ext.set' ?_ ?_ _; rotate_left; (focus (first | omega | (simp; done) | (simp; omega)))) | (with_reducible refine Ext.then (b := ?_) ?_ ?_; rotate_left; rotate_left; (with_reducible assumption))))
  clear hx1
  obtain ⟨hoc, hof⟩ := ho.facts
  obtain ⟨hec, hef⟩ := hoE.facts
  have hlt := hoE.lt
  by_cases hS : 96 < f.size
  · have hv : Hid (validF f = 4) := by show _ = _; unfold validF; rw [if_pos (.inl hS)]
    have b1 : decide (96 < (f.size : Int)) = true := by simp; omega
    go_wp2_with fail
    have o3 := hoE.set 0 (.int .i64 4)
    have q : _ = some (Value.int .i64 4) := o3.facts.1 0
    exact ⟨.int .i64 4, by simp [results, Tryz.results17, go_sem, q], by rw [hv.out]; exact ⟨rfl, hx.set' (p := ⟨w.heap.size + 1, 0, none⟩) (by simp) _⟩⟩
  have b1 : decide (96 < (f.size : Int)) = false := by simp; omega
  go_wp2_with fail
  refine RetV_at (fdeep_c f _ _ (mono_FmR _ _ _ _ (Ext.ple (by repeat (first | (with_reducible assumption) | (with_reducible exact Ext.rfl' _) | (with_reducible exact Ext.new _ _) | (with_reducible refine Ext.alloc' ?_ _) | (with_reducible refine Ext.drew' ?_) | (with_reducible refine Ext.drewN' ?_ _) | (with_reducible refine Ext.set' ?_ ?_ _; rotate_left; (focus (first | omega | (simp; done) | (simp; omega)))) | (with_reducible refine Ext.then (b := ?_) ?_ ?_; rotate_left; rotate_left; (with_reducible assumption))))) hr') (by omega)) ?_
  intro w2 hx2
  replace ho := ho.keep hx2
  replace hoE := hoE.keep hx2
  replace hx : Ext w w2 := (by repeat (first | (with_reducible assumption) | (with_reducible exact Ext.rfl' _) | (with_reducible exact Ext.new _ _) | (with_reducible refine Ext.alloc' ?_ _) | (with_reducible refine Ext.drew' ?_) | (with_reducible refine Ext.drewN' ?_ _) | (with_reducible refine Ext.set' ?_ ?_ _; rotate_left; (focus (first | omega | (simp; done) | (simp; omega)))) | (with_reducible refine Ext.then (b := ?_) ?_ ?_; rotate_left; rotate_left; (with_reducible assumption))))
  clear hx2 hoc hof hec hef hlt
  obtain ⟨hoc, hof⟩ := ho.facts
  obtain ⟨hec, hef⟩ := hoE.facts
  have hlt := hoE.lt
  by_cases hD : 8 < f.deep
  · have hv : Hid (validF f = 4) := by show _ = _; unfold validF; rw [if_pos (.inr hD)]
    have b2 : decide (8 < (f.deep : Int)) = true := by simp; omega
    go_wp2_with fail
    have o3 := hoE.set 0 (.int .i64 4)
    have q : _ = some (Value.int .i64 4) := o3.facts.1 0
    exact ⟨.int .i64 4, by simp [results, Tryz.results17, go_sem, q], by rw [hv.out]; exact ⟨rfl, hx.set' (p := ⟨w.heap.size + 1, 0, none⟩) (by simp) _⟩⟩
  have b2 : decide (8 < (f.deep : Int)) = false := by simp; omega
  have hv : Hid (validF f = if wholeB f then 0 else 1) := by show _ = _; unfold validF; rw [if_neg (by omega)]
  go_wp2_with fail
  refine (nodes_p f _ _ (mono_FmR _ _ _ _ (Ext.ple (by repeat (first | (with_reducible assumption) | (with_reducible exact Ext.rfl' _) | (with_reducible exact Ext.new _ _) | (with_reducible refine Ext.alloc' ?_ _) | (with_reducible refine Ext.drew' ?_) | (with_reducible refine Ext.drewN' ?_ _) | (with_reducible refine Ext.set' ?_ ?_ _; rotate_left; (focus (first | omega | (simp; done) | (simp; omega)))) | (with_reducible refine Ext.then (b := ?_) ?_ ?_; rotate_left; rotate_left; (with_reducible assumption))))) hr')).mono ?_
  rintro e w' ⟨rfl, rfl⟩
  go_wp2_with fail
  refine (wpIn_wide (n := 7)).1 ?_
  have hO1 : Own (w2.alloc (.cells #[.int .i64 f.op, .int .i64 f.n, .slice a3 f.inn.length c3, .slice a4 f.kids.length c4] 39)) (w.heap.size + 1) #[.int .i64 0] 26 := (by repeat (first | (with_reducible assumption) | (with_reducible exact Own.new _ _ _) | (with_reducible refine Own.new' _ _ _ ?_; (focus (simp; done))) | (with_reducible refine Own.alloc ?_ _) | (with_reducible refine Own.drew ?_) | (with_reducible refine Own.drewN ?_ _) | (with_reducible refine Own.keep (w := ?_) ?_ ?_; rotate_left; (with_reducible assumption); (exact (by repeat (first | (with_reducible assumption) | (with_reducible exact Ext.rfl' _) | (with_reducible exact Ext.new _ _) | (with_reducible refine Ext.alloc' ?_ _) | (with_reducible refine Ext.drew' ?_) | (with_reducible refine Ext.drewN' ?_ _) | (with_reducible refine Ext.set' ?_ ?_ _; rotate_left; (focus (first | omega | (simp; done) | (simp; omega)))) | (with_reducible refine Ext.then (b := ?_) ?_ ?_; rotate_left; rotate_left; (with_reducible assumption)))))) | (with_reducible refine Own.keep (w := ?_) ?_ ?_; rotate_left; rotate_left; (with_reducible assumption))))
  have hO2 : Own (w2.alloc (.cells #[.int .i64 f.op, .int .i64 f.n, .slice a3 f.inn.length c3, .slice a4 f.kids.length c4] 39)) w2.heap.size #[.int .i64 f.op, .int .i64 f.n, .slice a3 f.inn.length c3, .slice a4 f.kids.length c4] 39 := Own.new _ _ _
  have hx0 : Ext w (w2.alloc (.cells #[.int .i64 f.op, .int .i64 f.n, .slice a3 f.inn.length c3, .slice a4 f.kids.length c4] 39)) := (by repeat (first | (with_reducible assumption) | (with_reducible exact Ext.rfl' _) | (with_reducible exact Ext.new _ _) | (with_reducible refine Ext.alloc' ?_ _) | (with_reducible refine Ext.drew' ?_) | (with_reducible refine Ext.drewN' ?_ _) | (with_reducible refine Ext.set' ?_ ?_ _; rotate_left; (focus (first | omega | (simp; done) | (simp; omega)))) | (with_reducible refine Ext.then (b := ?_) ?_ ?_; rotate_left; rotate_left; (with_reducible assumption))))
  have hsz : (w2.alloc (.cells #[.int .i64 f.op, .int .i64 f.n, .slice a3 f.inn.length c3, .slice a4 f.kids.length c4] 39)).heap.size = w2.heap.size + 1 := by simp
  clear ho hoE hoc hof hec hef
  generalize w2.alloc _ = W0 at *
  have hps : f.pre.length = f.size := f.pre_len
  refine wpIn_rangeFunc_ownH rfl (by omega) (gf := 65) (lb := #[.pointer (some ⟨w2.heap.size, 0, none⟩)]) rfl trivial (enters_of Tryz.func65 (by kernel_rfl) rfl)
    (encs := fun x : FmA (ph w) => #[.agg x.1.1.toArray]) (Kp := Kx w.heap.size (w.heap.size + 1)) (S := fun ys => fmsOf ys = f.pre) (Sp := fun p => fmsOf p <+: f.pre) (N := f.pre.length)
    (w0 := W0) (nodes_seq (by omega) (Good.of hO1 rfl) hx0.ple (ph_low w) (by omega) hO2 hr') Kx.then (Kx.put (by omega) (by omega)) (Below.refl _ _) (fun _ => rfl)
    (fun pre W => Own W (w.heap.size + 1) #[.int .i64 0] 26 ∧ Ext w W ∧ ∀ x ∈ pre, formed1 (FmA.f x) = true)
    (fun c pre W => c = .ret ∧ Own W (w.heap.size + 1) #[.int .i64 1] 26 ∧ Ext w W ∧ ∃ x ∈ pre, formed1 (FmA.f x) = false)
    ?hI ?hIx ⟨hO1, hx0, by simp⟩ (NodeA (fun x Bx => #[.agg #[.int .i64 f.op, .int .i64 f.n, .slice a3 f.inn.length c3, .slice a4 f.kids.length c4], .pointer (some ⟨w.heap.size, 0, none⟩), .pointer (some ⟨w.heap.size + 1, 0, none⟩), .pointer (some ⟨Bx, 0, none⟩), .agg #[.int .i64 f.op, .int .i64 f.n, .slice a3 f.inn.length c3, .slice a4 f.kids.length c4], .int .i64 f.size, .bool false, .bool false, .agg #[.int .i64 f.op, .int .i64 f.n, .slice a3 f.inn.length c3, .slice a4 f.kids.length c4], .int .i64 f.deep, .bool false, .bool false, .agg #[.int .i64 f.op, .int .i64 f.n, .slice a3 f.inn.length c3, .slice a4 f.kids.length c4], .func (.func 65) #[] #[.pointer (some ⟨w2.heap.size, 0, none⟩)], .agg x.1.1.toArray, undef, undef, undef])) (NodeA.from _ _) ?assign ?body ?done ?stop
  case hI =>
    rintro pre A B row ⟨h1, h2, h3⟩ hg hr
    exact ⟨own_keptF h1 hg fun r e => (hr r e).2, h2.grown hg fun r e => Nat.le_trans (by omega) (hr r e).1, h3⟩
  case hIx =>
    rintro c pre A B row ⟨h0, h1, h2, h3⟩ hg hr
    exact ⟨h0, own_keptF h1 hg fun r e => (hr r e).2, h2.grown hg fun r e => Nat.le_trans (by omega) (hr r e).1, h3⟩
  case assign =>
    rintro l pre ⟨⟨cs, g⟩, hg⟩ W K ⟨hI1, hI2, hI3⟩ hK
    replace hg : FmR (ph w) cs g := hg
    obtain ⟨b3, d3, b4, d4, rfl, -⟩ := hg.form
    unfold fmC at *
    have hk1 := Kx.ext (n₀ := w.heap.size) (Bo := w.heap.size + 1) (Ext.new W (.cells #[.int .i64 g.op, .int .i64 g.n, .slice b3 g.inn.length d3, .slice b4 g.kids.length d4] 39)) hI1.lt hI2.size
    have hI4 := hI1.alloc (.cells #[.int .i64 g.op, .int .i64 g.n, .slice b3 g.inn.length d3, .slice b4 g.kids.length d4] 39)
    have hI5 := hI2.alloc' (.cells #[.int .i64 g.op, .int .i64 g.n, .slice b3 g.inn.length d3, .slice b4 g.kids.length d4] 39)
    have h1 := (KeepsOthers.alloc W (.cells #[.int .i64 g.op, .int .i64 g.n, .slice b3 g.inn.length d3, .slice b4 g.kids.length d4] 39)).from W0.heap.size
    have h4 := Proofs.YtcbmgajaaechjaaGreat.Own.new W #[.int .i64 g.op, .int .i64 g.n, .slice b3 g.inn.length d3, .slice b4 g.kids.length d4] 39
    have h5 : W.heap.size < (W.alloc (.cells #[.int .i64 g.op, .int .i64 g.n, .slice b3 g.inn.length d3, .slice b4 g.kids.length d4] 39)).heap.size := by simp
    gi_wp2
    generalize W.heap.size = Bx at *
    exact hK _ _ h1 hk1 ⟨hI4, hI5, hI3⟩ ⟨Bx, h5, h4, rfl⟩
  case body =>
    rintro l pre ⟨⟨cs, g⟩, hg⟩ a' W hl ⟨r, hrr⟩ ⟨hI1, hI2, hI3⟩ ⟨Bx, hBx, oX, rfl⟩ hlt
    replace hg : FmR (ph w) cs g := hg
    have hg' := hg
    obtain ⟨b3, d3, b4, d4, rfl, -⟩ := hg.form
    unfold fmC at *
    obtain ⟨cX, -⟩ := oX.facts
    have hgR := mono_FmR _ _ _ _ hI2.ple hg'
    have hsz2 := hI2.size
    clear hg hr hr' hO1 hO2
    gi_wp2
    refine ⟨trivial, CallsIn.inRound l (callsIn_wide.2 (RetV_at (formed_c g _ _ hgR) ?_))⟩
    intro W2 hx2
    have hk2 := Kx.ext (n₀ := w.heap.size) (Bo := w.heap.size + 1) hx2 hI1.lt hsz2
    have hko : KeepsOthers W W2 := KeepsOthers.of_grownBy (Ext.grownG' hx2 none) (fun j o e => by cases e)
    replace hI1 := hI1.keep hx2
    replace hI2 := hI2.then hx2
    obtain ⟨e1, e2⟩ := hI1.facts
    have e1' : _ = some (Value.int .i64 0) := e1 0
    have e2' := e2 0
    have hlt3 := hI1.lt
    cases hF : formed1 g with
    | true =>
      gi_wp2
      exact ⟨hko.from _, hk2, hI1, hI2, fun x hx => by
        rcases List.mem_append.1 hx with hx | hx
        · exact hI3 x hx
        · rw [List.mem_singleton.1 hx]; exact hF⟩
    | false =>
      gi_wp2
      refine ⟨(hko.trans (KeepsOthers.setCell _ _ _)).from _, rfl, ?_, hI2.set' (p := ⟨w.heap.size + 1, 0, none⟩) (by simp) _, _, List.mem_append_right _ (List.mem_singleton.2 rfl), hF⟩
      have := hI1.set 0 (.int .i64 1)
      simpa using this
  case stop =>
    rintro D c pre W hD hpre ⟨rfl, o5, hx5, x, hxm, hb⟩ hK
    have hv2 : Hid (validF f = 1) := by
      show _ = _
      have hn : wholeB f = false := by
        rw [wholeB_all, List.all_eq_false]
        exact ⟨_, hpre.subset (List.mem_map.2 ⟨x, hxm, rfl⟩), by rw [hb]; simp⟩
      rw [hv.out, hn]; rfl
    have b5 := belowK_b (w := W0) (Nat.le_refl _) W D _ (.deferred none) hD hK rfl rfl
    have r0 := (b5.cell (p := ⟨w.heap.size + 1, 0, none⟩) hO1.lt).trans (o5.facts.1 0)
    simp only [List.getElem?_toArray, List.getElem?_cons_zero] at r0
    clear hr hr' hO1 hO2
    gi_wp2
    go_wp2_with fail
    refine ⟨by simp, .inl ⟨_, _, rfl, run_takeDeferred hK, ?_⟩⟩
    exact ⟨.int .i64 1, by simp [results, Tryz.results17, go_sem, r0], by rw [hv2.out]; exact ⟨rfl, hx5.trans (b5.mono (by omega))⟩⟩
  case done =>
    rintro D zs W hD hz ⟨o5, hx5, hok⟩ hK
    have hv2 : Hid (validF f = 0) := by
      show _ = _
      have hn : wholeB f = true := by
        rw [wholeB_all, ← hz, List.all_eq_true]
        intro y hy
        obtain ⟨x, hx, rfl⟩ := List.mem_map.1 hy
        exact hok x hx
      rw [hv.out, hn]; rfl
    obtain ⟨e1, e2⟩ := o5.facts
    have e1' : _ = some (Value.int .i64 0) := e1 0
    have e2' := e2 0
    have hlt5 := o5.lt
    have o6 := o5.set 0 (.int .i64 0)
    have hK6 : (W.setCell ⟨w.heap.size + 1, 0, none⟩ (.int .i64 0)).heap[D]? = some (.deferred (some [])) := (KeepsOthers.setCell _ _ _).same D _ hK rfl
    have hx6 : Ext w (W.setCell ⟨w.heap.size + 1, 0, none⟩ (.int .i64 0)) := hx5.set' (p := ⟨w.heap.size + 1, 0, none⟩) (by simp) _
    have b5 := belowK_b (w := W0) (Nat.le_refl _) _ D _ (.deferred none) hD hK6 rfl rfl
    have r0 := (b5.cell (p := ⟨w.heap.size + 1, 0, none⟩) hO1.lt).trans (o6.facts.1 0)
    simp at r0
    clear hr hr' hO1 hO2 hz
    gi_wp2
    go_wp2_with fail
    refine ⟨by simp, .inl ⟨_, _, rfl, run_takeDeferred hK6, ?_⟩⟩
    exact ⟨.int .i64 0, by simp [results, Tryz.results17, go_sem, r0], by rw [hv2.out]; exact ⟨rfl, hx6.trans (b5.mono (by omega))⟩⟩
theorem fvalid_c (f : Fm) (cs : List Value) (w : World) (hr : FmR (ph w) cs f) (hs : f.bulk ≤ 900000) : Calls Tryz.prog 17 #[.agg cs.toArray] w (RetV w (.int .i64 (validF f))) := (callsIn_wide (n := 7)).1 (fvalid_in f cs w hr hs)
end Go.Proofs.YtcbmgajaaechjaaGreat
