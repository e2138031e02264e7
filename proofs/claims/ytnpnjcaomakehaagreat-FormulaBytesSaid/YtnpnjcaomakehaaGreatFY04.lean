/- Lemmas for FY, part 5: package formula: Valid, and more. -/
import Derived.Maps.OwnSet
import Derived.Deep.CutBlock
import Derived.Test.YtnpnjcaomakehaaGreatFY00
import Derived.Test.YtnpnjcaomakehaaGreatFY01
import Derived.Test.YtnpnjcaomakehaaGreatFY02
import Derived.Test.YtnpnjcaomakehaaGreatFY03
set_option linter.unusedSimpArgs false
set_option linter.unusedVariables false
namespace Go.Proofs.YtnpnjcaomakehaaGreat
open Go.RowKit Go.Shelf
attribute [local go_sem] Oper.semAt_some
theorem wholeB_all (f : Fm) : wholeB f = f.pre.all formed1 := rfl
def NodeA {H : PH} (tm : FmA H → Nat → Array Value) (x : FmA H) (a' : Act) (W : World) : Prop :=
  ∃ Bx, Bx < W.heap.size ∧ Own W Bx x.1.1.toArray 50 ∧ a' = { tmps := tm x Bx, defers := [] }
theorem NodeA.from {H : PH} (tm : FmA H → Nat → Array Value) (B : Nat) (x : FmA H) (a' : Act) : OwnFrom B (fun (_ : Unit) W => NodeA tm x a' W) := by
  rintro _ A C row ⟨Bx, h1, h2, h3⟩ hg hr
  exact ⟨Bx, Nat.lt_of_lt_of_le h1 hg.size, own_keptF h2 hg fun r e => (hr r e).2, h3⟩
theorem Ext.grownG' {w w' : World} (e : Ext w w') (r : Option Nat) : w.grownBy w' r := ⟨e.os, e.tape, e.output, e.size, fun k hk _ => e.block k hk⟩
set_option maxRecDepth 100000 in
set_option maxHeartbeats 2000000 in
theorem fvalid_in (f : Fm) (cs : List Value) (w : World) (hr : FmR (ph w) cs f) (hs : f.bulk ≤ 900000) : CallsIn Fence.wide 7 Tryz.prog 25 #[.agg cs.toArray] w (RetV w (.int .i64 (validF f))) := by
  have hr' := hr
  obtain ⟨a3, c3, a4, c4, rfl, -⟩ := hr.form
  unfold fmC at hr' ⊢
  have hs1 := f.size_le_bulk
  have hs2 := f.deep_le_size
  refine callsIn_of_wp_marks Tryz.func25 rfl trivial ?_ rfl
  simp only [Tryz.ntmps25, List.size_toArray, List.length_cons, List.length_nil, Nat.reduceAdd, Nat.reduceSub, Array.replicate_succ, Array.replicate_zero, List.push_toArray, List.append_toArray, List.nil_append, List.cons_append]
  refine wpIn_wide.2 ?_
  go_wp2_with fail
  refine RetV_at (fsize_c f _ _ (mono_FmR _ _ _ _ (Ext.ple xE) hr') (by omega)) ?_
  intro w1 hx1
  have ho : Own w1 w.heap.size #[.int .i64 f.op, .int .i64 f.n, .slice a3 f.inn.length c3, .slice a4 f.kids.length c4] 50 := oE
  have hoE : Own w1 (w.heap.size + 1) #[.int .i64 0] 28 := oE
  have hx : Ext w w1 := xE
  clear hx1
  obtain ⟨hoc, hof⟩ := ho.facts
  obtain ⟨hec, hef⟩ := hoE.facts
  have hlt := hoE.lt
  by_cases hS : 96 < f.size
  · have hv : Hid (validF f = 4) := by show _ = _; unfold validF; rw [if_pos (.inl hS)]
    have b1 : decide (96 < (f.size : Int)) = true := by simp; omega
    go_wp2_with fail
    have o3 := hoE.set 0 (.int .i64 4)
    have q : _ = some (Value.int .i64 4) := o3.facts.1 0
    exact ⟨.int .i64 4, by simp [results, Tryz.results25, go_sem, q], by rw [hv.out]; exact ⟨rfl, hx.set' (p := ⟨w.heap.size + 1, 0, none⟩) (by simp) _⟩⟩
  have b1 : decide (96 < (f.size : Int)) = false := by simp; omega
  go_wp2_with fail
  refine RetV_at (fdeep_c f _ _ (mono_FmR _ _ _ _ (Ext.ple xE) hr') (by omega)) ?_
  intro w2 hx2
  replace ho := ho.keep hx2
  replace hoE := hoE.keep hx2
  replace hx : Ext w w2 := xE
  clear hx2 hoc hof hec hef hlt
  obtain ⟨hoc, hof⟩ := ho.facts
  obtain ⟨hec, hef⟩ := hoE.facts
  have hlt := hoE.lt
  by_cases hD : 8 < f.deep
  · have hv : Hid (validF f = 4) := by show _ = _; unfold validF; rw [if_pos (.inr hD)]
    have b2 : decide (8 < (f.deep : Int)) = true := by simp; omega
    go_wp2_with fail
    have o3 := hoE.set 0 (.int .i64 4)
    have q : _ = some (Value.int .i64 4) := o3.facts.1 0
    exact ⟨.int .i64 4, by simp [results, Tryz.results25, go_sem, q], by rw [hv.out]; exact ⟨rfl, hx.set' (p := ⟨w.heap.size + 1, 0, none⟩) (by simp) _⟩⟩
  have b2 : decide (8 < (f.deep : Int)) = false := by simp; omega
  have hv : Hid (validF f = if wholeB f then 0 else 1) := by show _ = _; unfold validF; rw [if_neg (by omega)]
  go_wp2_with fail
  refine (nodes_p f _ _ (mono_FmR _ _ _ _ (Ext.ple xE) hr')).mono ?_
  rintro e w' ⟨rfl, rfl⟩
  go_wp2_with fail
  refine (wpIn_wide (n := 7)).1 ?_
  have hO1 : Own (w2.alloc (.cells #[.int .i64 f.op, .int .i64 f.n, .slice a3 f.inn.length c3, .slice a4 f.kids.length c4] 50)) (w.heap.size + 1) #[.int .i64 0] 28 := oE
  have hO2 : Own (w2.alloc (.cells #[.int .i64 f.op, .int .i64 f.n, .slice a3 f.inn.length c3, .slice a4 f.kids.length c4] 50)) w2.heap.size #[.int .i64 f.op, .int .i64 f.n, .slice a3 f.inn.length c3, .slice a4 f.kids.length c4] 50 := Own.new _ _ _
  have hx0 : Ext w (w2.alloc (.cells #[.int .i64 f.op, .int .i64 f.n, .slice a3 f.inn.length c3, .slice a4 f.kids.length c4] 50)) := xE
  have hsz : (w2.alloc (.cells #[.int .i64 f.op, .int .i64 f.n, .slice a3 f.inn.length c3, .slice a4 f.kids.length c4] 50)).heap.size = w2.heap.size + 1 := by simp
  clear ho hoE hoc hof hec hef
  generalize w2.alloc _ = W0 at *
  have hps : f.pre.length = f.size := f.pre_len
  refine wpIn_rangeFunc_ownH rfl (by omega) (gf := 83) (lb := #[.pointer (some ⟨w2.heap.size, 0, none⟩)]) rfl trivial (enters_of Tryz.func83 (by kernel_rfl) rfl)
    (encs := fun x : FmA (ph w) => #[.agg x.1.1.toArray]) (Kp := Kx w.heap.size (w.heap.size + 1)) (S := fun ys => fmsOf ys = f.pre) (Sp := fun p => fmsOf p <+: f.pre) (N := f.pre.length)
    (w0 := W0) (nodes_seq (by omega) (Good.of hO1 rfl) hx0.ple (ph_low w) (by omega) hO2 hr') Kx.then (Kx.put (by omega) (by omega)) (Below.refl _ _) (fun _ => rfl)
    (fun pre W => Own W (w.heap.size + 1) #[.int .i64 0] 28 ∧ Ext w W ∧ ∀ x ∈ pre, formed1 (FmA.f x) = true)
    (fun c pre W => c = .ret ∧ Own W (w.heap.size + 1) #[.int .i64 1] 28 ∧ Ext w W ∧ ∃ x ∈ pre, formed1 (FmA.f x) = false)
    ?hI ?hIx ⟨hO1, hx0, by simp⟩ (NodeA (fun x Bx => #[.agg #[.int .i64 f.op, .int .i64 f.n, .slice a3 f.inn.length c3, .slice a4 f.kids.length c4], .pointer (some ⟨w.heap.size, 0, none⟩), .pointer (some ⟨w.heap.size + 1, 0, none⟩), .pointer (some ⟨Bx, 0, none⟩), .agg #[.int .i64 f.op, .int .i64 f.n, .slice a3 f.inn.length c3, .slice a4 f.kids.length c4], .int .i64 f.size, .bool false, .bool false, .agg #[.int .i64 f.op, .int .i64 f.n, .slice a3 f.inn.length c3, .slice a4 f.kids.length c4], .int .i64 f.deep, .bool false, .bool false, .agg #[.int .i64 f.op, .int .i64 f.n, .slice a3 f.inn.length c3, .slice a4 f.kids.length c4], .func (.func 83) #[] #[.pointer (some ⟨w2.heap.size, 0, none⟩)], .agg x.1.1.toArray, undef, undef, undef])) (NodeA.from _ _) ?assign ?body ?done ?stop
  case hI =>
    rintro pre A B row ⟨h1, h2, h3⟩ hg hr
    exact ⟨own_keptF h1 hg fun r e => (hr r e).2, h2.grown hg fun r e => Nat.le_trans (by omega) (hr r e).1, h3⟩
  case hIx =>
    rintro c pre A B row ⟨h0, h1, h2, h3⟩ hg hr
    exact ⟨h0, own_keptF h1 hg fun r e => (hr r e).2, h2.grown hg fun r e => Nat.le_trans (by omega) (hr r e).1, h3⟩
  case assign =>
    rintro l pre ⟨⟨cs, g⟩, hg⟩ W K ⟨hI1, hI2, hI3⟩ hK
    replace hg : FmR (ph w) cs g := hg
    obtain ⟨b3, d3, b4, d4, rfl, -⟩ := hg.form
    unfold fmC at *
    have hk1 := Kx.ext (n₀ := w.heap.size) (Bo := w.heap.size + 1) (Ext.new W (.cells #[.int .i64 g.op, .int .i64 g.n, .slice b3 g.inn.length d3, .slice b4 g.kids.length d4] 50)) hI1.lt hI2.size
    have hI4 := hI1.alloc (.cells #[.int .i64 g.op, .int .i64 g.n, .slice b3 g.inn.length d3, .slice b4 g.kids.length d4] 50)
    have hI5 := hI2.alloc' (.cells #[.int .i64 g.op, .int .i64 g.n, .slice b3 g.inn.length d3, .slice b4 g.kids.length d4] 50)
    have h1 := (KeepsOthers.alloc W (.cells #[.int .i64 g.op, .int .i64 g.n, .slice b3 g.inn.length d3, .slice b4 g.kids.length d4] 50)).from W0.heap.size
    have h4 := Proofs.YtnpnjcaomakehaaGreat.Own.new W #[.int .i64 g.op, .int .i64 g.n, .slice b3 g.inn.length d3, .slice b4 g.kids.length d4] 50
    have h5 : W.heap.size < (W.alloc (.cells #[.int .i64 g.op, .int .i64 g.n, .slice b3 g.inn.length d3, .slice b4 g.kids.length d4] 50)).heap.size := by simp
    gi_wp2
    generalize W.heap.size = Bx at *
    exact hK _ _ h1 hk1 ⟨hI4, hI5, hI3⟩ ⟨Bx, h5, h4, rfl⟩
  case body =>
    rintro l pre ⟨⟨cs, g⟩, hg⟩ a' W hl ⟨r, hrr⟩ ⟨hI1, hI2, hI3⟩ ⟨Bx, hBx, oX, rfl⟩ hlt
    replace hg : FmR (ph w) cs g := hg
    have hg' := hg
    obtain ⟨b3, d3, b4, d4, rfl, -⟩ := hg.form
    unfold fmC at *
    obtain ⟨cX, -⟩ := oX.facts
    have hgR := mono_FmR _ _ _ _ hI2.ple hg'
    have hsz2 := hI2.size
    clear hg hr hr' hO1 hO2
    gi_wp2
    refine ⟨trivial, CallsIn.inRound l (callsIn_wide.2 (RetV_at (formed_c g _ _ hgR) ?_))⟩
    intro W2 hx2
    have hk2 := Kx.ext (n₀ := w.heap.size) (Bo := w.heap.size + 1) hx2 hI1.lt hsz2
    have hko : KeepsOthers W W2 := KeepsOthers.of_grownBy (Ext.grownG' hx2 none) (fun j o e => by cases e)
    replace hI1 := hI1.keep hx2
    replace hI2 := hI2.then hx2
    obtain ⟨e1, e2⟩ := hI1.facts
    have e1' : _ = some (Value.int .i64 0) := e1 0
    have e2' := e2 0
    have hlt3 := hI1.lt
    cases hF : formed1 g with
    | true =>
      gi_wp2
      exact ⟨hko.from _, hk2, hI1, hI2, fun x hx => by
        rcases List.mem_append.1 hx with hx | hx
        · exact hI3 x hx
        · rw [List.mem_singleton.1 hx]; exact hF⟩
    | false =>
      gi_wp2
      refine ⟨(hko.trans (KeepsOthers.setCell _ _ _)).from _, rfl, ?_, hI2.set' (p := ⟨w.heap.size + 1, 0, none⟩) (by simp) _, _, List.mem_append_right _ (List.mem_singleton.2 rfl), hF⟩
      have := hI1.set 0 (.int .i64 1)
      simpa using this
  case stop =>
    rintro D c pre W hD hpre ⟨rfl, o5, hx5, x, hxm, hb⟩ hK
    have hv2 : Hid (validF f = 1) := by
      show _ = _
      have hn : wholeB f = false := by
        rw [wholeB_all, List.all_eq_false]
        exact ⟨_, hpre.subset (List.mem_map.2 ⟨x, hxm, rfl⟩), by rw [hb]; simp⟩
      rw [hv.out, hn]; rfl
    have b5 := belowK_b (w := W0) (Nat.le_refl _) W D _ (.deferred none) hD hK rfl rfl
    have r0 := (b5.cell (p := ⟨w.heap.size + 1, 0, none⟩) hO1.lt).trans (o5.facts.1 0)
    simp only [List.getElem?_toArray, List.getElem?_cons_zero] at r0
    clear hr hr' hO1 hO2
    gi_wp2
    go_wp2_with fail
    refine ⟨by simp, .inl ⟨_, _, rfl, run_takeDeferred hK, ?_⟩⟩
    exact ⟨.int .i64 1, by simp [results, Tryz.results25, go_sem, r0], by rw [hv2.out]; exact ⟨rfl, hx5.trans (b5.mono (by omega))⟩⟩
  case done =>
    rintro D zs W hD hz ⟨o5, hx5, hok⟩ hK
    have hv2 : Hid (validF f = 0) := by
      show _ = _
      have hn : wholeB f = true := by
        rw [wholeB_all, ← hz, List.all_eq_true]
        intro y hy
        obtain ⟨x, hx, rfl⟩ := List.mem_map.1 hy
        exact hok x hx
      rw [hv.out, hn]; rfl
    obtain ⟨e1, e2⟩ := o5.facts
    have e1' : _ = some (Value.int .i64 0) := e1 0
    have e2' := e2 0
    have hlt5 := o5.lt
    have o6 := o5.set 0 (.int .i64 0)
    have hK6 : (W.setCell ⟨w.heap.size + 1, 0, none⟩ (.int .i64 0)).heap[D]? = some (.deferred (some [])) := (KeepsOthers.setCell _ _ _).same D _ hK rfl
    have hx6 : Ext w (W.setCell ⟨w.heap.size + 1, 0, none⟩ (.int .i64 0)) := hx5.set' (p := ⟨w.heap.size + 1, 0, none⟩) (by simp) _
    have b5 := belowK_b (w := W0) (Nat.le_refl _) _ D _ (.deferred none) hD hK6 rfl rfl
    have r0 := (b5.cell (p := ⟨w.heap.size + 1, 0, none⟩) hO1.lt).trans (o6.facts.1 0)
    simp at r0
    clear hr hr' hO1 hO2 hz
    gi_wp2
    go_wp2_with fail
    refine ⟨by simp, .inl ⟨_, _, rfl, run_takeDeferred hK6, ?_⟩⟩
    exact ⟨.int .i64 0, by simp [results, Tryz.results25, go_sem, r0], by rw [hv2.out]; exact ⟨rfl, hx6.trans (b5.mono (by omega))⟩⟩
theorem fvalid_c (f : Fm) (cs : List Value) (w : World) (hr : FmR (ph w) cs f) (hs : f.bulk ≤ 900000) : Calls Tryz.prog 25 #[.agg cs.toArray] w (RetV w (.int .i64 (validF f))) := (callsIn_wide (n := 7)).1 (fvalid_in f cs w hr hs)
end Go.Proofs.YtnpnjcaomakehaaGreat
namespace Go.Proofs.YtnpnjcaomakehaaGreat
open Go.RowKit
set_option maxHeartbeats 1000000 in
theorem rwhole_c (f : Fm) : ∀ (cs : List Value) (w : World), FmR (ph w) cs f → Calls Tryz.prog 89 #[.agg cs.toArray] w (RetV w (.bool (wholeB f))) := by
  induction f using Fm.ind with
  | h f ih =>
    intro cs w hr
    have hr' := hr
    obtain ⟨a3, c3, a4, c4, rfl, -, -, -, hlen, -, hp⟩ := hr.form
    unfold fmC at *
    have hw := Lib.hid (wholeB_eq f)
    go_enter Tryz.func89, Tryz.ntmps89
    go_wp2_with fail
    refine RetV_at (rformed_c f _ _ (mono_FmR _ _ _ _ (Ext.ple xE) hr')) ?_
    intro w1 hx1
    have ho : Own w1 w.heap.size #[.int .i64 f.op, .int .i64 f.n, .slice a3 f.inn.length c3, .slice a4 f.kids.length c4] 50 := oE
    have hx : Ext w w1 := xE
    clear hx1 hr hr'
    cases hf : formed1 f with
    | false =>
      have hv : Hid (wholeB f = false) := by show _ = _; rw [hw.out, hf]; rfl
      go_wp2_with fail
      go_ret
      exact ⟨ret_bool hv.out.symm, xE⟩
    | true =>
      have hv : Hid (wholeB f = f.kids.all wholeB) := by show _ = _; rw [hw.out, hf]; rfl
      obtain ⟨hoc, hof⟩ := ho.facts
      have H := Lib.hid ih
      clear hf hw ih
      go_wp2_with fail
      go_loopw [3] (fun i wr => ∃ k : Nat, k ≤ f.kids.length ∧ i = .int .i64 k ∧ Hid (∀ x ∈ f.kids.take k, wholeB x = true) ∧ Own wr w.heap.size #[.int .i64 f.op, .int .i64 f.n, .slice a3 f.inn.length c3, .slice a4 f.kids.length c4] 50 ∧ Ext w wr) (fun i _ => f.kids.length - (intOf i).toNat)
      case atStart => exact ⟨0, Nat.zero_le _, rfl, Lib.hid (by simp), ho, hx⟩
      case round =>
        obtain ⟨k, hk, rfl, hg, ho2, hb⟩ := hrel
        obtain ⟨hoc2, hof2⟩ := ho2.facts
        by_cases hlt : k < f.kids.length
        · have hp' := hp.mono mono_FmR hb.ple
          obtain ⟨b, o, b3, d3, b4, d4, rfl, h0, h1, h2, h3, hE, hbl⟩ := FmsR.at hp' k hlt
          unfold fmC at hE
          clear hp hp' ho hx hoc hof
          go_wp2_with fail
          refine RetV_at (H.out _ (List.getElem_mem hlt) _ _ (mono_FmR _ _ _ _ (Ext.ple xE) hE)) ?_
          intro w2 hx2
          cases hpk : wholeB f.kids[k] with
          | true =>
            have HP := Lib.hid hpk
            go_wp2_with fail
            go_roundw
            case rel => exact ⟨k + 1, by omega, by go_num, take_all hlt HP.out hg.out, oE, xE⟩
            case measure => simp [intOf]; omega
          | false =>
            have hv2 : Hid (wholeB f = false) := by
              show _ = _
              rw [hv.out, List.all_eq_false]
              exact ⟨_, List.getElem_mem hlt, by rw [hpk]; simp⟩
            go_wp2_with fail
            go_ret
            exact ⟨ret_bool hv2.out.symm, xE⟩
        · have hv2 : Hid (wholeB f = true) := by
            show _ = _
            rw [hv.out, List.all_eq_true]
            exact take_done (by omega) hg.out
          clear hp
          go_wp2_with fail
          go_ret
          exact ⟨ret_bool hv2.out.symm, xE⟩
theorem rfvalid_c (f : Fm) (cs : List Value) (w : World) (hr : FmR (ph w) cs f) (hs : f.bulk ≤ 900000) : Calls Tryz.prog 54 #[.agg cs.toArray] w (RetV w (.int .i64 (validF f))) := by
  have hr' := hr
  obtain ⟨a3, c3, a4, c4, rfl, -⟩ := hr.form
  unfold fmC at *
  have hs1 := f.size_le_bulk
  have hs2 := f.deep_le_size
  go_enter Tryz.func54, Tryz.ntmps54
  go_wp2_with fail
  refine RetV_at (rfsize_c f _ _ (mono_FmR _ _ _ _ (Ext.ple xE) hr') (by omega)) ?_
  intro w1 hx1
  have ho : Own w1 w.heap.size #[.int .i64 f.op, .int .i64 f.n, .slice a3 f.inn.length c3, .slice a4 f.kids.length c4] 50 := oE
  have hx : Ext w w1 := xE
  clear hx1
  obtain ⟨hoc, hof⟩ := ho.facts
  by_cases hS : 96 < f.size
  · have hv : Hid (validF f = 4) := by show _ = _; unfold validF; rw [if_pos (.inl hS)]
    have b1 : decide (96 < (f.size : Int)) = true := by simp; omega
    go_wp2_with fail
    go_ret
    exact ⟨ret_int hv.out.symm, xE⟩
  have b1 : decide (96 < (f.size : Int)) = false := by simp; omega
  go_wp2_with fail
  refine RetV_at (rfdeep_c f _ _ (mono_FmR _ _ _ _ (Ext.ple xE) hr') (by omega)) ?_
  intro w2 hx2
  replace ho := ho.keep hx2
  replace hx : Ext w w2 := xE
  clear hx2 hoc hof
  obtain ⟨hoc, hof⟩ := ho.facts
  by_cases hD : 8 < f.deep
  · have hv : Hid (validF f = 4) := by show _ = _; unfold validF; rw [if_pos (.inr hD)]
    have b2 : decide (8 < (f.deep : Int)) = true := by simp; omega
    go_wp2_with fail
    go_ret
    exact ⟨ret_int hv.out.symm, xE⟩
  have b2 : decide (8 < (f.deep : Int)) = false := by simp; omega
  have hv : Hid (validF f = if wholeB f then 0 else 1) := by show _ = _; unfold validF; rw [if_neg (by omega)]
  go_wp2_with fail
  refine RetV_at (rwhole_c f _ _ (mono_FmR _ _ _ _ (Ext.ple xE) hr')) ?_
  intro w3 hx3
  cases hW : wholeB f with
  | true =>
    have hv2 : Hid (validF f = 0) := by show _ = _; rw [hv.out, hW]; rfl
    go_wp2_with fail
    go_ret
    exact ⟨ret_int hv2.out.symm, xE⟩
  | false =>
    have hv2 : Hid (validF f = 1) := by show _ = _; rw [hv.out, hW]; rfl
    go_wp2_with fail
    go_ret
    exact ⟨ret_int hv2.out.symm, xE⟩
end Go.Proofs.YtnpnjcaomakehaaGreat
namespace Go.Proofs.YtnpnjcaomakehaaGreat
open Go.RowKit Go.Shelf
theorem one7_c (b : Bool) (w : World) : Calls Tryz.prog 90 #[.bool b] w (RetP w (.int .i64 (oneI b))) := by
  cases b with
  | true =>
    go_enter Tryz.func90, Tryz.ntmps90
    go_wp2_with fail
    go_ret
    exact ⟨rfl, rfl⟩
  | false =>
    go_enter Tryz.func90, Tryz.ntmps90
    go_wp2_with fail
    go_ret
    exact ⟨rfl, rfl⟩
theorem oneI_I64 (b : Bool) : I64 (oneI b) := by cases b <;> simp [oneI, I64]
def intC (l : List Int) : List Value := l.map (Value.int .i64)
theorem cells_ints {h : PH} : ∀ {l : List Int}, (∀ x ∈ l, I64 x) → Cells h IntR 1 (intC l) l
  | [], _ => rfl
  | x :: xs, hx => ⟨[.int .i64 x], intC xs, rfl, rfl, ⟨rfl, hx x (by simp)⟩, cells_ints fun y hy => hx y (by simp [hy])⟩
theorem ordI_I64 {x : Itv} (hx : x.I) : ∀ z ∈ ordI x, I64 z := by
  obtain ⟨⟨h1, h2⟩, h3, h4⟩ := hx
  intro z hz
  simp only [ordI, List.mem_cons, List.not_mem_nil, or_false] at hz
  rcases hz with rfl | rfl | rfl | rfl | rfl | rfl | rfl | rfl <;> first | exact oneI_I64 _ | assumption
theorem Src.ints {H : PH} {w : World} {g n : Nat} {l : List Int} (hl : ∀ x ∈ l, I64 x) (ho : Own w g (intC l).toArray 3) (hn : n = l.length) : Src w H IntR 1 (.slice (some ⟨g, 0, none⟩) n n) l := by
  subst hn
  refine ⟨_, _, rfl, Nat.le_refl _, .inr ⟨_, _, rfl, cells_ints hl, fun j u hu => ?_⟩⟩
  rw [add0, ho.facts.1 j]
  simpa using hu
def NewSl (W0 : World) (c : Array Value) (T : TypeId) (n : Nat) (v : Value) (w : World) : Prop := ∃ g, v = .slice (some ⟨g, 0, none⟩) n n ∧ Own w g c T ∧ W0.heap.size ≤ g
theorem stab_NewSl {W : World} (W0 : World) (c : Array Value) (T : TypeId) (n : Nat) : Stable W (NewSl W0 c T n) := fun v w w' _ ⟨g, h1, h2, h3⟩ e => ⟨g, h1, h2.keep e, h3⟩
theorem cmpZ_drop {x y : List Int} {k : Nat} (h1 : k < x.length) (h2 : k < y.length) : cmpZ (x.drop k) (y.drop k) = if x[k] < y[k] then -1 else if y[k] < x[k] then 1 else cmpZ (x.drop (k + 1)) (y.drop (k + 1)) := by
  rw [List.drop_eq_getElem_cons h1, List.drop_eq_getElem_cons h2, cmpZ]
theorem cmpZ_end {x y : List Int} {k : Nat} (h : x.length ≤ k ∨ y.length ≤ k) : cmpZ (x.drop k) (y.drop k) = 0 := by
  rcases h with h | h
  · rw [List.drop_eq_nil_of_le h]; rfl
  · rw [List.drop_eq_nil_of_le h]; cases x.drop k <;> rfl
theorem cmpFs_drop {x y : List Fm} {k : Nat} (h1 : k < x.length) (h2 : k < y.length) : cmpFs (x.drop k) (y.drop k) = if cmpF x[k] y[k] ≠ 0 then cmpF x[k] y[k] else cmpFs (x.drop (k + 1)) (y.drop (k + 1)) := by
  rw [List.drop_eq_getElem_cons h1, List.drop_eq_getElem_cons h2, cmpFs]
end Go.Proofs.YtnpnjcaomakehaaGreat
namespace Go.Proofs.YtnpnjcaomakehaaGreat
open Go.RowKit Go.Maps
section
variable {w0 w : World} {H0 H : PH} {L : List Chunk}
variable {ops : Array Oper} {rest : List Oper} {o : Oper} {a : Act} {Q : Exit → Act → World → Prop}
end
end Go.Proofs.YtnpnjcaomakehaaGreat
namespace Go.Proofs.YtnpnjcaomakehaaGreat
open Go.RowKit
theorem setE_len {l : List Itv} (h : setE l = 0) : l.length ≤ 32 := by
  have hE : setE l = if setF none l = false then 1 else if 32 < l.length then 4 else 0 := rfl
  rw [hE] at h
  split at h
  · cases h
  · split at h
    · cases h
    · omega
theorem formed_inn {f : Fm} (h : formed1 f = true) : f.inn.length ≤ 32 := by
  obtain ⟨op, n, inn, kids⟩ := f
  rw [formed1_mk] at h
  simp only [Fm.inn]
  split at h
  · cases h
  · rename_i h1
    by_cases h2 : op = 2
    · subst h2
      simp at h
      exact setE_len h.2
    · have : inn = [] := by
        cases inn with
        | nil => rfl
        | cons x xs => exact absurd (.inl ⟨h2, by simp⟩) h1
      rw [this]; simp
theorem whole_bulk (f : Fm) (h : wholeB f = true) : f.bulk ≤ 33 * f.size := by
  induction f using Fm.ind with
  | h f ih =>
    rw [wholeB_eq, Bool.and_eq_true, List.all_eq_true] at h
    have h1 := formed_inn h.1
    have h2 : sumN Fm.bulk f.kids ≤ 33 * sumN Fm.size f.kids := by
      have : ∀ l : List Fm, (∀ x ∈ l, x.bulk ≤ 33 * x.size) → sumN Fm.bulk l ≤ 33 * sumN Fm.size l := by
        intro l
        induction l with
        | nil => intro _; simp [sumN]
        | cons x xs ih2 =>
          intro hx
          have h3 := hx x (by simp)
          have h4 := ih2 fun y hy => hx y (by simp [hy])
          simp only [sumN]; omega
      exact this _ fun x hx => ih x hx (h.2 x hx)
    rw [Fm.bulk_eq, Fm.size_eq]; omega
theorem valid_bulk {f : Fm} (h : validF f = 0) : f.bulk ≤ 3168 := by
  obtain ⟨h1, h2, h3⟩ := validF_0 h
  have := whole_bulk f h3
  omega
theorem infoFm : (Tryz.prog.info? 50).map (fun i => (i.zero, i.size, i.bytes)) = some (some (.agg #[.int .i64 0, .int .i64 0, .slice none 0 0, .slice none 0 0]), 4, 64) := by kernel_rfl
theorem one_FmR {h : PH} : ∀ cs x, FmR h cs x → ∀ u ∈ cs, u.oneCell' = true := by
  intro cs x hr u hu
  obtain ⟨a3, c3, a4, c4, rfl, -⟩ := hr.form
  simp only [fmC, List.mem_cons, List.not_mem_nil, or_false] at hu
  rcases hu with rfl | rfl | rfl | rfl <;> rfl
abbrev fmV (f : Fm) (a3 : Option Addr) (c3 : Nat) (a4 : Option Addr) (c4 : Nat) : Value := .agg #[.int .i64 f.op, .int .i64 f.n, .slice a3 f.inn.length c3, .slice a4 f.kids.length c4]
abbrev zeroFv : Value := .agg #[.int .i64 0, .int .i64 0, .slice none 0 0, .slice none 0 0]
theorem noF_R (H : PH) : FmR H (fmC noF none 0 none 0) noF := FmR.of (by simp [noF, Fm.op, I64]) (by simp [noF, Fm.n, I64]) (SliceRep.nil _ _ _) (SliceRep.nil _ _ _)
end Go.Proofs.YtnpnjcaomakehaaGreat
namespace Go.Proofs.YtnpnjcaomakehaaGreat
open Go.RowKit
end Go.Proofs.YtnpnjcaomakehaaGreat
namespace Go.Proofs.YtnpnjcaomakehaaGreat
open Go.RowKit
theorem Mem.set4 {w0 w : World} {H0 H : PH} {L : List Chunk} (h : Mem w0 H0 L H w) (i : Nat) {b : Nat} {a0 a1 a2 a3 : Value} {T : TypeId} (hi : L[i]? = some (Proofs.YtnpnjcaomakehaaGreat.box b #[a0, a1, a2, a3] T)) (p q r s : Value) :
    Mem w0 H0 (L.set i (Proofs.YtnpnjcaomakehaaGreat.box b #[p, q, r, s] T)) H ((((w.setCell ⟨b, 0, none⟩ p).setCell ⟨b, 1, none⟩ q).setCell ⟨b, 2, none⟩ r).setCell ⟨b, 3, none⟩ s) := by
  have hil : i < L.length := (List.getElem?_eq_some_iff.1 hi).1
  have h1 := h.set i hi 0 p
  have h2 := h1.set i (List.getElem?_set_self hil) 1 q
  rw [List.set_set] at h2
  have h3 := h2.set i (List.getElem?_set_self hil) 2 r
  rw [List.set_set] at h3
  have h4 := h3.set i (List.getElem?_set_self hil) 3 s
  rw [List.set_set] at h4
  simpa using h4
def MemG (ws : World) (g : Nat) (c : Array Value) (T : TypeId) (L : List Chunk) (H : PH) (w : World) : Prop :=
  ∃ w0 : World, w0.heap.size = ws.heap.size ∧ g < ws.heap.size ∧ Own w g c T ∧ Mem w0 noH L H w ∧ ws.grownBy w (some g)
theorem grownBy_rfl (w : World) (r : Option Nat) : w.grownBy w r := ⟨rfl, rfl, rfl, Nat.le_refl _, fun _ _ _ => rfl⟩
theorem Ext.grownG {w w' : World} (e : Ext w w') (r : Option Nat) : w.grownBy w' r := ⟨e.os, e.tape, e.output, e.size, fun k hk _ => e.block k hk⟩
theorem MemG.start {ws : World} {g : Nat} {c : Array Value} {T : TypeId} (h : Own ws g c T) : MemG ws g c T [] noH ws := ⟨ws, rfl, h.lt, h, Mem.start ws noH (noH_le _), grownBy_rfl _ _⟩
section
variable {ws w w' : World} {g : Nat} {c c' : Array Value} {T : TypeId} {L L' : List Chunk} {H H' : PH}
theorem MemG.lt (h : MemG ws g c T L H w) : g < ws.heap.size := by obtain ⟨w0, h1, h2, h3, h4⟩ := h; exact h2
theorem MemG.own (h : MemG ws g c T L H w) : Own w g c T := by obtain ⟨w0, h1, h2, h3, h4⟩ := h; exact h3
theorem MemG.size (h : MemG ws g c T L H w) : ws.heap.size ≤ w.heap.size := by obtain ⟨w0, h1, h2, h3, h4, h5⟩ := h; exact h5.size
theorem MemG.grown (h : MemG ws g c T L H w) : ws.grownBy w (some g) := by obtain ⟨w0, h1, h2, h3, h4, h5⟩ := h; exact h5
theorem MemG.step (h : MemG ws g c T L H w) (f : ∀ w0, w0.heap.size = ws.heap.size → Mem w0 noH L H w → Mem w0 noH L' H' w') : MemG ws g c T L' H' w' := by
  obtain ⟨w0, h1, h2, h3, h4, h5⟩ := h
  have hM := f w0 h1 h4
  have hs : ∀ k, k < w0.heap.size → w'.heap[k]? = w.heap[k]? := fun k hk => by rw [hM.ex.block k hk, h4.ex.block k hk]
  refine ⟨w0, h1, h2, ?_, hM, ?_⟩
  · unfold Own at *; rw [hs g (by omega)]; exact h3
  · have := hM.ex.size
    refine ⟨?_, ?_, ?_, by omega, fun k hk hr => ?_⟩
    · rw [← h5.os, h4.ex.os, hM.ex.os]
    · rw [← h5.tape, h4.ex.tape, hM.ex.tape]
    · rw [← h5.output, h4.ex.output, hM.ex.output]
    · rw [hs k (by omega)]; exact h5.block k hk hr
theorem MemG.call (h : MemG ws g c T L H w) (e : w.grownBy w' (some g)) (ho : Own w' g c' T) : MemG ws g c' T L (up H w w') w' := by
  obtain ⟨w0, h1, h2, h3, hM, h5⟩ := h
  have hgl' : g < w'.heap.size := ho.lt
  have hne : ∀ {i : Nat} {c : Chunk}, L[i]? = some c → ∀ k, c.foot = some k → k ≠ g := fun hi k hk => by have := (hM.fr _ _ hi k hk).1; omega
  have hHg : ∀ k o, H k = some o → w0.heap.size ≤ k := by
    intro k o hk
    have := hM.ub k o hk
    unfold up at this
    split at this
    · cases this
    · omega
  have eb : ∀ k, k < w.heap.size → k ≠ g → w'.heap[k]? = w.heap[k]? := fun k hk hn => e.block k hk (fun h => hn (Option.some.inj h))
  refine ⟨{ w0 with heap := w0.heap.setIfInBounds g w'.heap[g] }, by simpa using h1, h2, ho, ?_, h5.trans e⟩
  have hex : Ext { w0 with heap := w0.heap.setIfInBounds g w'.heap[g] } w' := by
    refine ⟨e.os.trans hM.ex.os, e.tape.trans hM.ex.tape, e.output.trans hM.ex.output, by simpa using Nat.le_trans hM.ex.size e.size, fun k hk => ?_⟩
    have hk' : k < w0.heap.size := by simpa using hk
    show w'.heap[k]? = (w0.heap.setIfInBounds g w'.heap[g])[k]?
    by_cases hkg : g = k
    · subst hkg
      rw [Array.getElem?_setIfInBounds_self_of_lt hk']; simp [hgl']
    · rw [Array.getElem?_setIfInBounds_ne hkg, eb k (Nat.lt_of_lt_of_le hk' hM.ex.size) (fun h => hkg h.symm)]
      exact hM.ex.block k hk'
  have hl : PLe H (up H w w') := ple_up hM.ple
  refine ⟨noH_le _, noH_le _, fun k o hk => ?_, hex, fun i c hi => c.mono (c.loc (hM.ok i c hi) fun k hk => eb k (hM.lt hi hk) (hne hi k hk)) hl, fun i c hi k hk => ⟨by simpa using (hM.fr i c hi k hk).1, up_none (hM.fr i c hi k hk).2 (hM.lt hi hk)⟩, hM.ap⟩
  unfold up at hk ⊢
  split at hk
  · have h1 := hM.ub k o hk
    have h2 := hHg k o hk
    unfold up at h1
    rw [if_neg (by omega)] at h1
    rw [if_neg (by simp; omega)]
    show w'.heap[k]? = some o
    rw [eb k (ph_lt h1) (by omega)]; exact h1
  · have := hM.ex.size
    rw [if_neg (by simp; omega)]; exact hk
theorem MemG.set (h : MemG ws g c T L H w) (j : Nat) (u : Value) : MemG ws g (c.setIfInBounds j u) T L H (w.setCell ⟨g, j, none⟩ u) := by
  have hg : w.grownBy (w.setCell ⟨g, j, none⟩ u) (some g) := ⟨rfl, rfl, rfl, by simp, fun k hk hn => Below.heap_setCell _ _ _ _ (fun e => hn (by rw [e]))⟩
  have h2 := h.call hg (h.own.set j u)
  obtain ⟨w0, h1, h3, h4, hM, h5⟩ := h2
  refine ⟨w0, h1, h3, h4, ?_, h5⟩
  have hl : PLe H (up H w (w.setCell ⟨g, j, none⟩ u)) := ple_up (by obtain ⟨_, _, _, _, hM0, _⟩ := h; exact hM0.ple)
  obtain ⟨w1, k1, k2, k3, hM1, k5⟩ := h
  refine ⟨hM.l0, noH_le _, hl.trans hM.ub, hM.ex, fun i d hi => ?_, fun i d hi k hk => ?_, hM.ap⟩
  · exact d.loc (hM1.ok i d hi) fun k hk => Below.heap_setCell _ _ _ _ (fun e => by have := (hM1.fr i d hi k hk).1; dsimp only at e; omega)
  · have := hM1.fr i d hi k hk; exact ⟨by omega, this.2⟩
end
end Go.Proofs.YtnpnjcaomakehaaGreat
namespace Go.Proofs.YtnpnjcaomakehaaGreat
open Go.RowKit Go.Shelf
def pickV (l : List Int) (i m : Int) : Int := if i < 0 then 0 else (l[i.toNat]?.map fun x => aroundV x m).getD 0
def RetOf (w : World) (lo hi v : Int) (e : Ending) (w' : World) : Prop := e = .returned (.int .i64 v) ∧ lo ≤ v ∧ v < hi ∧ Ext w w'
theorem pickF_c (l : List Int) (vl : Value) (i m : Int) (w : World) (hl : IntsR (ph w) vl l) (hi : I64 i) (hm : 0 < m) (hm' : m ≤ 9223372036854775807) :
    Calls Tryz.prog 27 #[vl, .int .i64 i, .int .i64 m] w (RetOf w 0 m (pickV l i m)) := by
  obtain ⟨a, c, rfl, hll, hl⟩ := hl.form
  have hi' := hi
  unfold I64 at hi'
  by_cases h0 : i < 0
  · clear hl
    have hp : pickV l i m = 0 := by unfold pickV; rw [if_pos h0]
    rw [hp]
    clear hp
    go_enter Tryz.func27, Tryz.ntmps27
    go_wp2_with fail
    go_ret
    exact ⟨rfl, by omega, by omega, xE⟩
  · by_cases h1 : i < l.length
    · obtain ⟨k, rfl⟩ : ∃ k : Nat, i = k := ⟨i.toNat, by omega⟩
      obtain ⟨b, o, rfl, h2, h3, hbl⟩ := IntsR.at hl k (by omega)
      have hp : pickV l k m = aroundV l[k] m := by unfold pickV; rw [if_neg h0, Int.toNat_natCast, List.getElem?_eq_getElem (by omega)]; rfl
      rw [hp]
      clear hp
      generalize l[k] = x at *
      have hr := aroundV_range h3 hm
      clear hl
      go_enter Tryz.func27, Tryz.ntmps27
      go_wp2_with fail
      refine (around_c x m _ h3 hm hm').mono ?_
      rintro e w1 ⟨rfl, hb1⟩
      generalize aroundV x m = r at *
      go_wp2_with fail
      go_ret
      exact ⟨rfl, hr.1, hr.2, xE⟩
    · clear hl
      have hp : pickV l i m = 0 := by unfold pickV; rw [if_neg h0, List.getElem?_eq_none (by omega)]; rfl
      rw [hp]
      clear hp
      go_enter Tryz.func27, Tryz.ntmps27
      go_wp2_with fail
      go_ret
      exact ⟨rfl, by omega, by omega, xE⟩
theorem MemG.ub {ws w : World} {g : Nat} {c : Array Value} {T : TypeId} {L : List Chunk} {H : PH} (h : MemG ws g c T L H w) : PLe H (Proofs.YtnpnjcaomakehaaGreat.up noH ws w) := by
  obtain ⟨w0, h1, h2, h3, h4, h5⟩ := h
  intro k o hk
  have := h4.ub k o hk
  unfold Proofs.YtnpnjcaomakehaaGreat.up at this ⊢
  rw [h1] at this
  exact this
theorem MemG.ple {ws w : World} {g : Nat} {c : Array Value} {T : TypeId} {L : List Chunk} {H : PH} (h : MemG ws g c T L H w) : PLe H (ph w) := by
  obtain ⟨w0, h1, h2, h3, h4, h5⟩ := h; exact h4.ple
theorem MemG.box {ws w : World} {g : Nat} {c : Array Value} {T : TypeId} {L : List Chunk} {H : PH} (h : MemG ws g c T L H w) (i : Nat) {b : Nat} {c' : Array Value} {T' : TypeId} (hi : L[i]? = some (Proofs.YtnpnjcaomakehaaGreat.box b c' T')) : Own w b c' T' := by
  obtain ⟨w0, h1, h2, h3, h4, h5⟩ := h; exact h4.box i hi
theorem PLe.grownG {Hl : PH} {w w' : World} {g : Nat} (h : PLe Hl (ph w)) (e : w.grownBy w' (some g)) (hg : Hl g = none) : PLe Hl (ph w') := by
  intro k o hk
  show w'.heap[k]? = some o
  rw [e.block k (ph_lt (h k o hk)) (fun e => by cases e; rw [hg] at hk; cases hk)]
  exact h k o hk
abbrev mkA (vl : Value) (at' cl lf : Int) : Array Value := #[vl, .int .i64 at', .int .i64 cl, .int .i64 lf]
def NextP (w : World) (g : Nat) (l : List Int) (vl : Value) (at' cl lf n : Int) (e : Ending) (w' : World) : Prop :=
  ∃ r, e = .returned (.int .i64 r) ∧ r = pickV l at' n ∧ 0 ≤ r ∧ r < n ∧ w.grownBy w' (some g) ∧ Own w' g (mkA vl (at' + 1) cl lf) 115
set_option maxRecDepth 100000 in
theorem mnext_c {Hl : PH} (l : List Int) (vl : Value) (g : Nat) (at' cl lf n : Int) (w : World) (hl : PLe Hl (ph w)) (hr : IntsR Hl vl l) (hg : Hl g = none) (ho : Own w g (mkA vl at' cl lf) 115) (h0 : 0 ≤ at') (h1 : at' ≤ 1000000) (hn : 0 < n) (hn' : n ≤ 9223372036854775807) :
    Calls Tryz.prog 109 #[.pointer (some ⟨g, 0, none⟩), .int .i64 n] w (NextP w g l vl at' cl lf n) := by
  obtain ⟨a, c, rfl, hll, hr⟩ := hr.form
  obtain ⟨kc, kf⟩ := ho.facts
  have k0 : _ = some (Value.slice a l.length c) := kc 0
  have k1 : _ = some (Value.int .i64 at') := kc 1
  have f1 := kf 1
  have hgl := ho.lt
  have hg1 : w.grownBy (w.setCell ⟨g, 1, none⟩ (.int .i64 (at' + 1))) (some g) := ⟨rfl, rfl, rfl, by simp, fun k hk hn => Below.heap_setCell _ _ _ _ (fun e => hn (by rw [e]))⟩
  have ho1 := ho.set 1 (.int .i64 (at' + 1))
  simp only [List.setIfInBounds_toArray, List.set_cons_succ, List.set_cons_zero] at ho1
  have hl1 := hl.grownG hg1 hg
  clear kc kf
  go_enter Tryz.func109, Tryz.ntmps109
  go_wp2_with fail
  generalize w.setCell _ _ = W at *
  clear k0 k1 f1 hgl
  obtain ⟨kc, kf⟩ := ho1.facts
  have k0 : _ = some (Value.slice a l.length c) := kc 0
  have k1 : _ = some (Value.int .i64 (at' + 1)) := kc 1
  have hgl := ho1.lt
  have hp := Lib.hid (fun W' (hW : Ext W W') => pickF_c l (.slice a l.length c) at' n W' ((hr.mono mono_IntR (hl1.trans hW.ple))) (by unfold I64; omega) hn hn')
  have hq : IntKind.i64.wrap at' = at' := by rw [IntKind.wrap_i64]; omega
  clear hr kc kf
  (refine wp_region_I 11 (by kernel_rfl) (by kernel_rfl) ?_; simp only [List.toList_toArray, List.take_succ_cons, List.take_zero, List.drop_succ_cons, List.drop_zero])
  iterate 10 (refine wiA rfl (by simp) rfl ?_; (try simp only [List.nil_append, List.cons_append]))
  (refine walkI_step (fun v w' => v = .int .i64 (pickV l at' n) ∧ 0 ≤ pickV l at' n ∧ pickV l at' n < n) rfl (by simp) rfl (fun v a b _ h e => h) ?_ ?_; (focus (intro A w' hS hA K hK; (simp only [List.map_cons, List.map_nil, knows, Is, Op.operands, Call.operands, List.lookup_cons, List.lookup_nil, Nat.reduceBEq, Bool.false_eq_true, if_false, if_true, Act.eval, Array.getD_eq_getD_getElem?, List.getElem?_toArray, List.getElem?_cons_succ, List.getElem?_cons_zero, Option.getD_some, and_true, true_and, List.append_toArray, List.nil_append, List.cons_append, List.toList_toArray, Array.toList_append, Option.toArray, List.append_nil] at hA); (go_simp; refine (hp.out _ hS).mono ?_; rintro e w5 ⟨rfl, h5, h6, h7⟩; exact hK _ _ h7 ⟨rfl, h5, h6⟩))); (try simp only [List.nil_append, List.cons_append]))
  (refine walkI_nil ?_; simp only [List.nil_append, List.cons_append, fins, Is, forall_eq, Act.put, List.setIfInBounds_toArray, List.set_cons_zero, List.set_cons_succ])
  rintro w2 hx2 v ⟨rfl, h5, h6⟩
  go_wp2_with fail
  go_ret
  exact ⟨_, rfl, rfl, h5, h6, hg1.trans (hx2.grownG _), ho1.keep hx2⟩
end Go.Proofs.YtnpnjcaomakehaaGreat
namespace Go.Proofs.YtnpnjcaomakehaaGreat
open Go.RowKit Go.Shelf
def wholeN (cl : Int) (f : Fm) : Bool := f.pre.all fun g => formed1 g && (!decide (g.op = 1) || decide (g.n < cl))
theorem wholeN_eq (cl : Int) (f : Fm) : wholeN cl f = ((formed1 f && (!decide (f.op = 1) || decide (f.n < cl))) && f.kids.all (wholeN cl)) := by
  unfold wholeN
  rw [Fm.pre_eq, List.all_cons]
  congr 1
  induction f.kids with
  | nil => rfl
  | cons x xs ih => rw [List.flatMap_cons, List.all_append, List.all_cons, ih]
theorem wholeN_B {cl : Int} {f : Fm} (h : wholeN cl f = true) : wholeB f = true := by
  unfold wholeN at h
  unfold wholeB
  rw [List.all_eq_true] at h ⊢
  exact fun x hx => by have := h x hx; rw [Bool.and_eq_true] at this; exact this.1
theorem whole_leaf {cl op n : Int} {inn : List Itv} (h : formed1 (.mk op n inn []) = true) (h2 : op = 1 → n < cl) : wholeN cl (.mk op n inn []) = true := by
  rw [wholeN_eq, h]
  by_cases h3 : op = 1
  · simp [Fm.op, Fm.n, Fm.kids, h2 h3]
  · simp [Fm.op, Fm.kids, h3]
def leafF (l : List Int) (cl a : Int) : Fm × Int :=
  if pickV l a 11 < 6 then (.mk 1 (pickV l (a + 1) cl) [] [], a + 1 + 1)
  else if pickV l a 11 = 10 then (noF, a + 1)
  else (.mk 2 (pickV l (a + 1) 3) (rngF (aroundV (pickV l (a + 1 + 1) 1048576) 1048576)) [], a + 1 + 1 + 1)
def TreeP (w : World) (g : Nat) (vl : Value) (at' cl lf : Int) (P : Fm → Int → Prop) (e : Ending) (w' : World) : Prop :=
  ∃ f a3 c3 a4 c4 at2, e = .returned (fmV f a3 c3 a4 c4) ∧ FmR (up noH w w') (fmC f a3 c3 a4 c4) f ∧ wholeN cl f = true ∧ P f at2 ∧ w.grownBy w' (some g) ∧ Own w' g (mkA vl at2 cl (lf - f.size)) 115 ∧ at' ≤ at2 ∧ at2 ≤ at' + 4 * f.size
theorem MemG.set4 {ws w : World} {g : Nat} {c : Array Value} {T : TypeId} {L : List Chunk} {H : PH} (h : MemG ws g c T L H w) (i : Nat) {b : Nat} {a0 a1 a2 a3 : Value} {T' : TypeId} (hi : L[i]? = some (Proofs.YtnpnjcaomakehaaGreat.box b #[a0, a1, a2, a3] T')) (p q r s : Value) :
    MemG ws g c T (L.set i (Proofs.YtnpnjcaomakehaaGreat.box b #[p, q, r, s] T')) H ((((w.setCell ⟨b, 0, none⟩ p).setCell ⟨b, 1, none⟩ q).setCell ⟨b, 2, none⟩ r).setCell ⟨b, 3, none⟩ s) := h.step fun w0 _ m => m.set4 i hi p q r s
abbrev zeroFa : Array Value := #[.int .i64 0, .int .i64 0, .slice none 0 0, .slice none 0 0]
set_option maxRecDepth 100000 in
set_option maxHeartbeats 4000000 in
theorem leaf_c {Hl : PH} (l : List Int) (vl : Value) (g : Nat) (at' cl lf : Int) (w : World) (hl : PLe Hl (ph w)) (hr : IntsR Hl vl l) (hg : Hl g = none) (ho : Own w g (mkA vl at' cl lf) 115) (h0 : 0 ≤ at') (h1 : at' ≤ 900000) (hc0 : 0 < cl) (hc1 : cl ≤ 64) :
    Calls Tryz.prog 110 #[.pointer (some ⟨g, 0, none⟩)] w fun e w' => ∃ f a3 c3 at2, e = .returned (fmV f a3 c3 none 0) ∧ FmR (up noH w w') (fmC f a3 c3 none 0) f ∧ wholeN cl f = true ∧ f.kids = [] ∧ w.grownBy w' (some g) ∧ Own w' g (mkA vl at2 cl lf) 115 ∧ at' ≤ at2 ∧ at2 ≤ at' + 3 ∧ leafF l cl at' = (f, at2) := by
  obtain ⟨xa, xc, rfl, hll, hr⟩ := hr.form
  have hgl := ho.lt
  have hG0 := (MemG.start ho).step (fun w0 _ m => m.new zeroFa 50)
  simp only [List.nil_append] at hG0
  have hl0 := hl.trans (Ext.ple (Ext.new w (.cells zeroFa 50)))
  go_enter Tryz.func110, Tryz.ntmps110
  go_wp2_with fail
  generalize w.alloc _ = W at *
  refine (mnext_c l _ g at' cl lf 11 W hl0 hr hg hG0.own h0 (by omega) (by omega) (by omega)).mono ?_
  rintro e w1 ⟨r, rfl, hrv, hr0, hr1, hgr, ho1⟩
  replace hrv := Lib.hid hrv
  have hG1 := hG0.call hgr ho1
  have hl1 := hl0.grownG hgr hg
  clear hG0 hl0 hgr
  by_cases h6 : r < 6
  · have b1 : decide (r < 6) = true := by simpa using h6
    obtain ⟨kc, -⟩ := ho1.facts
    have k2 : _ = some (Value.int .i64 cl) := kc 2
    have hgl1 := ho1.lt
    clear kc
    go_wp2_with fail
    refine (mnext_c l _ g (at' + 1) cl lf cl w1 hl1 hr hg ho1 (by omega) (by omega) hc0 (by omega)).mono ?_
    rintro e w2 ⟨s, rfl, hsv, hs0, hs1, hgr, ho2⟩
    replace hsv := Lib.hid hsv
    have hG2 := hG1.call hgr ho2
    clear hG1 hgr k2 hgl1 ho1
    have ob := hG2.box 0 rfl
    obtain ⟨uc, uf⟩ := ob.facts
    have ul := ob.lt
    have q0' : _ = some (Value.int .i64 0) := uc 0
    have q1' : _ = some (Value.int .i64 0) := uc 1
    have q2' : _ = some (Value.slice none 0 0) := uc 2
    have q3' : _ = some (Value.slice none 0 0) := uc 3
    have hG3 := hG2.set4 0 rfl (.int .i64 1) (.int .i64 s) (.slice none 0 0) (.slice none 0 0)
    simp only [List.set_cons_zero] at hG3
    clear uc
    go_wp2_with fail
    generalize ((((w2.setCell _ _).setCell _ _).setCell _ _).setCell _ _) = w9 at *
    obtain ⟨q, -⟩ := (hG3.box 0 rfl).facts
    have q0 : _ = some (Value.int .i64 1) := q 0
    have q1 : _ = some (Value.int .i64 s) := q 1
    have q2 : _ = some (Value.slice none 0 0) := q 2
    have q3 : _ = some (Value.slice none 0 0) := q 3
    refine bodyPost_ret (v := .agg #[.int .i64 1, .int .i64 s, .slice none 0 0, .slice none 0 0]) (by simp [results, Tryz.results110, go_sem, q0, q1, q2, q3]) rfl ?_
    exact ⟨.mk 1 s [] [], none, 0, at' + 1 + 1, rfl, FmR.of (by simp [Fm.op, I64]) (by simp only [Fm.n]; unfold I64; omega) (SliceRep.nil _ _ _) (SliceRep.nil _ _ _), whole_leaf (by rw [formed1_mk]; simp; omega) (fun _ => hs1), rfl, hG3.grown, hG3.own, by omega, by omega, by unfold leafF; rw [if_pos (by have := hrv.out; omega), ← hsv.out]⟩
  have b1 : decide (r < 6) = false := by simpa using h6
  by_cases h10 : r = 10
  · have b2 : (r == 10) = true := by simpa using h10
    have ob := hG1.box 0 rfl
    obtain ⟨uc, uf⟩ := ob.facts
    have ul := ob.lt
    have q0' : _ = some (Value.int .i64 0) := uc 0
    have q1' : _ = some (Value.int .i64 0) := uc 1
    have q2' : _ = some (Value.slice none 0 0) := uc 2
    have q3' : _ = some (Value.slice none 0 0) := uc 3
    have hG3 := hG1.set4 0 rfl (.int .i64 0) (.int .i64 0) (.slice none 0 0) (.slice none 0 0)
    simp only [List.set_cons_zero] at hG3
    clear uc
    go_wp2_with fail
    generalize ((((w1.setCell _ _).setCell _ _).setCell _ _).setCell _ _) = w9 at *
    obtain ⟨q, -⟩ := (hG3.box 0 rfl).facts
    have q0 : _ = some (Value.int .i64 0) := q 0
    have q1 : _ = some (Value.int .i64 0) := q 1
    have q2 : _ = some (Value.slice none 0 0) := q 2
    have q3 : _ = some (Value.slice none 0 0) := q 3
    refine bodyPost_ret (v := zeroFv) (by simp [results, Tryz.results110, go_sem, q0, q1, q2, q3]) rfl ?_
    exact ⟨noF, none, 0, at' + 1, rfl, noF_R _, whole_leaf (by rw [formed1_mk]; simp) (fun h => by omega), rfl, hG3.grown, hG3.own, by omega, by omega, by unfold leafF; rw [if_neg (by have := hrv.out; omega), if_pos (by have := hrv.out; omega)]⟩
  have b2 : (r == 10) = false := by simpa using h10
  go_wp2_with fail
  refine (mnext_c l _ g (at' + 1) cl lf 3 w1 hl1 hr hg ho1 (by omega) (by omega) (by omega) (by omega)).mono ?_
  rintro e w2 ⟨s, rfl, hsv, hs0, hs1, hgr, ho2⟩
  replace hsv := Lib.hid hsv
  have hG2 := hG1.call hgr ho2
  have hl2 := hl1.grownG hgr hg
  clear hG1 hl1 hgr ho1
  go_wp2_with fail
  refine (mnext_c l _ g (at' + 1 + 1) cl lf 1048576 w2 hl2 hr hg ho2 (by omega) (by omega) (by omega) (by omega)).mono ?_
  rintro e w3 ⟨t, rfl, htv, ht0, ht1, hgr, ho3⟩
  replace htv := Lib.hid htv
  have hG3 := hG2.call hgr ho3
  clear hG2 hl2 hgr ho2
  go_wp2_with fail
  refine (rangeF_c t w3 (by unfold I64; omega)).mono ?_
  rintro e w4 ⟨iv, il, rfl, hx4, hI, hE, hln, hlf⟩
  replace hlf := Lib.hid hlf
  have hG4 := hG3.step (fun w0 _ m => m.up hx4)
  have hI4 := hI.mono mono_ItvR (up_mono (noH_le (up (up (up noH W w1) w1 w2) w2 w3)))
  obtain ⟨ia, ic, rfl, -, hI5⟩ := hI4.form
  clear hG3 hI hI4 ho3
  have ob := hG4.box 0 rfl
  obtain ⟨uc, uf⟩ := ob.facts
  have ul := ob.lt
  have q0' : _ = some (Value.int .i64 0) := uc 0
  have q1' : _ = some (Value.int .i64 0) := uc 1
  have q2' : _ = some (Value.slice none 0 0) := uc 2
  have q3' : _ = some (Value.slice none 0 0) := uc 3
  have hG5 := hG4.set4 0 rfl (.int .i64 2) (.int .i64 s) (.slice ia il.length ic) (.slice none 0 0)
  simp only [List.set_cons_zero] at hG5
  clear uc
  go_wp2_with fail
  generalize ((((w4.setCell _ _).setCell _ _).setCell _ _).setCell _ _) = w9 at *
  obtain ⟨q, -⟩ := (hG5.box 0 rfl).facts
  have q0 : _ = some (Value.int .i64 2) := q 0
  have q1 : _ = some (Value.int .i64 s) := q 1
  have q2 : _ = some (Value.slice ia il.length ic) := q 2
  have q3 : _ = some (Value.slice none 0 0) := q 3
  refine bodyPost_ret (v := .agg #[.int .i64 2, .int .i64 s, .slice ia il.length ic, .slice none 0 0]) (by simp [results, Tryz.results110, go_sem, q0, q1, q2, q3]) rfl ?_
  exact ⟨.mk 2 s il [], ia, ic, at' + 1 + 1 + 1, rfl, mono_FmR _ _ _ _ hG5.ub (FmR.of (by simp [Fm.op, I64]) (by simp only [Fm.n]; unfold I64; omega) hI5 (SliceRep.nil _ _ _)), whole_leaf (by rw [formed1_mk]; simp; omega) (fun h => by omega), rfl, hG5.grown, hG5.own, by omega, by omega, by unfold leafF; rw [if_neg (by have := hrv.out; omega), if_neg (by have := hrv.out; omega), ← hsv.out, ← htv.out, ← hlf.out]⟩
end Go.Proofs.YtnpnjcaomakehaaGreat
namespace Go.Proofs.YtnpnjcaomakehaaGreat
open Go.RowKit Go.Shelf
section
variable {α : Type} {E : PH → List Value → α → Prop} {hm : Mono E} {sz : Nat} {T : TypeId} {v : Value} {xs ys : List α} {w0 w : World} {H0 H : PH} {L : List Chunk}
theorem oper_append_M {P : Program} {o : Oper} {a : Act} {K : Act → World → Prop} {Q : Exit → Act → World → Prop} (i : Nat) (s x : Operand) (t : TypeId)
    (ho : o.op = .call { callee := .builtin .append, args := #[s, x], argTypes := #[t, t] }) {z : Value} {bytes : Nat}
    (ht : P.underlying t = some (.slice T)) (hinfo : (P.info? T).map (fun i => (i.zero, i.size, i.bytes)) = some (some z, sz, bytes)) (hzs : z.cells.size = sz)
    {vx : Value} (hs : a.eval s = v) (hx : a.eval x = vx) (hS : Mem w0 H0 L H w) (hi : L[i]? = some (own hm sz T v xs)) (hsrc : Src w H E sz vx ys)
    (hone : ∀ cs x, E H cs x → ∀ u ∈ cs, u.oneCell' = true) (hbytes : (xs.length + ys.length) * bytes ≤ 140737488355328) (hcnt : xs.length + ys.length ≤ 140737488355328)
    (hn : ∀ v' w', Mem w0 H0 (L.set i (own hm sz T v' (xs ++ ys))) H w' → w.grownBy w' v.ownBlock → K (a.put o.dst v') w') : o.wp P a w K Q := by
  obtain ⟨i', hi', hz0, hz1, hz2⟩ := info_parts hinfo
  obtain ⟨v', w', hr, h2, h3, h4⟩ := run_append_S (P := P) (w := w) t o.type T i' z bytes ht hi' hz0 hz1 hz2 hzs (hS.ownS i hi) hsrc hS.ple hS.ex.size hone hbytes hcnt
  unfold Oper.wp execOp
  simp only [ho, resolve, invoke, builtin, Sem.run_bind, Sem.run_pure, Result.andThen_ok, List.map_toArray, List.map_cons, List.map_nil, hs, hx, hr]
  exact hn _ _ (hS.put i hi (c' := own hm sz T v' (xs ++ ys)) h2.c h4 (hS.ex.grown h3 fun k hk => (hS.fr i _ hi k hk).1) fun k hk hne => h3.block k hk (fun e => hne e.symm)) h3
end
section
variable {ws w w' : World} {g : Nat} {c c' : Array Value} {T : TypeId} {L L' : List Chunk} {H H' : PH}
theorem MemG.re {w0 : World} (h1 : w0.heap.size = ws.heap.size) (h2 : g < ws.heap.size) (h3 : Own w g c T) (h4 : Mem w0 noH L H w) (h5 : ws.grownBy w (some g)) (hM : Mem w0 noH L' H' w') : MemG ws g c T L' H' w' := by
  have hs : ∀ k, k < w0.heap.size → w'.heap[k]? = w.heap[k]? := fun k hk => by rw [hM.ex.block k hk, h4.ex.block k hk]
  refine ⟨w0, h1, h2, ?_, hM, ?_⟩
  · unfold Own at *; rw [hs g (by omega)]; exact h3
  · have := hM.ex.size
    refine ⟨?_, ?_, ?_, by omega, fun k hk hr => ?_⟩
    · rw [← h5.os, h4.ex.os, hM.ex.os]
    · rw [← h5.tape, h4.ex.tape, hM.ex.tape]
    · rw [← h5.output, h4.ex.output, hM.ex.output]
    · rw [hs k (by omega)]; exact h5.block k hk hr
theorem MemG.freezeS {α : Type} {E : PH → List Value → α → Prop} {hm : Mono E} {sz : Nat} {T' : TypeId} {v : Value} {xs : List α} (h : MemG ws g c T L H w) (i : Nat) (hi : L[i]? = some (Proofs.YtnpnjcaomakehaaGreat.own hm sz T' v xs)) : ∃ H', PLe H H' ∧ MemG ws g c T (L.set i nop) H' w ∧ SliceRep E sz H' v xs := by
  obtain ⟨w0, h1, h2, h3, h4, h5⟩ := h
  obtain ⟨H', k1, k2, k3⟩ := h4.freezeS i hi
  exact ⟨H', k1, ⟨w0, h1, h2, h3, k2, h5⟩, k3⟩
theorem MemG.form {α : Type} {E : PH → List Value → α → Prop} {hm : Mono E} {sz : Nat} {T' : TypeId} {v : Value} {xs : List α} (h : MemG ws g c T L H w) (i : Nat) (hi : L[i]? = some (Proofs.YtnpnjcaomakehaaGreat.own hm sz T' v xs)) : ∃ a cap, v = .slice a xs.length cap ∧ xs.length ≤ 9223372036854775807 := by
  obtain ⟨w0, h1, h2, h3, h4, h5⟩ := h
  exact h4.form i hi
end
theorem not7_c {H : PH} (f : Fm) (a3 : Option Addr) (c3 : Nat) (a4 : Option Addr) (c4 : Nat) (w : World) (hl : PLe H (ph w)) (hr : FmR H (fmC f a3 c3 a4 c4) f) : Calls Tryz.prog 69 #[fmV f a3 c3 a4 c4] w fun e w' =>
    ∃ b, e = .returned (.agg #[.int .i64 6, .int .i64 0, .slice none 0 0, .slice (some ⟨b, 0, none⟩) 1 1]) ∧ Ext w w' ∧ FmR (up H w w') (fmC (.mk 6 0 [] [f]) none 0 (some ⟨b, 0, none⟩) 1) (.mk 6 0 [] [f]) := by
  unfold fmC at hr
  go_enter Tryz.func69, Tryz.ntmps69
  go_wp2_with fail
  have hM := ((((Mem.start w H hl).ext (Ext.new w (.cells #[.int .i64 f.op, .int .i64 f.n, .slice a3 f.inn.length c3, .slice a4 f.kids.length c4] 50))).ext (Ext.new _ (.cells #[.int .i64 6, .int .i64 0, .slice none 0 0, .slice (some ⟨w.heap.size + 1 + 1, 0, none⟩) 1 1] 50))).new' #[.int .i64 f.op, .int .i64 f.n, .slice a3 f.inn.length c3, .slice a4 f.kids.length c4] 50 (n := w.heap.size + 1 + 1) (by simp)).asOwn 0 rfl mono_FmR (sz := 4) (xs := [f]) (n := 1) (by simp) (by simp [maxLen]) rfl ⟨_, [], rfl, rfl, hr, rfl⟩
  have hk := hM.repUp 0 rfl
  have hx : Ext w (((w.alloc (.cells #[.int .i64 f.op, .int .i64 f.n, .slice a3 f.inn.length c3, .slice a4 f.kids.length c4] 50)).alloc (.cells #[.int .i64 6, .int .i64 0, .slice none 0 0, .slice (some ⟨w.heap.size + 1 + 1, 0, none⟩) 1 1] 50)).alloc (.cells #[.int .i64 f.op, .int .i64 f.n, .slice a3 f.inn.length c3, .slice a4 f.kids.length c4] 50)) := xE
  have ho : Own (((w.alloc (.cells #[.int .i64 f.op, .int .i64 f.n, .slice a3 f.inn.length c3, .slice a4 f.kids.length c4] 50)).alloc (.cells #[.int .i64 6, .int .i64 0, .slice none 0 0, .slice (some ⟨w.heap.size + 1 + 1, 0, none⟩) 1 1] 50)).alloc (.cells #[.int .i64 f.op, .int .i64 f.n, .slice a3 f.inn.length c3, .slice a4 f.kids.length c4] 50)) (w.heap.size + 1) #[.int .i64 6, .int .i64 0, .slice none 0 0, .slice (some ⟨w.heap.size + 1 + 1, 0, none⟩) 1 1] 50 := oE
  clear hM
  generalize World.alloc _ _ = w9 at *
  obtain ⟨q, -⟩ := ho.facts
  have q0 : _ = some (Value.int .i64 6) := q 0
  have q1 : _ = some (Value.int .i64 0) := q 1
  have q2 : _ = some (Value.slice none 0 0) := q 2
  have q3 : _ = some (Value.slice (some ⟨w.heap.size + 1 + 1, 0, none⟩) 1 1) := q 3
  refine bodyPost_ret (v := .agg #[.int .i64 6, .int .i64 0, .slice none 0 0, .slice (some ⟨w.heap.size + 1 + 1, 0, none⟩) 1 1]) (by simp [results, Tryz.results69, go_sem, q0, q1, q2, q3]) rfl ?_
  exact ⟨w.heap.size + 1 + 1, rfl, hx, FmR.of (by simp [Fm.op, I64]) (by simp [Fm.n, I64]) (SliceRep.nil _ _ _) hk⟩
end Go.Proofs.YtnpnjcaomakehaaGreat
