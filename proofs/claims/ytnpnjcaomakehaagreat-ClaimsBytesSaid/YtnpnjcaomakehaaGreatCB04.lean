/- Lemmas for CB, part 5: package formula: Valid, and more. -/
import Derived.Test.YtnpnjcaomakehaaGreatCB00
import Derived.Test.YtnpnjcaomakehaaGreatCB01
import Derived.Test.YtnpnjcaomakehaaGreatCB02
import Derived.Test.YtnpnjcaomakehaaGreatCB03
set_option linter.unusedSimpArgs false
set_option linter.unusedVariables false
namespace Go.Proofs.YtnpnjcaomakehaaGreat
open Go.RowKit Go.Shelf
attribute [local go_sem] Oper.semAt_some
theorem wholeB_all (f : Fm) : wholeB f = f.pre.all formed1 := rfl
def NodeA {H : PH} (tm : FmA H → Nat → Array Value) (x : FmA H) (a' : Act) (W : World) : Prop :=
  ∃ Bx, Bx < W.heap.size ∧ Own W Bx x.1.1.toArray 50 ∧ a' = { tmps := tm x Bx, defers := [] }
theorem NodeA.from {H : PH} (tm : FmA H → Nat → Array Value) (B : Nat) (x : FmA H) (a' : Act) : OwnFrom B (fun (_ : Unit) W => NodeA tm x a' W) := by
  rintro _ A C row ⟨Bx, h1, h2, h3⟩ hg hr
  exact ⟨Bx, Nat.lt_of_lt_of_le h1 hg.size, own_keptF h2 hg fun r e => (hr r e).2, h3⟩
theorem Ext.grownG' {w w' : World} (e : Ext w w') (r : Option Nat) : w.grownBy w' r := ⟨e.os, e.tape, e.output, e.size, fun k hk _ => e.block k hk⟩
set_option maxRecDepth 100000 in
set_option maxHeartbeats 2000000 in
theorem fvalid_in (f : Fm) (cs : List Value) (w : World) (hr : FmR (ph w) cs f) (hs : f.bulk ≤ 900000) : CallsIn Fence.wide 7 Tryz.prog 25 #[.agg cs.toArray] w (RetV w (.int .i64 (validF f))) := by
  have hr' := hr
  obtain ⟨a3, c3, a4, c4, rfl, -⟩ := hr.form
  unfold fmC at hr' ⊢
  have hs1 := f.size_le_bulk
  have hs2 := f.deep_le_size
  refine callsIn_of_wp_marks Tryz.func25 rfl trivial ?_ rfl
  simp only [Tryz.ntmps25, List.size_toArray, List.length_cons, List.length_nil, Nat.reduceAdd, Nat.reduceSub, Array.replicate_succ, Array.replicate_zero, List.push_toArray, List.append_toArray, List.nil_append, List.cons_append]
  refine wpIn_wide.2 ?_
  go_wp2_with fail
  refine RetV_at (fsize_c f _ _ (mono_FmR _ _ _ _ (Ext.ple xE) hr') (by omega)) ?_
  intro w1 hx1
  have ho : Own w1 w.heap.size #[.int .i64 f.op, .int .i64 f.n, .slice a3 f.inn.length c3, .slice a4 f.kids.length c4] 50 := oE
  have hoE : Own w1 (w.heap.size + 1) #[.int .i64 0] 28 := oE
  have hx : Ext w w1 := xE
  clear hx1
  obtain ⟨hoc, hof⟩ := ho.facts
  obtain ⟨hec, hef⟩ := hoE.facts
  have hlt := hoE.lt
  by_cases hS : 96 < f.size
  · have hv : Hid (validF f = 4) := by show _ = _; unfold validF; rw [if_pos (.inl hS)]
    have b1 : decide (96 < (f.size : Int)) = true := by simp; omega
    go_wp2_with fail
    have o3 := hoE.set 0 (.int .i64 4)
    have q : _ = some (Value.int .i64 4) := o3.facts.1 0
    exact ⟨.int .i64 4, by simp [results, Tryz.results25, go_sem, q], by rw [hv.out]; exact ⟨rfl, hx.set' (p := ⟨w.heap.size + 1, 0, none⟩) (by simp) _⟩⟩
  have b1 : decide (96 < (f.size : Int)) = false := by simp; omega
  go_wp2_with fail
  refine RetV_at (fdeep_c f _ _ (mono_FmR _ _ _ _ (Ext.ple xE) hr') (by omega)) ?_
  intro w2 hx2
  replace ho := ho.keep hx2
  replace hoE := hoE.keep hx2
  replace hx : Ext w w2 := xE
  clear hx2 hoc hof hec hef hlt
  obtain ⟨hoc, hof⟩ := ho.facts
  obtain ⟨hec, hef⟩ := hoE.facts
  have hlt := hoE.lt
  by_cases hD : 8 < f.deep
  · have hv : Hid (validF f = 4) := by show _ = _; unfold validF; rw [if_pos (.inr hD)]
    have b2 : decide (8 < (f.deep : Int)) = true := by simp; omega
    go_wp2_with fail
    have o3 := hoE.set 0 (.int .i64 4)
    have q : _ = some (Value.int .i64 4) := o3.facts.1 0
    exact ⟨.int .i64 4, by simp [results, Tryz.results25, go_sem, q], by rw [hv.out]; exact ⟨rfl, hx.set' (p := ⟨w.heap.size + 1, 0, none⟩) (by simp) _⟩⟩
  have b2 : decide (8 < (f.deep : Int)) = false := by simp; omega
  have hv : Hid (validF f = if wholeB f then 0 else 1) := by show _ = _; unfold validF; rw [if_neg (by omega)]
  go_wp2_with fail
  refine (nodes_p f _ _ (mono_FmR _ _ _ _ (Ext.ple xE) hr')).mono ?_
  rintro e w' ⟨rfl, rfl⟩
  go_wp2_with fail
  refine (wpIn_wide (n := 7)).1 ?_
  have hO1 : Own (w2.alloc (.cells #[.int .i64 f.op, .int .i64 f.n, .slice a3 f.inn.length c3, .slice a4 f.kids.length c4] 50)) (w.heap.size + 1) #[.int .i64 0] 28 := oE
  have hO2 : Own (w2.alloc (.cells #[.int .i64 f.op, .int .i64 f.n, .slice a3 f.inn.length c3, .slice a4 f.kids.length c4] 50)) w2.heap.size #[.int .i64 f.op, .int .i64 f.n, .slice a3 f.inn.length c3, .slice a4 f.kids.length c4] 50 := Own.new _ _ _
  have hx0 : Ext w (w2.alloc (.cells #[.int .i64 f.op, .int .i64 f.n, .slice a3 f.inn.length c3, .slice a4 f.kids.length c4] 50)) := xE
  have hsz : (w2.alloc (.cells #[.int .i64 f.op, .int .i64 f.n, .slice a3 f.inn.length c3, .slice a4 f.kids.length c4] 50)).heap.size = w2.heap.size + 1 := by simp
  clear ho hoE hoc hof hec hef
  generalize w2.alloc _ = W0 at *
  have hps : f.pre.length = f.size := f.pre_len
  refine wpIn_rangeFunc_ownH rfl (by omega) (gf := 83) (lb := #[.pointer (some ⟨w2.heap.size, 0, none⟩)]) rfl trivial (enters_of Tryz.func83 (by kernel_rfl) rfl)
    (encs := fun x : FmA (ph w) => #[.agg x.1.1.toArray]) (Kp := Kx w.heap.size (w.heap.size + 1)) (S := fun ys => fmsOf ys = f.pre) (Sp := fun p => fmsOf p <+: f.pre) (N := f.pre.length)
    (w0 := W0) (nodes_seq (by omega) (Good.of hO1 rfl) hx0.ple (ph_low w) (by omega) hO2 hr') Kx.then (Kx.put (by omega) (by omega)) (Below.refl _ _) (fun _ => rfl)
    (fun pre W => Own W (w.heap.size + 1) #[.int .i64 0] 28 ∧ Ext w W ∧ ∀ x ∈ pre, formed1 (FmA.f x) = true)
    (fun c pre W => c = .ret ∧ Own W (w.heap.size + 1) #[.int .i64 1] 28 ∧ Ext w W ∧ ∃ x ∈ pre, formed1 (FmA.f x) = false)
    ?hI ?hIx ⟨hO1, hx0, by simp⟩ (NodeA (fun x Bx => #[.agg #[.int .i64 f.op, .int .i64 f.n, .slice a3 f.inn.length c3, .slice a4 f.kids.length c4], .pointer (some ⟨w.heap.size, 0, none⟩), .pointer (some ⟨w.heap.size + 1, 0, none⟩), .pointer (some ⟨Bx, 0, none⟩), .agg #[.int .i64 f.op, .int .i64 f.n, .slice a3 f.inn.length c3, .slice a4 f.kids.length c4], .int .i64 f.size, .bool false, .bool false, .agg #[.int .i64 f.op, .int .i64 f.n, .slice a3 f.inn.length c3, .slice a4 f.kids.length c4], .int .i64 f.deep, .bool false, .bool false, .agg #[.int .i64 f.op, .int .i64 f.n, .slice a3 f.inn.length c3, .slice a4 f.kids.length c4], .func (.func 83) #[] #[.pointer (some ⟨w2.heap.size, 0, none⟩)], .agg x.1.1.toArray, undef, undef, undef])) (NodeA.from _ _) ?assign ?body ?done ?stop
  case hI =>
    rintro pre A B row ⟨h1, h2, h3⟩ hg hr
    exact ⟨own_keptF h1 hg fun r e => (hr r e).2, h2.grown hg fun r e => Nat.le_trans (by omega) (hr r e).1, h3⟩
  case hIx =>
    rintro c pre A B row ⟨h0, h1, h2, h3⟩ hg hr
    exact ⟨h0, own_keptF h1 hg fun r e => (hr r e).2, h2.grown hg fun r e => Nat.le_trans (by omega) (hr r e).1, h3⟩
  case assign =>
    rintro l pre ⟨⟨cs, g⟩, hg⟩ W K ⟨hI1, hI2, hI3⟩ hK
    replace hg : FmR (ph w) cs g := hg
    obtain ⟨b3, d3, b4, d4, rfl, -⟩ := hg.form
    unfold fmC at *
    have hk1 := Kx.ext (n₀ := w.heap.size) (Bo := w.heap.size + 1) (Ext.new W (.cells #[.int .i64 g.op, .int .i64 g.n, .slice b3 g.inn.length d3, .slice b4 g.kids.length d4] 50)) hI1.lt hI2.size
    have hI4 := hI1.alloc (.cells #[.int .i64 g.op, .int .i64 g.n, .slice b3 g.inn.length d3, .slice b4 g.kids.length d4] 50)
    have hI5 := hI2.alloc' (.cells #[.int .i64 g.op, .int .i64 g.n, .slice b3 g.inn.length d3, .slice b4 g.kids.length d4] 50)
    have h1 := (KeepsOthers.alloc W (.cells #[.int .i64 g.op, .int .i64 g.n, .slice b3 g.inn.length d3, .slice b4 g.kids.length d4] 50)).from W0.heap.size
    have h4 := Proofs.YtnpnjcaomakehaaGreat.Own.new W #[.int .i64 g.op, .int .i64 g.n, .slice b3 g.inn.length d3, .slice b4 g.kids.length d4] 50
    have h5 : W.heap.size < (W.alloc (.cells #[.int .i64 g.op, .int .i64 g.n, .slice b3 g.inn.length d3, .slice b4 g.kids.length d4] 50)).heap.size := by simp
    gi_wp2
    generalize W.heap.size = Bx at *
    exact hK _ _ h1 hk1 ⟨hI4, hI5, hI3⟩ ⟨Bx, h5, h4, rfl⟩
  case body =>
    rintro l pre ⟨⟨cs, g⟩, hg⟩ a' W hl ⟨r, hrr⟩ ⟨hI1, hI2, hI3⟩ ⟨Bx, hBx, oX, rfl⟩ hlt
    replace hg : FmR (ph w) cs g := hg
    have hg' := hg
    obtain ⟨b3, d3, b4, d4, rfl, -⟩ := hg.form
    unfold fmC at *
    obtain ⟨cX, -⟩ := oX.facts
    have hgR := mono_FmR _ _ _ _ hI2.ple hg'
    have hsz2 := hI2.size
    clear hg hr hr' hO1 hO2
    gi_wp2
    refine ⟨trivial, CallsIn.inRound l (callsIn_wide.2 (RetV_at (formed_c g _ _ hgR) ?_))⟩
    intro W2 hx2
    have hk2 := Kx.ext (n₀ := w.heap.size) (Bo := w.heap.size + 1) hx2 hI1.lt hsz2
    have hko : KeepsOthers W W2 := KeepsOthers.of_grownBy (Ext.grownG' hx2 none) (fun j o e => by cases e)
    replace hI1 := hI1.keep hx2
    replace hI2 := hI2.then hx2
    obtain ⟨e1, e2⟩ := hI1.facts
    have e1' : _ = some (Value.int .i64 0) := e1 0
    have e2' := e2 0
    have hlt3 := hI1.lt
    cases hF : formed1 g with
    | true =>
      gi_wp2
      exact ⟨hko.from _, hk2, hI1, hI2, fun x hx => by
        rcases List.mem_append.1 hx with hx | hx
        · exact hI3 x hx
        · rw [List.mem_singleton.1 hx]; exact hF⟩
    | false =>
      gi_wp2
      refine ⟨(hko.trans (KeepsOthers.setCell _ _ _)).from _, rfl, ?_, hI2.set' (p := ⟨w.heap.size + 1, 0, none⟩) (by simp) _, _, List.mem_append_right _ (List.mem_singleton.2 rfl), hF⟩
      have := hI1.set 0 (.int .i64 1)
      simpa using this
  case stop =>
    rintro D c pre W hD hpre ⟨rfl, o5, hx5, x, hxm, hb⟩ hK
    have hv2 : Hid (validF f = 1) := by
      show _ = _
      have hn : wholeB f = false := by
        rw [wholeB_all, List.all_eq_false]
        exact ⟨_, hpre.subset (List.mem_map.2 ⟨x, hxm, rfl⟩), by rw [hb]; simp⟩
      rw [hv.out, hn]; rfl
    have b5 := belowK_b (w := W0) (Nat.le_refl _) W D _ (.deferred none) hD hK rfl rfl
    have r0 := (b5.cell (p := ⟨w.heap.size + 1, 0, none⟩) hO1.lt).trans (o5.facts.1 0)
    simp only [List.getElem?_toArray, List.getElem?_cons_zero] at r0
    clear hr hr' hO1 hO2
    gi_wp2
    go_wp2_with fail
    refine ⟨by simp, .inl ⟨_, _, rfl, run_takeDeferred hK, ?_⟩⟩
    exact ⟨.int .i64 1, by simp [results, Tryz.results25, go_sem, r0], by rw [hv2.out]; exact ⟨rfl, hx5.trans (b5.mono (by omega))⟩⟩
  case done =>
    rintro D zs W hD hz ⟨o5, hx5, hok⟩ hK
    have hv2 : Hid (validF f = 0) := by
      show _ = _
      have hn : wholeB f = true := by
        rw [wholeB_all, ← hz, List.all_eq_true]
        intro y hy
        obtain ⟨x, hx, rfl⟩ := List.mem_map.1 hy
        exact hok x hx
      rw [hv.out, hn]; rfl
    obtain ⟨e1, e2⟩ := o5.facts
    have e1' : _ = some (Value.int .i64 0) := e1 0
    have e2' := e2 0
    have hlt5 := o5.lt
    have o6 := o5.set 0 (.int .i64 0)
    have hK6 : (W.setCell ⟨w.heap.size + 1, 0, none⟩ (.int .i64 0)).heap[D]? = some (.deferred (some [])) := (KeepsOthers.setCell _ _ _).same D _ hK rfl
    have hx6 : Ext w (W.setCell ⟨w.heap.size + 1, 0, none⟩ (.int .i64 0)) := hx5.set' (p := ⟨w.heap.size + 1, 0, none⟩) (by simp) _
    have b5 := belowK_b (w := W0) (Nat.le_refl _) _ D _ (.deferred none) hD hK6 rfl rfl
    have r0 := (b5.cell (p := ⟨w.heap.size + 1, 0, none⟩) hO1.lt).trans (o6.facts.1 0)
    simp at r0
    clear hr hr' hO1 hO2 hz
    gi_wp2
    go_wp2_with fail
    refine ⟨by simp, .inl ⟨_, _, rfl, run_takeDeferred hK6, ?_⟩⟩
    exact ⟨.int .i64 0, by simp [results, Tryz.results25, go_sem, r0], by rw [hv2.out]; exact ⟨rfl, hx6.trans (b5.mono (by omega))⟩⟩
theorem fvalid_c (f : Fm) (cs : List Value) (w : World) (hr : FmR (ph w) cs f) (hs : f.bulk ≤ 900000) : Calls Tryz.prog 25 #[.agg cs.toArray] w (RetV w (.int .i64 (validF f))) := (callsIn_wide (n := 7)).1 (fvalid_in f cs w hr hs)
end Go.Proofs.YtnpnjcaomakehaaGreat
namespace Go.Proofs.YtnpnjcaomakehaaGreat
open Go.RowKit
set_option maxHeartbeats 1000000 in
theorem rwhole_c (f : Fm) : ∀ (cs : List Value) (w : World), FmR (ph w) cs f → Calls Tryz.prog 89 #[.agg cs.toArray] w (RetV w (.bool (wholeB f))) := by
  induction f using Fm.ind with
  | h f ih =>
    intro cs w hr
    have hr' := hr
    obtain ⟨a3, c3, a4, c4, rfl, -, -, -, hlen, -, hp⟩ := hr.form
    unfold fmC at *
    have hw := Lib.hid (wholeB_eq f)
    go_enter Tryz.func89, Tryz.ntmps89
    go_wp2_with fail
    refine RetV_at (rformed_c f _ _ (mono_FmR _ _ _ _ (Ext.ple xE) hr')) ?_
    intro w1 hx1
    have ho : Own w1 w.heap.size #[.int .i64 f.op, .int .i64 f.n, .slice a3 f.inn.length c3, .slice a4 f.kids.length c4] 50 := oE
    have hx : Ext w w1 := xE
    clear hx1 hr hr'
    cases hf : formed1 f with
    | false =>
      have hv : Hid (wholeB f = false) := by show _ = _; rw [hw.out, hf]; rfl
      go_wp2_with fail
      go_ret
      exact ⟨ret_bool hv.out.symm, xE⟩
    | true =>
      have hv : Hid (wholeB f = f.kids.all wholeB) := by show _ = _; rw [hw.out, hf]; rfl
      obtain ⟨hoc, hof⟩ := ho.facts
      have H := Lib.hid ih
      clear hf hw ih
      go_wp2_with fail
      go_loopw [3] (fun i wr => ∃ k : Nat, k ≤ f.kids.length ∧ i = .int .i64 k ∧ Hid (∀ x ∈ f.kids.take k, wholeB x = true) ∧ Own wr w.heap.size #[.int .i64 f.op, .int .i64 f.n, .slice a3 f.inn.length c3, .slice a4 f.kids.length c4] 50 ∧ Ext w wr) (fun i _ => f.kids.length - (intOf i).toNat)
      case atStart => exact ⟨0, Nat.zero_le _, rfl, Lib.hid (by simp), ho, hx⟩
      case round =>
        obtain ⟨k, hk, rfl, hg, ho2, hb⟩ := hrel
        obtain ⟨hoc2, hof2⟩ := ho2.facts
        by_cases hlt : k < f.kids.length
        · have hp' := hp.mono mono_FmR hb.ple
          obtain ⟨b, o, b3, d3, b4, d4, rfl, h0, h1, h2, h3, hE, hbl⟩ := FmsR.at hp' k hlt
          unfold fmC at hE
          clear hp hp' ho hx hoc hof
          go_wp2_with fail
          refine RetV_at (H.out _ (List.getElem_mem hlt) _ _ (mono_FmR _ _ _ _ (Ext.ple xE) hE)) ?_
          intro w2 hx2
          cases hpk : wholeB f.kids[k] with
          | true =>
            have HP := Lib.hid hpk
            go_wp2_with fail
            go_roundw
            case rel => exact ⟨k + 1, by omega, by go_num, take_all hlt HP.out hg.out, oE, xE⟩
            case measure => simp [intOf]; omega
          | false =>
            have hv2 : Hid (wholeB f = false) := by
              show _ = _
              rw [hv.out, List.all_eq_false]
              exact ⟨_, List.getElem_mem hlt, by rw [hpk]; simp⟩
            go_wp2_with fail
            go_ret
            exact ⟨ret_bool hv2.out.symm, xE⟩
        · have hv2 : Hid (wholeB f = true) := by
            show _ = _
            rw [hv.out, List.all_eq_true]
            exact take_done (by omega) hg.out
          clear hp
          go_wp2_with fail
          go_ret
          exact ⟨ret_bool hv2.out.symm, xE⟩
theorem rfvalid_c (f : Fm) (cs : List Value) (w : World) (hr : FmR (ph w) cs f) (hs : f.bulk ≤ 900000) : Calls Tryz.prog 54 #[.agg cs.toArray] w (RetV w (.int .i64 (validF f))) := by
  have hr' := hr
  obtain ⟨a3, c3, a4, c4, rfl, -⟩ := hr.form
  unfold fmC at *
  have hs1 := f.size_le_bulk
  have hs2 := f.deep_le_size
  go_enter Tryz.func54, Tryz.ntmps54
  go_wp2_with fail
  refine RetV_at (rfsize_c f _ _ (mono_FmR _ _ _ _ (Ext.ple xE) hr') (by omega)) ?_
  intro w1 hx1
  have ho : Own w1 w.heap.size #[.int .i64 f.op, .int .i64 f.n, .slice a3 f.inn.length c3, .slice a4 f.kids.length c4] 50 := oE
  have hx : Ext w w1 := xE
  clear hx1
  obtain ⟨hoc, hof⟩ := ho.facts
  by_cases hS : 96 < f.size
  · have hv : Hid (validF f = 4) := by show _ = _; unfold validF; rw [if_pos (.inl hS)]
    have b1 : decide (96 < (f.size : Int)) = true := by simp; omega
    go_wp2_with fail
    go_ret
    exact ⟨ret_int hv.out.symm, xE⟩
  have b1 : decide (96 < (f.size : Int)) = false := by simp; omega
  go_wp2_with fail
  refine RetV_at (rfdeep_c f _ _ (mono_FmR _ _ _ _ (Ext.ple xE) hr') (by omega)) ?_
  intro w2 hx2
  replace ho := ho.keep hx2
  replace hx : Ext w w2 := xE
  clear hx2 hoc hof
  obtain ⟨hoc, hof⟩ := ho.facts
  by_cases hD : 8 < f.deep
  · have hv : Hid (validF f = 4) := by show _ = _; unfold validF; rw [if_pos (.inr hD)]
    have b2 : decide (8 < (f.deep : Int)) = true := by simp; omega
    go_wp2_with fail
    go_ret
    exact ⟨ret_int hv.out.symm, xE⟩
  have b2 : decide (8 < (f.deep : Int)) = false := by simp; omega
  have hv : Hid (validF f = if wholeB f then 0 else 1) := by show _ = _; unfold validF; rw [if_neg (by omega)]
  go_wp2_with fail
  refine RetV_at (rwhole_c f _ _ (mono_FmR _ _ _ _ (Ext.ple xE) hr')) ?_
  intro w3 hx3
  cases hW : wholeB f with
  | true =>
    have hv2 : Hid (validF f = 0) := by show _ = _; rw [hv.out, hW]; rfl
    go_wp2_with fail
    go_ret
    exact ⟨ret_int hv2.out.symm, xE⟩
  | false =>
    have hv2 : Hid (validF f = 1) := by show _ = _; rw [hv.out, hW]; rfl
    go_wp2_with fail
    go_ret
    exact ⟨ret_int hv2.out.symm, xE⟩
def ClR (h : PH) (cs : List Value) (c : Cl) : Prop := ∃ v fs, cs = v :: fs ∧ IntsR h v c.refs ∧ FmR h fs c.body
abbrev ClsR : PH → Value → List Cl → Prop := SliceRep ClR 5
theorem mono_ClR : Mono ClR := by
  rintro h h' cs x hl ⟨v, fs, rfl, h1, h2⟩
  exact ⟨v, fs, rfl, h1.mono mono_IntR hl, mono_FmR _ _ _ _ hl h2⟩
def clC (c : Cl) (a1 : Option Addr) (c1 : Nat) (a3 : Option Addr) (c3 : Nat) (a4 : Option Addr) (c4 : Nat) : List Value :=
  [.slice a1 c.refs.length c1, .int .i64 c.body.op, .int .i64 c.body.n, .slice a3 c.body.inn.length c3, .slice a4 c.body.kids.length c4]
theorem ClR.form {h : PH} {cs : List Value} {c : Cl} (hr : ClR h cs c) : ∃ a1 c1 a3 c3 a4 c4, cs = clC c a1 c1 a3 c3 a4 c4 ∧ c.refs.length ≤ 9223372036854775807 ∧ IntsR h (.slice a1 c.refs.length c1) c.refs ∧ FmR h (fmC c.body a3 c3 a4 c4) c.body := by
  obtain ⟨v, fs, rfl, h1, h2⟩ := hr
  obtain ⟨a1, c1, rfl, b1, h1⟩ := h1.form
  have h2' := h2
  obtain ⟨a3, c3, a4, c4, rfl, -⟩ := h2.form
  exact ⟨a1, c1, a3, c3, a4, c4, rfl, b1, h1, h2'⟩
theorem ClR.of {h : PH} {c : Cl} {a1 : Option Addr} {c1 : Nat} {a3 : Option Addr} {c3 : Nat} {a4 : Option Addr} {c4 : Nat} (h1 : IntsR h (.slice a1 c.refs.length c1) c.refs) (h2 : FmR h (fmC c.body a3 c3 a4 c4) c.body) : ClR h (clC c a1 c1 a3 c3 a4 c4) c := ⟨_, _, rfl, h1, h2⟩
theorem ClsR.at {w : World} {a : Option Addr} {n cap : Nat} {xs : List Cl} (hr : ClsR (ph w) (.slice a n cap) xs) (k : Nat) (hk : k < xs.length) :
    ∃ b o a1 c1 a3 c3 a4 c4, a = some ⟨b, o, none⟩ ∧ w.cell? ⟨b, o + k * 5, none⟩ = some (.slice a1 xs[k].refs.length c1) ∧ w.cell? ⟨b, o + k * 5 + 1, none⟩ = some (.int .i64 xs[k].body.op) ∧ w.cell? ⟨b, o + k * 5 + 2, none⟩ = some (.int .i64 xs[k].body.n) ∧
      w.cell? ⟨b, o + k * 5 + 3, none⟩ = some (.slice a3 xs[k].body.inn.length c3) ∧ w.cell? ⟨b, o + k * 5 + 4, none⟩ = some (.slice a4 xs[k].body.kids.length c4) ∧ b < w.heap.size ∧
      xs[k].refs.length ≤ 9223372036854775807 ∧ IntsR (ph w) (.slice a1 xs[k].refs.length c1) xs[k].refs ∧ FmR (ph w) (fmC xs[k].body a3 c3 a4 c4) xs[k].body := by
  obtain ⟨b, o, cs, h1, h2, h3, h4⟩ := hr.get k hk
  obtain ⟨a1, c1, a3, c3, a4, c4, rfl, b1, i1, i2⟩ := h4.form
  have h : ∀ j, j < 5 → w.cell? ⟨b, o + k * 5 + j, none⟩ = some ((clC xs[k] a1 c1 a3 c3 a4 c4).getD j undef) := fun j hj => by rw [cell_ph]; exact h3 j hj
  exact ⟨b, o, a1, c1, a3, c3, a4, c4, h1, h 0 (by omega), h 1 (by omega), h 2 (by omega), h 3 (by omega), h 4 (by omega), cell_lt (h 0 (by omega)), b1, i1, i2⟩
theorem ClsR.atH {H : PH} {w : World} {a : Option Addr} {n cap : Nat} {xs : List Cl} (hr : ClsR H (.slice a n cap) xs) (hl : PLe H (ph w)) (k : Nat) (hk : k < xs.length) :
    ∃ b o a1 c1 a3 c3 a4 c4, a = some ⟨b, o, none⟩ ∧ w.cell? ⟨b, o + k * 5, none⟩ = some (.slice a1 xs[k].refs.length c1) ∧ w.cell? ⟨b, o + k * 5 + 1, none⟩ = some (.int .i64 xs[k].body.op) ∧ w.cell? ⟨b, o + k * 5 + 2, none⟩ = some (.int .i64 xs[k].body.n) ∧
      w.cell? ⟨b, o + k * 5 + 3, none⟩ = some (.slice a3 xs[k].body.inn.length c3) ∧ w.cell? ⟨b, o + k * 5 + 4, none⟩ = some (.slice a4 xs[k].body.kids.length c4) ∧ b < w.heap.size ∧
      xs[k].refs.length ≤ 9223372036854775807 ∧ IntsR H (.slice a1 xs[k].refs.length c1) xs[k].refs ∧ FmR H (fmC xs[k].body a3 c3 a4 c4) xs[k].body := by
  obtain ⟨b, o, cs, h1, h2, h3, h4⟩ := hr.get k hk
  obtain ⟨a1, c1, a3, c3, a4, c4, rfl, b1, i1, i2⟩ := h4.form
  have h : ∀ j, j < 5 → w.cell? ⟨b, o + k * 5 + j, none⟩ = some ((clC xs[k] a1 c1 a3 c3 a4 c4).getD j undef) := fun j hj => by rw [cell_ph]; exact cellAt_mono hl (h3 j hj)
  exact ⟨b, o, a1, c1, a3, c3, a4, c4, h1, h 0 (by omega), h 1 (by omega), h 2 (by omega), h 3 (by omega), h 4 (by omega), cell_lt (h 0 (by omega)), b1, i1, i2⟩
def lastR (l : List Int) : Nat → Int
  | 0 => -1
  | k + 1 => l.getD k (-1)
theorem refsB_drop {i : Int} {l : List Int} {k : Nat} (h : k < l.length) : refsB i (lastR l k) (l.drop k) = (decide (lastR l k < l[k]) && decide (l[k] < i) && refsB i (lastR l (k + 1)) (l.drop (k + 1))) := by
  rw [List.drop_eq_getElem_cons h, refsB]
  simp [lastR, h]
theorem refs_c (v : Value) (l : List Int) (i : Nat) (w : World) (hr : IntsR (ph w) v l) (hi : i ≤ 1000000) : Calls Tryz.prog 46 #[v, .int .i64 i] w (RetV w (.bool (refsB i (-1) l))) := by
  obtain ⟨a, c, rfl, hlen, hr⟩ := hr.form
  go_enter Tryz.func46, Tryz.ntmps46
  go_wp2_with fail
  go_loopw [5, 10] (fun la j wr => ∃ k : Nat, k ≤ l.length ∧ j = .int .i64 k ∧ la = .int .i64 (lastR l k) ∧ Hid (refsB i (-1) l = refsB i (lastR l k) (l.drop k)) ∧ Ext w wr) (fun _ j _ => l.length - (intOf j).toNat)
  case atStart => exact ⟨0, Nat.zero_le _, rfl, rfl, Lib.hid rfl, xE⟩
  case round =>
    obtain ⟨k, hk, rfl, rfl, hi', hb⟩ := hrel
    by_cases hlt : k < l.length
    · have hp' := hr.mono mono_IntR hb.ple
      obtain ⟨b, o, rfl, h0, i0, hbl⟩ := IntsR.at hp' k hlt
      have hd := Lib.hid (refsB_drop (i := i) hlt)
      have hs : Hid (lastR l (k + 1) = l[k]) := by show _ = _; simp [lastR, hlt]
      generalize l[k] = x at *
      generalize lastR l k = y at *
      by_cases h1 : y < x
      · by_cases h2 : x < i
        · have b1 : decide (x ≤ y) = false := by simpa using h1
          have b2 : decide ((i : Int) ≤ x) = false := by simpa using h2
          have hn : Hid (refsB i (-1) l = refsB i (lastR l (k + 1)) (l.drop (k + 1))) := by show _ = _; rw [hi'.out, hd.out]; simp [h1, h2]
          clear hp' hr hd hi'
          go_wp2_with fail
          go_roundw
          case rel => exact ⟨k + 1, by omega, by go_num, by rw [hs.out], hn, xE⟩
          case measure => simp [intOf]; omega
        · have b1 : decide (x ≤ y) = false := by simpa using h1
          have b2 : decide ((i : Int) ≤ x) = true := by simpa using h2
          have hn : Hid (refsB i (-1) l = false) := by show _ = _; rw [hi'.out, hd.out]; simp [h2]
          clear hp' hr hd hi'
          go_wp2_with fail
          go_ret
          exact ⟨ret_bool hn.out.symm, xE⟩
      · have b1 : decide (x ≤ y) = true := by simpa using h1
        have hn : Hid (refsB i (-1) l = false) := by show _ = _; rw [hi'.out, hd.out]; simp [h1]
        clear hp' hr hd hi'
        go_wp2_with fail
        go_ret
        exact ⟨ret_bool hn.out.symm, xE⟩
    · have hn : Hid (refsB i (-1) l = true) := by show _ = _; rw [hi'.out, List.drop_eq_nil_of_le (by omega)]; rfl
      clear hr hi'
      go_wp2_with fail
      go_ret
      exact ⟨ret_bool hn.out.symm, xE⟩
set_option maxHeartbeats 1000000 in
theorem rrefs_c (v : Value) (l : List Int) (i : Nat) (w : World) (hr : IntsR (ph w) v l) (hi : i ≤ 1000000) : Calls Tryz.prog 73 #[v, .int .i64 i] w (RetV w (.bool (refsB i (-1) l))) := by
  obtain ⟨a, c, rfl, hlen, hr⟩ := hr.form
  go_enter Tryz.func73, Tryz.ntmps73
  go_wp2_with fail
  go_loopw [5] (fun j wr => ∃ k : Nat, k ≤ l.length ∧ j = .int .i64 k ∧ Hid (refsB i (-1) l = refsB i (lastR l k) (l.drop k)) ∧ -1 ≤ lastR l k ∧ Ext w wr) (fun j _ => l.length - (intOf j).toNat)
  case atStart => exact ⟨0, Nat.zero_le _, rfl, Lib.hid rfl, by simp [lastR], xE⟩
  case round =>
    obtain ⟨k, hk, rfl, hi', hge, hb⟩ := hrel
    by_cases hlt : k < l.length
    · have hp' := hr.mono mono_IntR hb.ple
      have hp2 := hp'
      obtain ⟨b, o, rfl, h0, i0, hbl⟩ := IntsR.at hp' k hlt
      have hd := Lib.hid (refsB_drop (i := i) hlt)
      have hs : Hid (lastR l (k + 1) = l[k]) := by show _ = _; simp [lastR, hlt]
      have hpr : ∀ hk0 : 0 < k, wr.cell? ⟨b, o + (k - 1), none⟩ = some (.int .i64 (lastR l k)) := by
        intro hk0
        obtain ⟨j, rfl⟩ : ∃ j, k = j + 1 := ⟨k - 1, by omega⟩
        obtain ⟨b', o', e, h0', -, -⟩ := IntsR.at hp2 j (by omega)
        cases e
        simp only [Nat.add_sub_cancel, lastR]
        rw [h0']
        simp [show j < l.length by omega]
      have hl0 : k = 0 → lastR l k = -1 := fun e => by subst e; rfl
      generalize l[k] = x at *
      generalize lastR l k = y at *
      clear hp' hp2 hr
      by_cases h1 : x < 0
      · have b1 : decide (x < 0) = true := by simpa using h1
        have hn : Hid (refsB i (-1) l = false) := by show _ = _; rw [hi'.out, hd.out, decide_eq_false (show ¬ y < x by omega)]; rfl
        clear hd hi'
        go_wp2_with fail
        (refine wp_region_I 29 (by kernel_rfl) (by kernel_rfl) ?_; simp only [List.toList_toArray, List.take_succ_cons, List.take_zero, List.drop_succ_cons, List.drop_zero])
        (repeat (first | (refine walkI_no rfl (by simp) rfl rfl rfl ?_ ?_; (focus (simp [undef]; done)); (try simp only [List.nil_append, List.cons_append])) | (refine wiA rfl (by simp) rfl ?_; (try simp only [List.nil_append, List.cons_append])) | (refine wyA rfl (by simp) rfl rfl rfl ?_; (try simp only [List.nil_append, List.cons_append]))))
        (refine walkI_nil ?_; simp only [List.nil_append, List.cons_append, fins, Is, forall_eq, Act.put, List.setIfInBounds_toArray, List.set_cons_zero, List.set_cons_succ])
        intro w2 hw2
        go_wp2_with fail
        go_ret
        exact ⟨ret_bool hn.out.symm, xE⟩
      have b1 : decide (x < 0) = false := by simpa using h1
      by_cases h2 : x < i
      · have b2 : decide ((i : Int) ≤ x) = false := by simpa using h2
        by_cases hk0 : 0 < k
        · have hq := hpr hk0
          have hw : IntKind.i64.wrap ((k : Int) - 1) = ((k - 1 : Nat) : Int) := by rw [IntKind.wrap_i64]; omega
          have hk1 : k - 1 < l.length := by omega
          have b3 : decide (0 < (k : Int)) = true := by simpa using hk0
          by_cases h3 : y < x
          · have b4 : decide (x ≤ y) = false := by simpa using h3
            have hn : Hid (refsB i (-1) l = refsB i (lastR l (k + 1)) (l.drop (k + 1))) := by show _ = _; rw [hi'.out, hd.out]; simp [h3, h2]
            clear hd hi' hpr
            go_wp2_with fail
            (refine wp_region_I 29 (by kernel_rfl) (by kernel_rfl) ?_; simp only [List.toList_toArray, List.take_succ_cons, List.take_zero, List.drop_succ_cons, List.drop_zero])
            (repeat (first | (refine walkI_no rfl (by simp) rfl rfl rfl ?_ ?_; (focus (simp [undef]; done)); (try simp only [List.nil_append, List.cons_append])) | (refine wiA rfl (by simp) rfl ?_; (try simp only [List.nil_append, List.cons_append])) | (refine wyA rfl (by simp) rfl rfl rfl ?_; (try simp only [List.nil_append, List.cons_append]))))
            (refine walkI_nil ?_; simp only [List.nil_append, List.cons_append, fins, Is, forall_eq, Act.put, List.setIfInBounds_toArray, List.set_cons_zero, List.set_cons_succ])
            intro w2 hw2
            go_wp2_with fail
            go_roundw
            case rel => exact ⟨k + 1, by omega, by go_num, hn, by rw [hs.out]; omega, xE⟩
            case measure => simp [intOf]; omega
          · have b4 : decide (x ≤ y) = true := by simpa using h3
            have hn : Hid (refsB i (-1) l = false) := by show _ = _; rw [hi'.out, hd.out]; simp [h3]
            clear hd hi' hpr
            go_wp2_with fail
            (refine wp_region_I 29 (by kernel_rfl) (by kernel_rfl) ?_; simp only [List.toList_toArray, List.take_succ_cons, List.take_zero, List.drop_succ_cons, List.drop_zero])
            (repeat (first | (refine walkI_no rfl (by simp) rfl rfl rfl ?_ ?_; (focus (simp [undef]; done)); (try simp only [List.nil_append, List.cons_append])) | (refine wiA rfl (by simp) rfl ?_; (try simp only [List.nil_append, List.cons_append])) | (refine wyA rfl (by simp) rfl rfl rfl ?_; (try simp only [List.nil_append, List.cons_append]))))
            (refine walkI_nil ?_; simp only [List.nil_append, List.cons_append, fins, Is, forall_eq, Act.put, List.setIfInBounds_toArray, List.set_cons_zero, List.set_cons_succ])
            intro w2 hw2
            go_wp2_with fail
            go_ret
            exact ⟨ret_bool hn.out.symm, xE⟩
        · have b3 : decide (0 < (k : Int)) = false := by simpa using hk0
          have hy := hl0 (by omega)
          have hn : Hid (refsB i (-1) l = refsB i (lastR l (k + 1)) (l.drop (k + 1))) := by show _ = _; rw [hi'.out, hd.out]; simp [show y < x by omega, h2]
          clear hd hi' hpr
          go_wp2_with fail
          (refine wp_region_I 29 (by kernel_rfl) (by kernel_rfl) ?_; simp only [List.toList_toArray, List.take_succ_cons, List.take_zero, List.drop_succ_cons, List.drop_zero])
          (repeat (first | (refine walkI_no rfl (by simp) rfl rfl rfl ?_ ?_; (focus (simp [undef]; done)); (try simp only [List.nil_append, List.cons_append])) | (refine wiA rfl (by simp) rfl ?_; (try simp only [List.nil_append, List.cons_append])) | (refine wyA rfl (by simp) rfl rfl rfl ?_; (try simp only [List.nil_append, List.cons_append]))))
          (refine walkI_nil ?_; simp only [List.nil_append, List.cons_append, fins, Is, forall_eq, Act.put, List.setIfInBounds_toArray, List.set_cons_zero, List.set_cons_succ])
          intro w2 hw2
          go_wp2_with fail
          go_roundw
          case rel => exact ⟨k + 1, by omega, by go_num, hn, by rw [hs.out]; omega, xE⟩
          case measure => simp [intOf]; omega
      · have b2 : decide ((i : Int) ≤ x) = true := by simpa using h2
        have hn : Hid (refsB i (-1) l = false) := by show _ = _; rw [hi'.out, hd.out]; simp [h2]
        clear hd hi' hpr
        go_wp2_with fail
        (refine wp_region_I 29 (by kernel_rfl) (by kernel_rfl) ?_; simp only [List.toList_toArray, List.take_succ_cons, List.take_zero, List.drop_succ_cons, List.drop_zero])
        (repeat (first | (refine walkI_no rfl (by simp) rfl rfl rfl ?_ ?_; (focus (simp [undef]; done)); (try simp only [List.nil_append, List.cons_append])) | (refine wiA rfl (by simp) rfl ?_; (try simp only [List.nil_append, List.cons_append])) | (refine wyA rfl (by simp) rfl rfl rfl ?_; (try simp only [List.nil_append, List.cons_append]))))
        (refine walkI_nil ?_; simp only [List.nil_append, List.cons_append, fins, Is, forall_eq, Act.put, List.setIfInBounds_toArray, List.set_cons_zero, List.set_cons_succ])
        intro w2 hw2
        go_wp2_with fail
        go_ret
        exact ⟨ret_bool hn.out.symm, xE⟩
    · have hn : Hid (refsB i (-1) l = true) := by show _ = _; rw [hi'.out, List.drop_eq_nil_of_le (by omega)]; rfl
      clear hr hi'
      go_wp2_with fail
      go_ret
      exact ⟨ret_bool hn.out.symm, xE⟩
theorem clErrs_drop {l : List Cl} {k : Nat} (h : k < l.length) : clErrs k (l.drop k) = if clErr l[k] k ≠ 0 then clErr l[k] k else clErrs (k + 1) (l.drop (k + 1)) := by
  rw [List.drop_eq_getElem_cons h, clErrs]
set_option maxHeartbeats 1000000 in
theorem cvalid_c (v : Value) (l : List Cl) (w : World) (hr : ClsR (ph w) v l) (hs : ∀ c ∈ l, c.body.bulk ≤ 900000) : Calls Tryz.prog 17 #[v] w (RetV w (.int .i64 (validC l))) := by
  obtain ⟨a, c, rfl, hlen, hr⟩ := hr.form
  by_cases hL : 32 < l.length
  · have hv : Hid (validC l = 4) := by show _ = _; unfold validC; rw [if_pos hL]
    have b1 : decide (32 < (l.length : Int)) = true := by simp; omega
    go_enter Tryz.func17, Tryz.ntmps17
    go_wp2_with fail
    go_ret
    exact ⟨ret_int hv.out.symm, xE⟩
  have b1 : decide (32 < (l.length : Int)) = false := by simp; omega
  have hv : Hid (validC l = clErrs 0 l) := by show _ = _; unfold validC; rw [if_neg hL]
  go_enter Tryz.func17, Tryz.ntmps17
  go_wp2_with fail
  go_loopw [11] (fun i wr => ∃ k : Nat, k ≤ l.length ∧ i = .int .i64 k ∧ Hid (validC l = clErrs k (l.drop k)) ∧ Ext w wr) (fun i _ => l.length - (intOf i).toNat)
  case atStart => exact ⟨0, Nat.zero_le _, rfl, Lib.hid hv.out, xE⟩
  case round =>
    obtain ⟨k, hk, rfl, hi', hb⟩ := hrel
    by_cases hlt : k < l.length
    · have hp' := hr.mono mono_ClR hb.ple
      obtain ⟨b, o, a1, c1, a3, c3, a4, c4, rfl, h0, h1, h2, h3, h4, hbl, hrl, hri, hE⟩ := ClsR.at hp' k hlt
      have hbk := hs _ (List.getElem_mem hlt)
      have hd := Lib.hid (clErrs_drop hlt)
      generalize l[k] = x at *
      unfold fmC at hE
      clear hp' hr
      by_cases h8 : 8 < x.refs.length
      · have b2 : decide (8 < (x.refs.length : Int)) = true := by simp; omega
        have hn : Hid (validC l = 4) := by show _ = _; rw [hi'.out, hd.out]; unfold clErr; rw [if_pos h8]; rfl
        go_wp2_with fail
        go_ret
        exact ⟨ret_int hn.out.symm, xE⟩
      have b2 : decide (8 < (x.refs.length : Int)) = false := by simp; omega
      go_wp2_with fail
      refine RetV_at (refs_c _ x.refs k _ (hri.mono mono_IntR (Ext.ple xE)) (by omega)) ?_
      intro w1 hx1
      have ho : Own w1 wr.heap.size #[.slice a1 x.refs.length c1, .int .i64 x.body.op, .int .i64 x.body.n, .slice a3 x.body.inn.length c3, .slice a4 x.body.kids.length c4] 58 := oE
      obtain ⟨hoc, hof⟩ := ho.facts
      have hx : Ext wr w1 := xE
      cases hR : refsB k (-1) x.refs with
      | false =>
        have hn : Hid (validC l = 1) := by show _ = _; rw [hi'.out, hd.out]; unfold clErr; rw [if_neg h8, hR]; rfl
        clear hR
        go_wp2_with fail
        go_ret
        exact ⟨ret_int hn.out.symm, xE⟩
      | true =>
        have hc : Hid (clErr x k = validF x.body) := by show _ = _; unfold clErr; rw [if_neg h8, hR]; rfl
        clear hR
        go_wp2_with fail
        refine RetV_at (fvalid_c x.body _ _ (mono_FmR _ _ _ _ (Ext.ple xE) hE) hbk) ?_
        intro w2 hx2
        have hn : Hid (validC l = if validF x.body ≠ 0 then validF x.body else clErrs (k + 1) (l.drop (k + 1))) := by show _ = _; rw [hi'.out, hd.out, hc.out]
        generalize validF x.body = e at *
        by_cases he : e = 0
        · subst he
          have hn2 : Hid (validC l = clErrs (k + 1) (l.drop (k + 1))) := by show _ = _; rw [hn.out]; rfl
          go_wp2_with fail
          go_roundw
          case rel => exact ⟨k + 1, by omega, by go_num, hn2, xE⟩
          case measure => simp [intOf]; omega
        · have hn2 : Hid (validC l = e) := by show _ = _; rw [hn.out, if_pos he]
          have b3 : (e == 0) = false := by simpa using he
          have b4 : (e != 0) = true := by simpa using he
          go_wp2_with fail
          go_ret
          exact ⟨ret_int hn2.out.symm, xE⟩
    · have hn : Hid (validC l = 0) := by show _ = _; rw [hi'.out, List.drop_eq_nil_of_le (by omega)]; rfl
      clear hr hi'
      go_wp2_with fail
      go_ret
      exact ⟨ret_int hn.out.symm, xE⟩
set_option maxHeartbeats 1000000 in
theorem rcvalid_c (v : Value) (l : List Cl) (w : World) (hr : ClsR (ph w) v l) (hs : ∀ c ∈ l, c.body.bulk ≤ 900000) : Calls Tryz.prog 34 #[v] w (RetV w (.int .i64 (validC l))) := by
  obtain ⟨a, c, rfl, hlen, hr⟩ := hr.form
  by_cases hL : 32 < l.length
  · have hv : Hid (validC l = 4) := by show _ = _; unfold validC; rw [if_pos hL]
    have b1 : decide (32 < (l.length : Int)) = true := by simp; omega
    go_enter Tryz.func34, Tryz.ntmps34
    go_wp2_with fail
    go_ret
    exact ⟨ret_int hv.out.symm, xE⟩
  have b1 : decide (32 < (l.length : Int)) = false := by simp; omega
  have hv : Hid (validC l = clErrs 0 l) := by show _ = _; unfold validC; rw [if_neg hL]
  go_enter Tryz.func34, Tryz.ntmps34
  go_wp2_with fail
  go_loopw [3] (fun i wr => ∃ k : Nat, k ≤ l.length ∧ i = .int .i64 k ∧ Hid (validC l = clErrs k (l.drop k)) ∧ Ext w wr) (fun i _ => l.length - (intOf i).toNat)
  case atStart => exact ⟨0, Nat.zero_le _, rfl, Lib.hid hv.out, xE⟩
  case round =>
    obtain ⟨k, hk, rfl, hi', hb⟩ := hrel
    by_cases hlt : k < l.length
    · have hp' := hr.mono mono_ClR hb.ple
      obtain ⟨b, o, a1, c1, a3, c3, a4, c4, rfl, h0, h1, h2, h3, h4, hbl, hrl, hri, hE⟩ := ClsR.at hp' k hlt
      have hbk := hs _ (List.getElem_mem hlt)
      have hd := Lib.hid (clErrs_drop hlt)
      generalize l[k] = x at *
      unfold fmC at hE
      clear hp' hr
      by_cases h8 : 8 < x.refs.length
      · have b2 : decide (8 < (x.refs.length : Int)) = true := by simp; omega
        have hn : Hid (validC l = 4) := by show _ = _; rw [hi'.out, hd.out]; unfold clErr; rw [if_pos h8]; rfl
        go_wp2_with fail
        go_ret
        exact ⟨ret_int hn.out.symm, xE⟩
      have b2 : decide (8 < (x.refs.length : Int)) = false := by simp; omega
      go_wp2_with fail
      refine RetV_at (rrefs_c _ x.refs k _ (hri.mono mono_IntR (Ext.ple xE)) (by omega)) ?_
      intro w1 hx1
      obtain ⟨gc, gf, gs⟩ := hx1.cells
      skip
      have hx : Ext wr w1 := xE
      cases hR : refsB k (-1) x.refs with
      | false =>
        have hn : Hid (validC l = 1) := by show _ = _; rw [hi'.out, hd.out]; unfold clErr; rw [if_neg h8, hR]; rfl
        clear hR
        go_wp2_with fail
        go_ret
        exact ⟨ret_int hn.out.symm, xE⟩
      | true =>
        have hc : Hid (clErr x k = validF x.body) := by show _ = _; unfold clErr; rw [if_neg h8, hR]; rfl
        clear hR
        go_wp2_with fail
        refine RetV_at (rfvalid_c x.body _ _ (mono_FmR _ _ _ _ (Ext.ple xE) hE) hbk) ?_
        intro w2 hx2
        have hn : Hid (validC l = if validF x.body ≠ 0 then validF x.body else clErrs (k + 1) (l.drop (k + 1))) := by show _ = _; rw [hi'.out, hd.out, hc.out]
        generalize validF x.body = e at *
        by_cases he : e = 0
        · subst he
          have hn2 : Hid (validC l = clErrs (k + 1) (l.drop (k + 1))) := by show _ = _; rw [hn.out]; rfl
          go_wp2_with fail
          go_roundw
          case rel => exact ⟨k + 1, by omega, by go_num, hn2, xE⟩
          case measure => simp [intOf]; omega
        · have hn2 : Hid (validC l = e) := by show _ = _; rw [hn.out, if_pos he]
          have b3 : (e == 0) = false := by simpa using he
          have b4 : (e != 0) = true := by simpa using he
          go_wp2_with fail
          go_ret
          exact ⟨ret_int hn2.out.symm, xE⟩
    · have hn : Hid (validC l = 0) := by show _ = _; rw [hi'.out, List.drop_eq_nil_of_le (by omega)]; rfl
      clear hr hi'
      go_wp2_with fail
      go_ret
      exact ⟨ret_int hn.out.symm, xE⟩
theorem ccheck_c (v : Value) (l : List Cl) (i : Int) (w : World) (hr : ClsR (ph w) v l) (hs : ∀ c ∈ l, c.body.bulk ≤ 900000) : Calls Tryz.prog 80 #[v, .int .i64 i] w (RetV w (.int .i64 (checkC l i))) := by
  have hr' := hr
  obtain ⟨a, c, rfl, hlen, -⟩ := hr.form
  go_enter Tryz.func80, Tryz.ntmps80
  go_wp2_with fail
  refine RetV_at (cvalid_c _ l _ (hr'.mono mono_ClR (Ext.ple xE)) hs) ?_
  intro w1 hx1
  have hc : Hid (checkC l i = if validC l ≠ 0 then validC l else if i < 0 ∨ (l.length : Int) ≤ i then 7 else 0) := Lib.hid rfl
  generalize validC l = e at *
  clear hr hr'
  by_cases he : e = 0
  · subst he
    have hc2 : Hid (checkC l i = if i < 0 ∨ (l.length : Int) ≤ i then 7 else 0) := by show _ = _; rw [hc.out]; rfl
    by_cases h1 : i < 0
    · have hn : Hid (checkC l i = 7) := by show _ = _; rw [hc2.out, if_pos (.inl h1)]
      have b1 : decide (i < 0) = true := by simpa using h1
      go_wp2_with fail
      go_ret
      exact ⟨ret_int hn.out.symm, xE⟩
    have b1 : decide (i < 0) = false := by simpa using h1
    by_cases h2 : (l.length : Int) ≤ i
    · have hn : Hid (checkC l i = 7) := by show _ = _; rw [hc2.out, if_pos (.inr h2)]
      have b2 : decide ((l.length : Int) ≤ i) = true := by simpa using h2
      go_wp2_with fail
      go_ret
      exact ⟨ret_int hn.out.symm, xE⟩
    have b2 : decide ((l.length : Int) ≤ i) = false := by simpa using h2
    have hn : Hid (checkC l i = 0) := by show _ = _; rw [hc2.out, if_neg (by omega)]
    go_wp2_with fail
    go_ret
    exact ⟨ret_int hn.out.symm, xE⟩
  · have hn : Hid (checkC l i = e) := by show _ = _; rw [hc.out, if_pos he]
    have b3 : (e == 0) = false := by simpa using he
    have b4 : (e != 0) = true := by simpa using he
    go_wp2_with fail
    go_ret
    exact ⟨ret_int hn.out.symm, xE⟩
end Go.Proofs.YtnpnjcaomakehaaGreat
namespace Go.Proofs.YtnpnjcaomakehaaGreat
open Go.RowKit Go.Shelf
theorem one7_c (b : Bool) (w : World) : Calls Tryz.prog 90 #[.bool b] w (RetP w (.int .i64 (oneI b))) := by
  cases b with
  | true =>
    go_enter Tryz.func90, Tryz.ntmps90
    go_wp2_with fail
    go_ret
    exact ⟨rfl, rfl⟩
  | false =>
    go_enter Tryz.func90, Tryz.ntmps90
    go_wp2_with fail
    go_ret
    exact ⟨rfl, rfl⟩
theorem oneI_I64 (b : Bool) : I64 (oneI b) := by cases b <;> simp [oneI, I64]
def intC (l : List Int) : List Value := l.map (Value.int .i64)
theorem cells_ints {h : PH} : ∀ {l : List Int}, (∀ x ∈ l, I64 x) → Cells h IntR 1 (intC l) l
  | [], _ => rfl
  | x :: xs, hx => ⟨[.int .i64 x], intC xs, rfl, rfl, ⟨rfl, hx x (by simp)⟩, cells_ints fun y hy => hx y (by simp [hy])⟩
theorem ordI_I64 {x : Itv} (hx : x.I) : ∀ z ∈ ordI x, I64 z := by
  obtain ⟨⟨h1, h2⟩, h3, h4⟩ := hx
  intro z hz
  simp only [ordI, List.mem_cons, List.not_mem_nil, or_false] at hz
  rcases hz with rfl | rfl | rfl | rfl | rfl | rfl | rfl | rfl <;> first | exact oneI_I64 _ | assumption
theorem Src.ints {H : PH} {w : World} {g n : Nat} {l : List Int} (hl : ∀ x ∈ l, I64 x) (ho : Own w g (intC l).toArray 3) (hn : n = l.length) : Src w H IntR 1 (.slice (some ⟨g, 0, none⟩) n n) l := by
  subst hn
  refine ⟨_, _, rfl, Nat.le_refl _, .inr ⟨_, _, rfl, cells_ints hl, fun j u hu => ?_⟩⟩
  rw [add0, ho.facts.1 j]
  simpa using hu
def NewSl (W0 : World) (c : Array Value) (T : TypeId) (n : Nat) (v : Value) (w : World) : Prop := ∃ g, v = .slice (some ⟨g, 0, none⟩) n n ∧ Own w g c T ∧ W0.heap.size ≤ g
theorem stab_NewSl {W : World} (W0 : World) (c : Array Value) (T : TypeId) (n : Nat) : Stable W (NewSl W0 c T n) := fun v w w' _ ⟨g, h1, h2, h3⟩ e => ⟨g, h1, h2.keep e, h3⟩
set_option maxRecDepth 100000 in
set_option maxHeartbeats 2000000 in
theorem order_c (f : Fm) (cs : List Value) (w : World) (hr : FmR (ph w) cs f) (hlen : f.inn.length ≤ 100000) : Calls Tryz.prog 91 #[.agg cs.toArray] w fun e w' => ∃ v, e = .returned v ∧ Ext w w' ∧ OwnS w.heap.size noH w' IntR 1 3 v (ordF f) := by
  obtain ⟨a3, c3, a4, c4, rfl, i1, i2, hil, hkl, hi, hk⟩ := hr.form
  unfold fmC
  clear hr hk
  have hof := Lib.hid (show ordF f = ([f.op, f.n, (f.inn.length : Int)] ++ f.inn.flatMap ordI) ++ [(f.kids.length : Int)] from rfl)
  have i3 : I64 (f.inn.length : Int) := by unfold I64; omega
  have i4 : I64 (f.kids.length : Int) := by unfold I64; omega
  go_enter Tryz.func91, Tryz.ntmps91
  go_wp2_with fail
  have hM := (((Mem.start w noH (noH_le _)).new #[.int .i64 f.op, .int .i64 f.n, .slice a3 f.inn.length c3, .slice a4 f.kids.length c4] 50).new' #[.int .i64 f.op, .int .i64 f.n, .int .i64 f.inn.length] 3 (n := w.heap.size + 1) (by simp)).asOwn 1 rfl mono_IntR (sz := 1) (xs := [f.op, f.n, (f.inn.length : Int)]) (n := 3) (by simp) (by simp [maxLen]) rfl
    (cells_ints (l := [f.op, f.n, (f.inn.length : Int)]) (by simp; exact ⟨i1, i2, i3⟩))
  simp only [List.nil_append, List.cons_append, List.set_cons_succ, List.set_cons_zero, List.length_cons, List.length_nil, Nat.zero_add, Nat.reduceAdd] at hM
  go_loopw [3, 4] (fun v i wr => ∃ k : Nat, k ≤ f.inn.length ∧ i = .int .i64 k ∧ Mem w noH [box w.heap.size #[.int .i64 f.op, .int .i64 f.n, .slice a3 f.inn.length c3, .slice a4 f.kids.length c4] 50, own mono_IntR 1 3 v ([f.op, f.n, (f.inn.length : Int)] ++ (f.inn.take k).flatMap ordI)] noH wr) (fun _ i _ => f.inn.length - (intOf i).toNat)
  case atStart => exact ⟨0, Nat.zero_le _, rfl, hM⟩
  case round =>
    obtain ⟨k, hk, rfl, hM⟩ := hrel
    obtain ⟨kc, kf⟩ := (hM.box 0 rfl).facts
    have k2 : _ = some (Value.slice a3 f.inn.length c3) := kc 2
    have k3 : _ = some (Value.slice a4 f.kids.length c4) := kc 3
    have hbl0 := (hM.box 0 rfl).lt
    by_cases hlt : k < f.inn.length
    · obtain ⟨b, o, rfl, h0, h1, h2, h3, h4, h5, h6, h7, hbl, hI⟩ := ItvsR.at (hi.mono mono_ItvR hM.ex.ple) k hlt
      have hstep : Hid (([f.op, f.n, (f.inn.length : Int)] ++ (f.inn.take k).flatMap ordI) ++ ordI f.inn[k] = [f.op, f.n, (f.inn.length : Int)] ++ (f.inn.take (k + 1)).flatMap ordI) := by
        show _ = _; rw [List.take_succ_eq_append_getElem hlt, List.flatMap_append, List.append_assoc]; simp
      have hll : ([f.op, f.n, (f.inn.length : Int)] ++ (f.inn.take k).flatMap ordI).length ≤ 1000000 := by rw [List.length_append, ordIs_len, List.length_take]; simp; omega
      have hoI := ordI_I64 hI
      generalize [f.op, f.n, (f.inn.length : Int)] ++ (f.inn.take k).flatMap ordI = pre at *
      generalize f.inn[k] = x at *
      obtain ⟨ga, gn, rfl, -⟩ := hM.form 1 rfl
      clear hi kc
      obtain ⟨⟨p, q⟩, ⟨r, s⟩, lO, rO, lI, rI⟩ := x
      dsimp only at *
      go_wp2_with fail
      have hM2 := hM.new #[.int .i64 p, .int .i64 q, .int .i64 r, .int .i64 s, .bool lO, .bool rO, .bool lI, .bool rI] 92
      simp only [List.nil_append, List.cons_append] at hM2
      have hBl := (hM2.box 2 rfl).lt
      obtain ⟨bc, bf⟩ := (hM2.box 2 rfl).facts
      clear hM h0 h1 h2 h3 h4 h5 h6 h7 kf k2 k3
      generalize wr.alloc _ = W at *
      have m0 : _ = some (Value.int .i64 p) := bc 0
      have m1 : _ = some (Value.int .i64 q) := bc 1
      have m2 : _ = some (Value.int .i64 r) := bc 2
      have m3 : _ = some (Value.int .i64 s) := bc 3
      have m4 : _ = some (Value.bool lO) := bc 4
      have m5 : _ = some (Value.bool rO) := bc 5
      have m6 : _ = some (Value.bool lI) := bc 6
      have m7 : _ = some (Value.bool rI) := bc 7
      clear bc
      (refine wp_region_I 26 (by kernel_rfl) (by kernel_rfl) ?_; simp only [List.toList_toArray, List.take_succ_cons, List.take_zero, List.drop_succ_cons, List.drop_zero])
      iterate 3 (refine wiA rfl (by simp) rfl ?_; (try simp only [List.nil_append, List.cons_append]))
      (refine walkI_is (u := ?_) rfl (by simp) rfl ?_ ?_; rotate_left; (focus (intro A w' hS hA K hK; (simp only [List.map_cons, List.map_nil, knows, Is, Op.operands, Call.operands, List.lookup_cons, List.lookup_nil, Nat.reduceBEq, Bool.false_eq_true, if_false, if_true, Act.eval, Array.getD_eq_getD_getElem?, List.getElem?_toArray, List.getElem?_cons_succ, List.getElem?_cons_zero, Option.getD_some, and_true, true_and, List.append_toArray, List.nil_append, List.cons_append, List.toList_toArray, Array.toList_append, Option.toArray, List.append_nil] at hA); first | (go_simp; refine RetP_at (one7_c _ _) ?_; exact hK _ xE) | (obtain ⟨hSc, hSf, hSs⟩ := hS.cells; go_simp; exact hK _ xN))); (try simp only [List.nil_append, List.cons_append]))
      iterate 2 (refine wiA rfl (by simp) rfl ?_; (try simp only [List.nil_append, List.cons_append]))
      (refine walkI_is (u := ?_) rfl (by simp) rfl ?_ ?_; rotate_left; (focus (intro A w' hS hA K hK; (simp only [List.map_cons, List.map_nil, knows, Is, Op.operands, Call.operands, List.lookup_cons, List.lookup_nil, Nat.reduceBEq, Bool.false_eq_true, if_false, if_true, Act.eval, Array.getD_eq_getD_getElem?, List.getElem?_toArray, List.getElem?_cons_succ, List.getElem?_cons_zero, Option.getD_some, and_true, true_and, List.append_toArray, List.nil_append, List.cons_append, List.toList_toArray, Array.toList_append, Option.toArray, List.append_nil] at hA); first | (go_simp; refine RetP_at (one7_c _ _) ?_; exact hK _ xE) | (obtain ⟨hSc, hSf, hSs⟩ := hS.cells; go_simp; exact hK _ xN))); (try simp only [List.nil_append, List.cons_append]))
      iterate 8 (refine wiA rfl (by simp) rfl ?_; (try simp only [List.nil_append, List.cons_append]))
      (refine walkI_is (u := ?_) rfl (by simp) rfl ?_ ?_; rotate_left; (focus (intro A w' hS hA K hK; (simp only [List.map_cons, List.map_nil, knows, Is, Op.operands, Call.operands, List.lookup_cons, List.lookup_nil, Nat.reduceBEq, Bool.false_eq_true, if_false, if_true, Act.eval, Array.getD_eq_getD_getElem?, List.getElem?_toArray, List.getElem?_cons_succ, List.getElem?_cons_zero, Option.getD_some, and_true, true_and, List.append_toArray, List.nil_append, List.cons_append, List.toList_toArray, Array.toList_append, Option.toArray, List.append_nil] at hA); first | (go_simp; refine RetP_at (one7_c _ _) ?_; exact hK _ xE) | (obtain ⟨hSc, hSf, hSs⟩ := hS.cells; go_simp; exact hK _ xN))); (try simp only [List.nil_append, List.cons_append]))
      iterate 2 (refine wiA rfl (by simp) rfl ?_; (try simp only [List.nil_append, List.cons_append]))
      (refine walkI_is (u := ?_) rfl (by simp) rfl ?_ ?_; rotate_left; (focus (intro A w' hS hA K hK; (simp only [List.map_cons, List.map_nil, knows, Is, Op.operands, Call.operands, List.lookup_cons, List.lookup_nil, Nat.reduceBEq, Bool.false_eq_true, if_false, if_true, Act.eval, Array.getD_eq_getD_getElem?, List.getElem?_toArray, List.getElem?_cons_succ, List.getElem?_cons_zero, Option.getD_some, and_true, true_and, List.append_toArray, List.nil_append, List.cons_append, List.toList_toArray, Array.toList_append, Option.toArray, List.append_nil] at hA); first | (go_simp; refine RetP_at (one7_c _ _) ?_; exact hK _ xE) | (obtain ⟨hSc, hSf, hSs⟩ := hS.cells; go_simp; exact hK _ xN))); (try simp only [List.nil_append, List.cons_append]))
      iterate 6 (refine wiA rfl (by simp) rfl ?_; (try simp only [List.nil_append, List.cons_append]))
      (refine walkI_step (NewSl W (intC (ordI ⟨⟨p, q⟩, ⟨r, s⟩, lO, rO, lI, rI⟩)).toArray 3 8) rfl (by simp) rfl (stab_NewSl _ _ _ _) ?_ ?_; (focus (intro A w' hS hA K hK; (simp only [List.map_cons, List.map_nil, knows, Is, Op.operands, Call.operands, List.lookup_cons, List.lookup_nil, Nat.reduceBEq, Bool.false_eq_true, if_false, if_true, Act.eval, Array.getD_eq_getD_getElem?, List.getElem?_toArray, List.getElem?_cons_succ, List.getElem?_cons_zero, Option.getD_some, and_true, true_and, List.append_toArray, List.nil_append, List.cons_append, List.toList_toArray, Array.toList_append, Option.toArray, List.append_nil] at hA); (have hs' := hS.size; go_simp; exact hK _ _ (Ext.new _ _) ⟨_, rfl, Own.new _ _ _, by omega⟩))); (try simp only [List.nil_append, List.cons_append]))
      (refine walkI_nil ?_; simp only [List.nil_append, List.cons_append, fins, Is, forall_eq, Act.put, List.setIfInBounds_toArray, List.set_cons_zero, List.set_cons_succ])
      rintro w2 hx2 v9 ⟨g, rfl, ho, hg⟩
      have hM3 := hM2.ext hx2
      have hS8 := Src.ints (H := noH) (n := 8) hoI ho rfl
      clear m0 m1 m2 m3 m4 m5 m6 m7 bf
      go_wp2_with (at_builtin; refine wpList_append_M 1 rfl _ _ 22 rfl Tryz.underlying22 infoInt rfl rfl rfl (hM3) rfl (hS8) one_IntR ?c3 ?c4 ?c5)
      case c3 => simp [ordI]; omega
      case c4 => simp [ordI]; omega
      case c5 =>
        intro v' w3 hM4
        try simp only [List.set_cons_succ, List.set_cons_zero] at hM4
        rw [hstep.out] at hM4
        go_wp2_with fail
        go_roundw
        case rel =>
          have hM5 := hM4.pick [0, 1] (by simp)
          simp only [List.map_cons, List.map_nil, List.getElem?_cons_zero, List.getElem?_cons_succ, Option.getD_some] at hM5
          exact ⟨k + 1, by omega, by go_num, hM5⟩
        case measure => simp [intOf]; omega
    · rw [List.take_of_length_le (by omega)] at hM
      have hll : ([f.op, f.n, (f.inn.length : Int)] ++ f.inn.flatMap ordI).length ≤ 1000000 := by rw [List.length_append, ordIs_len]; simp; omega
      generalize [f.op, f.n, (f.inn.length : Int)] ++ f.inn.flatMap ordI = pre at *
      obtain ⟨ga, gn, rfl, -⟩ := hM.form 1 rfl
      clear hi kc
      have hM2 := hM.ext (Ext.new wr (.cells #[.int .i64 f.kids.length] 3))
      have hS1 := Src.ints (H := noH) (n := 1) (l := [(f.kids.length : Int)]) (by simpa using i4) (Own.new wr #[.int .i64 f.kids.length] 3) rfl
      go_wp2_with (at_builtin; refine wpList_append_M 1 rfl _ _ 22 rfl Tryz.underlying22 infoInt rfl rfl rfl (hM2) rfl (hS1) one_IntR ?c3 ?c4 ?c5)
      case c3 => simp; omega
      case c4 => simp; omega
      case c5 =>
        intro v' w3 hM4
        try simp only [List.set_cons_succ, List.set_cons_zero] at hM4
        rw [← hof.out] at hM4
        go_wp2_with fail
        go_ret
        exact ⟨_, rfl, hM4.ex, hM4.ownS 1 rfl⟩
theorem cmpZ_drop {x y : List Int} {k : Nat} (h1 : k < x.length) (h2 : k < y.length) : cmpZ (x.drop k) (y.drop k) = if x[k] < y[k] then -1 else if y[k] < x[k] then 1 else cmpZ (x.drop (k + 1)) (y.drop (k + 1)) := by
  rw [List.drop_eq_getElem_cons h1, List.drop_eq_getElem_cons h2, cmpZ]
theorem cmpZ_end {x y : List Int} {k : Nat} (h : x.length ≤ k ∨ y.length ≤ k) : cmpZ (x.drop k) (y.drop k) = 0 := by
  rcases h with h | h
  · rw [List.drop_eq_nil_of_le h]; rfl
  · rw [List.drop_eq_nil_of_le h]; cases x.drop k <;> rfl
theorem cmpFs_drop {x y : List Fm} {k : Nat} (h1 : k < x.length) (h2 : k < y.length) : cmpFs (x.drop k) (y.drop k) = if cmpF x[k] y[k] ≠ 0 then cmpF x[k] y[k] else cmpFs (x.drop (k + 1)) (y.drop (k + 1)) := by
  rw [List.drop_eq_getElem_cons h1, List.drop_eq_getElem_cons h2, cmpFs]
set_option maxRecDepth 100000 in
set_option maxHeartbeats 4000000 in
theorem rcmp_c (f : Fm) : ∀ (g : Fm) (cs ds : List Value) (w : World), FmR (ph w) cs f → FmR (ph w) ds g → f.bulk ≤ 100000 → g.bulk ≤ 100000 →
    Calls Tryz.prog 57 #[.agg cs.toArray, .agg ds.toArray] w (RetV w (.int .i64 (cmpF f g))) := by
  induction f using Fm.ind with
  | h f ih =>
    intro g cs ds w hr hq hb1 hb2
    have hr' := hr
    have hq' := hq
    obtain ⟨a3, c3, a4, c4, rfl, -, -, hil, hkl, hi, hk⟩ := hr.form
    obtain ⟨b3, d3, b4, d4, rfl, -, -, gil, gkl, gi, gk⟩ := hq.form
    unfold fmC at *
    clear hr hq hi gi
    have hbf := f.bulk_eq
    have hbg := g.bulk_eq
    have hkf := f.kids_le
    have hkg := g.kids_le
    have hE := Lib.hid (cmpF_eq f g)
    have HI := Lib.hid ih; clear ih
    go_enter Tryz.func57, Tryz.ntmps57
    go_wp2_with fail
    have hM0 := ((Mem.start w noH (noH_le _)).new #[.int .i64 f.op, .int .i64 f.n, .slice a3 f.inn.length c3, .slice a4 f.kids.length c4] 50).new' #[.int .i64 g.op, .int .i64 g.n, .slice b3 g.inn.length d3, .slice b4 g.kids.length d4] 50 (n := w.heap.size + 1) (by simp)
    simp only [List.nil_append, List.cons_append] at hM0
    refine (order_c f _ _ (mono_FmR _ _ _ _ (Ext.ple xE) hr') (by omega)).mono ?_
    rintro e w1 ⟨v1, rfl, hx1, ho1⟩
    obtain ⟨H1, -, -, hM1⟩ := hM0.take hx1 ho1 mono_IntR (noH_le _)
    simp only [List.nil_append, List.cons_append] at hM1
    obtain ⟨kc, kf⟩ := (hM1.box 0 rfl).facts
    obtain ⟨lc, lf⟩ := (hM1.box 1 rfl).facts
    have hl1 := (hM1.box 1 rfl).lt
    clear hM0 hx1 ho1
    go_wp2_with fail
    refine (order_c g _ _ (mono_FmR _ _ _ _ hM1.ex.ple hq') (by omega)).mono ?_
    rintro e w2 ⟨v2, rfl, hx2, ho2⟩
    obtain ⟨H2, -, -, hM2⟩ := hM1.take hx2 ho2 mono_IntR (noH_le _)
    simp only [List.nil_append, List.cons_append] at hM2
    clear hM1 hx2 ho2 kc kf lc lf hl1
    have hR1 := hM2.rep 2 rfl
    have hR2 := hM2.rep 3 rfl
    obtain ⟨xa, xc, rfl, xlen, hR1⟩ := hR1.form
    obtain ⟨ya, yc, rfl, ylen, hR2⟩ := hR2.form
    have hkids : cmpZ (ordF f) (ordF g) = 0 → f.kids.length = g.kids.length ∧ (ordF f).length = (ordF g).length := fun h => ⟨(ordF_0 (a := f) (b := g) h).2.2.2, by rw [ordF_len, ordF_len, (ordF_0 (a := f) (b := g) h).2.2.1]⟩
    have hB1 := hM2.box 0 rfl
    have hB2 := hM2.box 1 rfl
    have hX := hM2.ex
    clear hM2
    generalize hx : ordF f = X at *
    generalize hy : ordF g = Y at *
    replace hx := Lib.hid hx
    replace hy := Lib.hid hy
    replace hkids := Lib.hid hkids
    go_wp2_with fail
    go_loopw [7] (fun i wr => ∃ k : Nat, k ≤ X.length ∧ k ≤ Y.length ∧ i = .int .i64 k ∧ Hid (cmpZ X Y = cmpZ (X.drop k) (Y.drop k)) ∧ Ext w2 wr) (fun i _ => X.length - (intOf i).toNat)
    case atStart => exact ⟨0, Nat.zero_le _, Nat.zero_le _, rfl, Lib.hid rfl, xE⟩
    case round =>
      obtain ⟨k, hk1, hk2, rfl, hZ, hxr⟩ := hrel
      by_cases hlt1 : k < X.length
      · by_cases hlt2 : k < Y.length
        · obtain ⟨b, o, rfl, h0, i0, hbl⟩ := IntsR.at (hR1.mono mono_IntR hxr.ple) k hlt1
          obtain ⟨b', o', rfl, h0', i0', hbl'⟩ := IntsR.at (hR2.mono mono_IntR hxr.ple) k hlt2
          have hd := Lib.hid (cmpZ_drop hlt1 hlt2)
          generalize X[k] = x at *
          generalize Y[k] = y at *
          clear hR1 hR2 hk gk hB1 hB2
          by_cases h1 : x < y
          · have b1 : decide (x < y) = true := by simpa using h1
            have hn : Hid (cmpF f g = -1) := by show _ = _; rw [hE.out, hZ.out, hd.out, if_pos h1]; rfl
            clear hd
            go_wp2_with fail
            (refine wp_region_calm (S := fun w' => Ext _ w') (by kernel_rfl) (by kernel_rfl) (Ext.rfl' _).drew' ?_; (try simp only [List.toList_toArray]); (repeat (first | (refine walkF_skip ?_ ?_; (focus rfl); (try simp only [Act.put, List.setIfInBounds_toArray, List.set_cons_zero, List.set_cons_succ])) | (refine walkF_step (v := ?_) rfl ?_ ?_ ?_; rotate_left; (focus rfl); (focus (intro w' hS A hA K hK; (simp only [agrees, Op.operands, Call.operands, Act.eval, Array.getD_eq_getD_getElem?, List.getElem?_toArray, List.getElem?_cons_succ, List.getElem?_cons_zero, Option.getD_some, and_true, true_and, List.append_toArray, List.nil_append, List.cons_append, List.toList_toArray, Array.toList_append] at hA); (obtain ⟨hSc, hSf, hSs⟩ := hS.cells; go_simp; exact hK _ hS))); (try simp only [Act.put, List.setIfInBounds_toArray, List.set_cons_zero, List.set_cons_succ])))); refine walkF_nil ?_)
            intro w3 hw3
            go_wp2_with fail
            go_ret
            exact ⟨ret_int hn.out.symm, xE⟩
          have b1 : decide (x < y) = false := by simpa using h1
          by_cases h2 : y < x
          · have b2 : decide (y < x) = true := by simpa using h2
            have hn : Hid (cmpF f g = 1) := by show _ = _; rw [hE.out, hZ.out, hd.out, if_neg h1, if_pos h2]; rfl
            clear hd
            go_wp2_with fail
            (refine wp_region_calm (S := fun w' => Ext _ w') (by kernel_rfl) (by kernel_rfl) (Ext.rfl' _).drew' ?_; (try simp only [List.toList_toArray]); (repeat (first | (refine walkF_skip ?_ ?_; (focus rfl); (try simp only [Act.put, List.setIfInBounds_toArray, List.set_cons_zero, List.set_cons_succ])) | (refine walkF_step (v := ?_) rfl ?_ ?_ ?_; rotate_left; (focus rfl); (focus (intro w' hS A hA K hK; (simp only [agrees, Op.operands, Call.operands, Act.eval, Array.getD_eq_getD_getElem?, List.getElem?_toArray, List.getElem?_cons_succ, List.getElem?_cons_zero, Option.getD_some, and_true, true_and, List.append_toArray, List.nil_append, List.cons_append, List.toList_toArray, Array.toList_append] at hA); (obtain ⟨hSc, hSf, hSs⟩ := hS.cells; go_simp; exact hK _ hS))); (try simp only [Act.put, List.setIfInBounds_toArray, List.set_cons_zero, List.set_cons_succ])))); refine walkF_nil ?_)
            intro w3 hw3
            replace h0 := hw3.cell1 h0
            replace h0' := hw3.cell1 h0'
            replace hbl := cell_lt h0
            replace hbl' := cell_lt h0'
            go_wp2_with fail
            (refine wp_region_calm (S := fun w' => Ext _ w') (by kernel_rfl) (by kernel_rfl) (Ext.rfl' _).drew' ?_; (try simp only [List.toList_toArray]); (repeat (first | (refine walkF_skip ?_ ?_; (focus rfl); (try simp only [Act.put, List.setIfInBounds_toArray, List.set_cons_zero, List.set_cons_succ])) | (refine walkF_step (v := ?_) rfl ?_ ?_ ?_; rotate_left; (focus rfl); (focus (intro w' hS A hA K hK; (simp only [agrees, Op.operands, Call.operands, Act.eval, Array.getD_eq_getD_getElem?, List.getElem?_toArray, List.getElem?_cons_succ, List.getElem?_cons_zero, Option.getD_some, and_true, true_and, List.append_toArray, List.nil_append, List.cons_append, List.toList_toArray, Array.toList_append] at hA); (obtain ⟨hSc, hSf, hSs⟩ := hS.cells; go_simp; exact hK _ hS))); (try simp only [Act.put, List.setIfInBounds_toArray, List.set_cons_zero, List.set_cons_succ])))); refine walkF_nil ?_)
            intro w4 hw4
            go_wp2_with fail
            go_ret
            exact ⟨ret_int hn.out.symm, xE⟩
          · have b2 : decide (y < x) = false := by simpa using h2
            have hn : Hid (cmpZ X Y = cmpZ (X.drop (k + 1)) (Y.drop (k + 1))) := by show _ = _; rw [hZ.out, hd.out, if_neg h1, if_neg h2]
            clear hd
            go_wp2_with fail
            (refine wp_region_calm (S := fun w' => Ext _ w') (by kernel_rfl) (by kernel_rfl) (Ext.rfl' _).drew' ?_; (try simp only [List.toList_toArray]); (repeat (first | (refine walkF_skip ?_ ?_; (focus rfl); (try simp only [Act.put, List.setIfInBounds_toArray, List.set_cons_zero, List.set_cons_succ])) | (refine walkF_step (v := ?_) rfl ?_ ?_ ?_; rotate_left; (focus rfl); (focus (intro w' hS A hA K hK; (simp only [agrees, Op.operands, Call.operands, Act.eval, Array.getD_eq_getD_getElem?, List.getElem?_toArray, List.getElem?_cons_succ, List.getElem?_cons_zero, Option.getD_some, and_true, true_and, List.append_toArray, List.nil_append, List.cons_append, List.toList_toArray, Array.toList_append] at hA); (obtain ⟨hSc, hSf, hSs⟩ := hS.cells; go_simp; exact hK _ hS))); (try simp only [Act.put, List.setIfInBounds_toArray, List.set_cons_zero, List.set_cons_succ])))); refine walkF_nil ?_)
            intro w3 hw3
            replace h0 := hw3.cell1 h0
            replace h0' := hw3.cell1 h0'
            replace hbl := cell_lt h0
            replace hbl' := cell_lt h0'
            go_wp2_with fail
            (refine wp_region_calm (S := fun w' => Ext _ w') (by kernel_rfl) (by kernel_rfl) (Ext.rfl' _).drew' ?_; (try simp only [List.toList_toArray]); (repeat (first | (refine walkF_skip ?_ ?_; (focus rfl); (try simp only [Act.put, List.setIfInBounds_toArray, List.set_cons_zero, List.set_cons_succ])) | (refine walkF_step (v := ?_) rfl ?_ ?_ ?_; rotate_left; (focus rfl); (focus (intro w' hS A hA K hK; (simp only [agrees, Op.operands, Call.operands, Act.eval, Array.getD_eq_getD_getElem?, List.getElem?_toArray, List.getElem?_cons_succ, List.getElem?_cons_zero, Option.getD_some, and_true, true_and, List.append_toArray, List.nil_append, List.cons_append, List.toList_toArray, Array.toList_append] at hA); (obtain ⟨hSc, hSf, hSs⟩ := hS.cells; go_simp; exact hK _ hS))); (try simp only [Act.put, List.setIfInBounds_toArray, List.set_cons_zero, List.set_cons_succ])))); refine walkF_nil ?_)
            intro w4 hw4
            go_wp2_with fail
            go_roundw
            case rel => exact ⟨k + 1, by omega, by omega, by go_num, hn, xE⟩
            case measure => simp [intOf]; omega
        · have hZ0 : cmpZ X Y = 0 := by rw [hZ.out]; exact cmpZ_end (.inr (by omega))
          have := (hkids.out hZ0).2
          omega
      · have hZ0 : cmpZ X Y = 0 := by rw [hZ.out]; exact cmpZ_end (.inl (by omega))
        have hkk := (hkids.out hZ0).1
        have hE2 : Hid (cmpF f g = cmpFs f.kids g.kids) := by show _ = _; rw [hE.out, hZ0]; rfl
        replace hB1 := hB1.keep hxr
        replace hB2 := hB2.keep hxr
        replace hX := hX.then hxr
        clear hR1 hR2 hZ hE hZ0
        obtain ⟨kc, -⟩ := hB1.facts
        obtain ⟨lc, -⟩ := hB2.facts
        have hl2 := hB2.lt
        go_wp2_with fail
        go_loopw [8] (fun i wx => ∃ m : Nat, m ≤ f.kids.length ∧ i = .int .i64 m ∧ Hid (cmpF f g = cmpFs (f.kids.drop m) (g.kids.drop m)) ∧ Ext wr wx) (fun i _ => f.kids.length - (intOf i).toNat)
        case atStart => exact ⟨0, Nat.zero_le _, rfl, hE2, xE⟩
        case round =>
          obtain ⟨m, hm, rfl, hF, hxx⟩ := hrel
          replace hB1 := hB1.keep hxx
          replace hB2 := hB2.keep hxx
          replace hX := hX.then hxx
          clear kc lc hl2
          obtain ⟨kc, -⟩ := hB1.facts
          obtain ⟨lc, -⟩ := hB2.facts
          have hl2 := hB2.lt
          have hl1 := hB1.lt
          by_cases hlt : m < f.kids.length
          · have hlt2 : m < g.kids.length := by omega
            obtain ⟨b, o, p3, e3, p4, e4, rfl, h0, h1, h2, h3, hEa, hbl⟩ := FmsR.at (hk.mono mono_FmR hX.ple) m hlt
            obtain ⟨b', o', q3, f3, q4, f4, rfl, h0', h1', h2', h3', hEb, hbl'⟩ := FmsR.at (gk.mono mono_FmR hX.ple) m hlt2
            have k3 : _ = some (Value.slice (some ⟨b, o, none⟩) f.kids.length c4) := kc 3
            have l3 : _ = some (Value.slice (some ⟨b', o', none⟩) g.kids.length d4) := lc 3
            unfold fmC at hEa hEb
            have ha1 := Fm.kid_le (List.getElem_mem hlt)
            have ha2 := Fm.kid_le (List.getElem_mem hlt2)
            have hd := Lib.hid (cmpFs_drop hlt hlt2)
            have hc := Lib.hid (fun W (hW : Ext wr W) => HI.out _ (List.getElem_mem hlt) g.kids[m] _ _ W (mono_FmR _ _ _ _ (Ext.ple hW) hEa) (mono_FmR _ _ _ _ (Ext.ple hW) hEb) (by omega) (by omega))
            generalize cmpF f.kids[m] g.kids[m] = z at *
            generalize f.kids[m] = x at *
            generalize g.kids[m] = y at *
            clear hk gk hEa hEb kc lc HI
            have hlm : m < f.kids.length := hlt
            go_wp2_with fail
            (refine wp_region_I 12 (by kernel_rfl) (by kernel_rfl) ?_; simp only [List.toList_toArray, List.take_succ_cons, List.take_zero, List.drop_succ_cons, List.drop_zero])
            iterate 10 (refine wiA rfl (by simp) rfl ?_; (try simp only [List.nil_append, List.cons_append]))
            (refine walkI_is (u := ?_) rfl (by simp) rfl ?_ ?_; rotate_left; (focus (intro A w' hS hA K hK; (simp only [List.map_cons, List.map_nil, knows, Is, Op.operands, Call.operands, List.lookup_cons, List.lookup_nil, Nat.reduceBEq, Bool.false_eq_true, if_false, if_true, Act.eval, Array.getD_eq_getD_getElem?, List.getElem?_toArray, List.getElem?_cons_succ, List.getElem?_cons_zero, Option.getD_some, and_true, true_and, List.append_toArray, List.nil_append, List.cons_append, List.toList_toArray, Array.toList_append, Option.toArray, List.append_nil] at hA); first | (go_simp; refine RetV_at (hc.out _ xE) ?_; intro w5 hx5; exact hK _ hx5) | (obtain ⟨hSc, hSf, hSs⟩ := hS.cells; go_simp; exact hK _ xN))); (try simp only [List.nil_append, List.cons_append]))
            (refine wiA rfl (by simp) rfl ?_; (try simp only [List.nil_append, List.cons_append]))
            (refine walkI_nil ?_; simp only [List.nil_append, List.cons_append, fins, Is, forall_eq, Act.put, List.setIfInBounds_toArray, List.set_cons_zero, List.set_cons_succ])
            intro w6 hx6
            by_cases hz : z = 0
            · have b3 : (z == 0) = true := by simpa using hz
              have b4 : (z != 0) = false := by simpa using hz
              have hn : Hid (cmpF f g = cmpFs (f.kids.drop (m + 1)) (g.kids.drop (m + 1))) := by show _ = _; rw [hF.out, hd.out, if_neg (by simpa using hz)]
              clear hd hz
              go_wp2_with fail
              go_roundw
              case rel => exact ⟨m + 1, by omega, by go_num, hn, xE⟩
              case measure => simp [intOf]; omega
            · have b3 : (z == 0) = false := by simpa using hz
              have b4 : (z != 0) = true := by simpa using hz
              have hn : Hid (cmpF f g = z) := by show _ = _; rw [hF.out, hd.out, if_pos hz]
              clear hd
              go_wp2_with fail
              go_ret
              exact ⟨ret_int hn.out.symm, xE⟩
          · have hn : Hid (cmpF f g = 0) := by
              show _ = _
              rw [hF.out, List.drop_eq_nil_of_le (by omega)]
              rfl
            have k3 : _ = some (Value.slice a4 f.kids.length c4) := kc 3
            clear hk gk kc lc
            go_wp2_with fail
            go_ret
            exact ⟨ret_int hn.out.symm, xE⟩
theorem rsame_c (f g : Fm) (cs ds : List Value) (w : World) (hr : FmR (ph w) cs f) (hq : FmR (ph w) ds g) (hb1 : f.bulk ≤ 100000) (hb2 : g.bulk ≤ 100000) :
    Calls Tryz.prog 24 #[.agg cs.toArray, .agg ds.toArray] w (RetV w (.bool (B (f = g)))) := by
  have hr' := hr
  have hq' := hq
  obtain ⟨a3, c3, a4, c4, rfl, -⟩ := hr.form
  obtain ⟨b3, d3, b4, d4, rfl, -⟩ := hq.form
  unfold fmC at *
  have h0 := Lib.hid (cmpF_0 f g)
  go_enter Tryz.func24, Tryz.ntmps24
  go_wp2_with fail
  refine RetV_at (rcmp_c f g _ _ _ (mono_FmR _ _ _ _ (Ext.ple xE) hr') (mono_FmR _ _ _ _ (Ext.ple xE) hq') hb1 hb2) ?_
  intro w1 hx1
  generalize cmpF f g = z at *
  go_wp2_with fail
  go_ret
  refine ⟨ret_B ?_, xE⟩
  rw [← h0.out]; simp
theorem samelist_c (l m : List Fm) (va vb : Value) (w : World) (ha : FmsR (ph w) va l) (hb : FmsR (ph w) vb m) (h1 : sumN Fm.bulk l ≤ 90000) (h2 : sumN Fm.bulk m ≤ 90000) :
    Calls Tryz.prog 51 #[va, vb] w (RetV w (.bool (B (l = m)))) := by
  obtain ⟨a4, c4, rfl, -, ha⟩ := ha.form
  obtain ⟨b4, d4, rfl, -, hb⟩ := hb.form
  go_enter Tryz.func51, Tryz.ntmps51
  go_wp2_with fail
  refine RetV_at (rsame_c (.mk 4 0 [] l) (.mk 4 0 [] m) (fmC (.mk 4 0 [] l) none 0 a4 c4) (fmC (.mk 4 0 [] m) none 0 b4 d4) _
    (FmR.of (f := .mk 4 0 [] l) (by simp [Fm.op, I64]) (by simp [Fm.n, I64]) (SliceRep.nil _ _ _) (ha.mono mono_FmR (Ext.ple xE)))
    (FmR.of (f := .mk 4 0 [] m) (by simp [Fm.op, I64]) (by simp [Fm.n, I64]) (SliceRep.nil _ _ _) (hb.mono mono_FmR (Ext.ple xE)))
    (by rw [Fm.bulk_eq]; simp [Fm.inn, Fm.kids]; omega) (by rw [Fm.bulk_eq]; simp [Fm.inn, Fm.kids]; omega)) ?_
  intro w1 hx1
  go_wp2_with fail
  go_ret
  refine ⟨ret_B ?_, xE⟩
  rw [B_iff]
end Go.Proofs.YtnpnjcaomakehaaGreat
