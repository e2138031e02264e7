/- package formula: whether a formula holds for a thing.; package formula: holds.; package formula: Holds, of what is valid.; plain laws: when the meaning of a claim holds, and its alternatives.; lemmas of the laws ClaimsNarrower and ClaimsAlts. -/
import Derived.Deep.CutBlock
import Derived.Laws.EntriesVeiled
import Derived.Test.YtbpilielamjnoaaGreatFN02
import Derived.Test.YtbpilielamjnoaaGreatFN04
import Derived.Test.YtbpilielamjnoaaGreatFN05
import Derived.Test.YtbpilielamjnoaaGreatFN06
import Derived.Test.YtbpilielamjnoaaGreatFN10
import Derived.Test.YtbpilielamjnoaaGreatFN11
namespace Go.Proofs.YtbpilielamjnoaaGreat
open Go.RowKit Go.Shelf
set_option linter.unusedSimpArgs false
set_option linter.unusedVariables false
mutual
noncomputable def hold (ps : List (List Int)) : Fm → Thing → Bool
  | .mk op n inn kids, t =>
    if op = 1 then t.cls.any fun c => B (isTx ps c n)
    else if op = 2 then (match getVal t.vals n with | some r => hasL inn r | none => false)
    else if op = 3 then t.parts.any fun p => holdFst ps kids p
    else if op = 4 then holdAll ps kids t
    else if op = 5 then holdAny ps kids t
    else if op = 6 then !holdFst ps kids t
    else true
noncomputable def holdAll (ps : List (List Int)) : List Fm → Thing → Bool
  | [], _ => true
  | f :: l, t => hold ps f t && holdAll ps l t
noncomputable def holdAny (ps : List (List Int)) : List Fm → Thing → Bool
  | [], _ => false
  | f :: l, t => hold ps f t || holdAny ps l t
noncomputable def holdFst (ps : List (List Int)) : List Fm → Thing → Bool
  | [], _ => false
  | f :: _, t => hold ps f t
end
theorem holdAll_eq (ps : List (List Int)) (t : Thing) : ∀ l : List Fm, holdAll ps l t = l.all fun f => hold ps f t
  | [] => rfl
  | f :: l => by rw [holdAll, List.all_cons, holdAll_eq ps t l]
theorem holdAny_eq (ps : List (List Int)) (t : Thing) : ∀ l : List Fm, holdAny ps l t = l.any fun f => hold ps f t
  | [] => rfl
  | f :: l => by rw [holdAny, List.any_cons, holdAny_eq ps t l]
theorem hold_eq (ps : List (List Int)) (f : Fm) (t : Thing) : hold ps f t = if f.op = 1 then t.cls.any fun c => B (isTx ps c f.n)
    else if f.op = 2 then (match getVal t.vals f.n with | some r => hasL f.inn r | none => false)
    else if f.op = 3 then t.parts.any fun p => holdFst ps f.kids p
    else if f.op = 4 then f.kids.all fun g => hold ps g t
    else if f.op = 5 then f.kids.any fun g => hold ps g t
    else if f.op = 6 then !holdFst ps f.kids t
    else true := by
  cases f with
  | mk op n inn kids => rw [hold, holdAll_eq, holdAny_eq]; rfl
theorem containsFm_P {H : PH} (fid : Nat) (cap : Array Value) (vs : Value) (xs : List Fm) (hv : FmsR H vs xs) (p : Fm → Bool) (w : World) (hH : PLe H (ph w))
    (hfn : ∀ args w, (callFunc fid args).run Tryz.prog w = .ok (.enter fid args) w)
    (hf : ∀ x ∈ xs, ∀ wr cs, Ext w wr → FmR H cs x → Calls Tryz.prog fid (#[.agg cs.toArray] ++ cap) wr (RetV wr (.bool (p x)))) :
    Calls Tryz.prog 85 #[vs, .func (.func fid) #[] cap] w (RetV w (.bool (xs.any p))) := by
  refine (containsFunc_J fid cap vs xs hv (fun k wr => Ext w wr ∧ ∀ x ∈ xs.take k, p x = false) (fun wr => Ext w wr ∧ xs.any p = true) w hfn (fun k hk wr cs hR hE => ?_) (fun k wr hR => hH.trans hR.1.ple) ⟨Ext.rfl' _, by simp⟩).mono ?_
  · refine (hf _ (List.getElem_mem hk) wr cs hR.1 hE).mono ?_
    rintro e w1 ⟨rfl, hx⟩
    cases hp : p xs[k] with
    | true => exact .inr ⟨rfl, hR.1.then hx, List.any_eq_true.2 ⟨_, List.getElem_mem hk, hp⟩⟩
    | false =>
      refine .inl ⟨rfl, hR.1.then hx, fun x hxm => ?_⟩
      rw [List.take_succ_eq_append_getElem hk] at hxm
      rcases List.mem_append.1 hxm with h | h
      · exact hR.2 x h
      · rw [List.mem_singleton.1 h]; exact hp
  · rintro e w1 (⟨rfl, hx, h1⟩ | ⟨rfl, hx, h1⟩)
    · rw [List.take_length] at h1
      have : xs.any p = false := by
        rw [List.any_eq_false]; intro x hx; simp [h1 x hx]
      exact ⟨by rw [this], hx⟩
    · exact ⟨by rw [h1], hx⟩
theorem kinds1_c (x n : Int) (b : Nat) (w : World) (hc : w.cell? ⟨b, 0, none⟩ = some (.int .i64 n)) : Calls Tryz.prog 98 #[.int .i64 x, .pointer (some ⟨b, 0, none⟩)] w (RetV w (.bool (decide (n ≤ x)))) := by
  have hb := cell_lt hc
  go_enter Tryz.func98, Tryz.ntmps98
  go_wp2_with fail
  go_ret
  exact ⟨rfl, (by with_reducible repeat (first | assumption | exact Ext.rfl' _ | exact Ext.new _ _ | refine Ext.alloc' ?_ _ | refine Ext.drew' ?_ | refine Ext.drewN' ?_ _ | (refine Ext.set' ?_ ?_ _; rotate_left; focus (first | omega | (simp; done) | (simp; omega))) | (refine Ext.then (b := ?_) ?_ ?_; rotate_left; rotate_left; assumption)))⟩
set_option maxHeartbeats 1000000 in
theorem kinds_c (n : Int) (hn : I64 n) (t : Thing) : ∀ (cs : List Value) (w : World), ThingR (ph w) cs t → t.clsLt n → Calls Tryz.prog 53 #[.agg cs.toArray, .int .i64 n] w (RetV w (.bool true)) := by
  induction t using Thing.ind with
  | h t ih =>
    intro cs w hr hb
    obtain ⟨hb1, hb2⟩ := (Thing.clsLt_iff n t).1 hb
    obtain ⟨a1, c1, a2, c2, a3, c3, rfl, -, -, -, h1, h2, h3⟩ := hr.form
    have HI := Lib.hid ih; clear ih hb
    have e1 : Ext w ((w.alloc (.cells #[.slice a1 t.cls.length c1, .slice a2 t.vals.length c2, .slice a3 t.parts.length c3] 41)).alloc (.cells #[.int .i64 n] 3)) := (by with_reducible repeat (first | assumption | exact Ext.rfl' _ | exact Ext.new _ _ | refine Ext.alloc' ?_ _ | refine Ext.drew' ?_ | refine Ext.drewN' ?_ _ | (refine Ext.set' ?_ ?_ _; rotate_left; focus (first | omega | (simp; done) | (simp; omega))) | (refine Ext.then (b := ?_) ?_ ?_; rotate_left; rotate_left; assumption)))
    have o2 : Own ((w.alloc (.cells #[.slice a1 t.cls.length c1, .slice a2 t.vals.length c2, .slice a3 t.parts.length c3] 41)).alloc (.cells #[.int .i64 n] 3)) w.heap.size #[.slice a1 t.cls.length c1, .slice a2 t.vals.length c2, .slice a3 t.parts.length c3] 41 := (by repeat (first | (with_reducible assumption) | (with_reducible exact Own.new _ _ _) | (with_reducible refine Own.new' _ _ _ ?_; (focus (simp; done))) | (with_reducible refine Own.alloc ?_ _) | (with_reducible refine Own.drew ?_) | (with_reducible refine Own.drewN ?_ _) | (with_reducible refine Own.keep (w := ?_) ?_ ?_; rotate_left; (with_reducible assumption); (exact (by with_reducible repeat (first | assumption | exact Ext.rfl' _ | exact Ext.new _ _ | refine Ext.alloc' ?_ _ | refine Ext.drew' ?_ | refine Ext.drewN' ?_ _ | (refine Ext.set' ?_ ?_ _; rotate_left; focus (first | omega | (simp; done) | (simp; omega))) | (refine Ext.then (b := ?_) ?_ ?_; rotate_left; rotate_left; assumption))))) | (with_reducible refine Own.keep (w := ?_) ?_ ?_; rotate_left; rotate_left; (with_reducible assumption))))
    have o3 : Own ((w.alloc (.cells #[.slice a1 t.cls.length c1, .slice a2 t.vals.length c2, .slice a3 t.parts.length c3] 41)).alloc (.cells #[.int .i64 n] 3)) (w.heap.size + 1) #[.int .i64 n] 3 := (by repeat (first | (with_reducible assumption) | (with_reducible exact Own.new _ _ _) | (with_reducible refine Own.new' _ _ _ ?_; (focus (simp; done))) | (with_reducible refine Own.alloc ?_ _) | (with_reducible refine Own.drew ?_) | (with_reducible refine Own.drewN ?_ _) | (with_reducible refine Own.keep (w := ?_) ?_ ?_; rotate_left; (with_reducible assumption); (exact (by with_reducible repeat (first | assumption | exact Ext.rfl' _ | exact Ext.new _ _ | refine Ext.alloc' ?_ _ | refine Ext.drew' ?_ | refine Ext.drewN' ?_ _ | (refine Ext.set' ?_ ?_ _; rotate_left; focus (first | omega | (simp; done) | (simp; omega))) | (refine Ext.then (b := ?_) ?_ ?_; rotate_left; rotate_left; assumption))))) | (with_reducible refine Own.keep (w := ?_) ?_ ?_; rotate_left; rotate_left; (with_reducible assumption))))
    go_enter Tryz.func53, Tryz.ntmps53
    go_upto_region 1 with (fail)
    generalize World.alloc _ _ = w1 at *
    generalize hB3 : w.heap.size + 1 = B3 at *
    generalize w.heap.size = B2 at *
    clear hB3
    have u0 : w1.cell? ⟨B2, 0, none⟩ = some (.slice a1 t.cls.length c1) := o2.facts.1 0
    have u2 : w1.cell? ⟨B2, 2, none⟩ = some (.slice a3 t.parts.length c3) := o2.facts.1 2
    have l2 := o2.lt
    have hc3 : w1.cell? ⟨B3, 0, none⟩ = some (.int .i64 n) := o3.facts.1 0
    have hany : (t.cls.any fun x => decide (n ≤ x)) = false := by
      rw [List.any_eq_false]; intro x hx; have := hb1 x hx; simp; omega
    have hc1 := containsInt_P 98 #[.pointer (some ⟨B3, 0, none⟩)] _ t.cls (h1.mono mono_IntR e1.ple) (fun x => decide (n ≤ x)) w1 (fun _ _ h => h) (fun args w => enterFn Tryz.func98 rfl rfl args w) (fun k hk wr hx hi => kinds1_c _ n _ wr (hx.cell1 hc3))
    rw [hany] at hc1
    clear hany
    have l3 := o3.lt
    go_wp2_with fail
    refine RetV_at hc1 ?_
    intro w2 hx2
    replace u2 := hx2.cell1 u2
    replace l2 := cell_lt u2
    replace hc3 := hx2.cell1 hc3
    replace l3 := cell_lt hc3
    clear hc1 u0 o2 o3
    have hc2 := containsFunc_thing (fun _ => false) 100 #[.pointer (some ⟨B3, 0, none⟩)] _ t.parts w2 (h3.mono mono_ThingR (e1.then hx2).ple) (fun args w => enterFn Tryz.func100 rfl rfl args w) (by
      intro w3 hx3 x hx cs hE
      obtain ⟨b1, d1, b2, d2, b3, d3, rfl, -⟩ := hE.form
      replace hc3 := hx3.cell1 hc3
      replace l3 := cell_lt hc3
      clear u2 l2 h1 h2 h3
      go_enter Tryz.func100, Tryz.ntmps100
      go_wp2_with fail
      refine RetV_at (HI.out x hx _ _ (mono_ThingR _ _ _ _ (Ext.ple (by with_reducible repeat (first | assumption | exact Ext.rfl' _ | exact Ext.new _ _ | refine Ext.alloc' ?_ _ | refine Ext.drew' ?_ | refine Ext.drewN' ?_ _ | (refine Ext.set' ?_ ?_ _; rotate_left; focus (first | omega | (simp; done) | (simp; omega))) | (refine Ext.then (b := ?_) ?_ ?_; rotate_left; rotate_left; assumption)))) hE) (hb2 x hx)) ?_
      intro w4 hx4
      go_wp2_with fail
      go_ret
      exact ⟨rfl, (by with_reducible repeat (first | assumption | exact Ext.rfl' _ | exact Ext.new _ _ | refine Ext.alloc' ?_ _ | refine Ext.drew' ?_ | refine Ext.drewN' ?_ _ | (refine Ext.set' ?_ ?_ _; rotate_left; focus (first | omega | (simp; done) | (simp; omega))) | (refine Ext.then (b := ?_) ?_ ?_; rotate_left; rotate_left; assumption)))⟩)
    have hany2 : (t.parts.any fun _ => false) = false := by simp
    rw [hany2] at hc2
    clear hany2
    go_wp2_with fail
    refine RetV_at hc2 ?_
    intro w3 hx3
    go_wp2_with fail
    go_ret
    exact ⟨rfl, (e1.then hx2).then hx3⟩
end Go.Proofs.YtbpilielamjnoaaGreat
namespace Go.Proofs.YtbpilielamjnoaaGreat
open Go.RowKit Go.Shelf
set_option linter.unusedSimpArgs false
set_option linter.unusedVariables false
theorem holds2_c {ps : List (List Int)} (hn : ps.length ≤ 64) (x n : Int) (B g3 g4 : Nat) (w : World) (hx : I64 x) (hi : I64 n) (hc3 : w.cell? ⟨g3, 0, none⟩ = some (.pointer (some ⟨B, 0, none⟩))) (hc4 : w.cell? ⟨g4, 1, none⟩ = some (.int .i64 n)) (hT : TaxR w B ps) :
    Calls Tryz.prog 102 #[.int .i64 x, .pointer (some ⟨g3, 0, none⟩), .pointer (some ⟨g4, 0, none⟩)] w (RetV w (.bool (Proofs.YtbpilielamjnoaaGreat.B (isTx ps x n)))) := by
  have l3 := cell_lt hc3
  have l4 := cell_lt hc4
  go_enter Tryz.func102, Tryz.ntmps102
  go_wp2_with fail
  refine RetV_at (isTx_c hn hT x n hx hi) ?_
  intro w1 hx1
  go_wp2_with fail
  go_ret
  exact ⟨rfl, hx1⟩
theorem getVal_I {h : PH} {v : Value} {l : List Val} (hr : ValsR h v l) {k : Int} {r : Rat2} (hg : getVal l k = some r) : r.I := by
  unfold getVal at hg
  cases hf : l.find? (·.attr == k) with
  | none => rw [hf] at hg; cases hg
  | some x =>
    rw [hf] at hg
    have hm := List.mem_of_find?_eq_some hf
    obtain ⟨j, hj, rfl⟩ := List.getElem_of_mem hm
    obtain ⟨a, c, rfl, -, hr⟩ := hr.form
    obtain ⟨b, o, cs, -, -, -, hE⟩ := hr.get j hj
    obtain ⟨-, h1, h2, h3⟩ := hE
    simp only [Option.map_some, Option.some.injEq] at hg
    rw [← hg]; exact ⟨h2, h3⟩
set_option maxRecDepth 100000 in
set_option maxHeartbeats 4000000 in
theorem holds_c {ps : List (List Int)} (hn : ps.length ≤ 64) (B : Nat) (f : Fm) : ∀ (t : Thing) (cs ds : List Value) (w : World), TaxR w B ps → FmR (ph w) cs f → ThingR (ph w) ds t → wholeB f = true →
    Calls Tryz.prog 54 #[.pointer (some ⟨B, 0, none⟩), .agg cs.toArray, .agg ds.toArray] w (RetV w (.bool (hold ps f t))) := by
  induction f using Fm.ind with
  | h f ih =>
    intro t cs ds w hT hF hD hw
    obtain ⟨a3, c3, a4, c4, rfl, i1, i2, -, -, hfi, hfk⟩ := hF.form
    obtain ⟨b1, d1, b2, d2, b3, d3, rfl, -, -, -, h1, h2, h3⟩ := hD.form
    have hF0 := hF
    have hwk : ∀ x ∈ f.kids, wholeB x = true := by
      rw [wholeB_eq, Bool.and_eq_true, List.all_eq_true] at hw; exact hw.2
    have hform : formed1 f = true := by
      rw [wholeB_eq, Bool.and_eq_true] at hw; exact hw.1
    have HI := Lib.hid (fun x hx t cs ds w a b c => ih x hx t cs ds w a b c (hwk x hx))
    clear ih hw hwk
    unfold fmC at hF ⊢
    have e5 : Ext w ((((w.alloc (.cells #[.pointer (some ⟨B, 0, none⟩)] 33)).alloc (.cells #[.int .i64 f.op, .int .i64 f.n, .slice a3 f.inn.length c3, .slice a4 f.kids.length c4] 29)).alloc (.cells #[.slice b1 t.cls.length d1, .slice b2 t.vals.length d2, .slice b3 t.parts.length d3] 41)).alloc (.cells #[.func (.func 101) #[] #[.pointer (some ⟨w.heap.size, 0, none⟩), .pointer (some ⟨w.heap.size + 1 + 1, 0, none⟩)]] 51)) := (by with_reducible repeat (first | assumption | exact Ext.rfl' _ | exact Ext.new _ _ | refine Ext.alloc' ?_ _ | refine Ext.drew' ?_ | refine Ext.drewN' ?_ _ | (refine Ext.set' ?_ ?_ _; rotate_left; focus (first | omega | (simp; done) | (simp; omega))) | (refine Ext.then (b := ?_) ?_ ?_; rotate_left; rotate_left; assumption)))
    have o3 : Own ((((w.alloc (.cells #[.pointer (some ⟨B, 0, none⟩)] 33)).alloc (.cells #[.int .i64 f.op, .int .i64 f.n, .slice a3 f.inn.length c3, .slice a4 f.kids.length c4] 29)).alloc (.cells #[.slice b1 t.cls.length d1, .slice b2 t.vals.length d2, .slice b3 t.parts.length d3] 41)).alloc (.cells #[.func (.func 101) #[] #[.pointer (some ⟨w.heap.size, 0, none⟩), .pointer (some ⟨w.heap.size + 1 + 1, 0, none⟩)]] 51)) w.heap.size #[.pointer (some ⟨B, 0, none⟩)] 33 := (by repeat (first | (with_reducible assumption) | (with_reducible exact Own.new _ _ _) | (with_reducible refine Own.new' _ _ _ ?_; (focus (simp; done))) | (with_reducible refine Own.alloc ?_ _) | (with_reducible refine Own.drew ?_) | (with_reducible refine Own.drewN ?_ _) | (with_reducible refine Own.keep (w := ?_) ?_ ?_; rotate_left; (with_reducible assumption); (exact (by with_reducible repeat (first | assumption | exact Ext.rfl' _ | exact Ext.new _ _ | refine Ext.alloc' ?_ _ | refine Ext.drew' ?_ | refine Ext.drewN' ?_ _ | (refine Ext.set' ?_ ?_ _; rotate_left; focus (first | omega | (simp; done) | (simp; omega))) | (refine Ext.then (b := ?_) ?_ ?_; rotate_left; rotate_left; assumption))))) | (with_reducible refine Own.keep (w := ?_) ?_ ?_; rotate_left; rotate_left; (with_reducible assumption))))
    have o4 : Own ((((w.alloc (.cells #[.pointer (some ⟨B, 0, none⟩)] 33)).alloc (.cells #[.int .i64 f.op, .int .i64 f.n, .slice a3 f.inn.length c3, .slice a4 f.kids.length c4] 29)).alloc (.cells #[.slice b1 t.cls.length d1, .slice b2 t.vals.length d2, .slice b3 t.parts.length d3] 41)).alloc (.cells #[.func (.func 101) #[] #[.pointer (some ⟨w.heap.size, 0, none⟩), .pointer (some ⟨w.heap.size + 1 + 1, 0, none⟩)]] 51)) (w.heap.size + 1) #[.int .i64 f.op, .int .i64 f.n, .slice a3 f.inn.length c3, .slice a4 f.kids.length c4] 29 := (by repeat (first | (with_reducible assumption) | (with_reducible exact Own.new _ _ _) | (with_reducible refine Own.new' _ _ _ ?_; (focus (simp; done))) | (with_reducible refine Own.alloc ?_ _) | (with_reducible refine Own.drew ?_) | (with_reducible refine Own.drewN ?_ _) | (with_reducible refine Own.keep (w := ?_) ?_ ?_; rotate_left; (with_reducible assumption); (exact (by with_reducible repeat (first | assumption | exact Ext.rfl' _ | exact Ext.new _ _ | refine Ext.alloc' ?_ _ | refine Ext.drew' ?_ | refine Ext.drewN' ?_ _ | (refine Ext.set' ?_ ?_ _; rotate_left; focus (first | omega | (simp; done) | (simp; omega))) | (refine Ext.then (b := ?_) ?_ ?_; rotate_left; rotate_left; assumption))))) | (with_reducible refine Own.keep (w := ?_) ?_ ?_; rotate_left; rotate_left; (with_reducible assumption))))
    have o5 : Own ((((w.alloc (.cells #[.pointer (some ⟨B, 0, none⟩)] 33)).alloc (.cells #[.int .i64 f.op, .int .i64 f.n, .slice a3 f.inn.length c3, .slice a4 f.kids.length c4] 29)).alloc (.cells #[.slice b1 t.cls.length d1, .slice b2 t.vals.length d2, .slice b3 t.parts.length d3] 41)).alloc (.cells #[.func (.func 101) #[] #[.pointer (some ⟨w.heap.size, 0, none⟩), .pointer (some ⟨w.heap.size + 1 + 1, 0, none⟩)]] 51)) (w.heap.size + 1 + 1) #[.slice b1 t.cls.length d1, .slice b2 t.vals.length d2, .slice b3 t.parts.length d3] 41 := (by repeat (first | (with_reducible assumption) | (with_reducible exact Own.new _ _ _) | (with_reducible refine Own.new' _ _ _ ?_; (focus (simp; done))) | (with_reducible refine Own.alloc ?_ _) | (with_reducible refine Own.drew ?_) | (with_reducible refine Own.drewN ?_ _) | (with_reducible refine Own.keep (w := ?_) ?_ ?_; rotate_left; (with_reducible assumption); (exact (by with_reducible repeat (first | assumption | exact Ext.rfl' _ | exact Ext.new _ _ | refine Ext.alloc' ?_ _ | refine Ext.drew' ?_ | refine Ext.drewN' ?_ _ | (refine Ext.set' ?_ ?_ _; rotate_left; focus (first | omega | (simp; done) | (simp; omega))) | (refine Ext.then (b := ?_) ?_ ?_; rotate_left; rotate_left; assumption))))) | (with_reducible refine Own.keep (w := ?_) ?_ ?_; rotate_left; rotate_left; (with_reducible assumption))))
    have o7 : Own ((((w.alloc (.cells #[.pointer (some ⟨B, 0, none⟩)] 33)).alloc (.cells #[.int .i64 f.op, .int .i64 f.n, .slice a3 f.inn.length c3, .slice a4 f.kids.length c4] 29)).alloc (.cells #[.slice b1 t.cls.length d1, .slice b2 t.vals.length d2, .slice b3 t.parts.length d3] 41)).alloc (.cells #[.func (.func 101) #[] #[.pointer (some ⟨w.heap.size, 0, none⟩), .pointer (some ⟨w.heap.size + 1 + 1, 0, none⟩)]] 51)) (w.heap.size + 1 + 1 + 1) #[.func (.func 101) #[] #[.pointer (some ⟨w.heap.size, 0, none⟩), .pointer (some ⟨w.heap.size + 1 + 1, 0, none⟩)]] 51 := (by repeat (first | (with_reducible assumption) | (with_reducible exact Own.new _ _ _) | (with_reducible refine Own.new' _ _ _ ?_; (focus (simp; done))) | (with_reducible refine Own.alloc ?_ _) | (with_reducible refine Own.drew ?_) | (with_reducible refine Own.drewN ?_ _) | (with_reducible refine Own.keep (w := ?_) ?_ ?_; rotate_left; (with_reducible assumption); (exact (by with_reducible repeat (first | assumption | exact Ext.rfl' _ | exact Ext.new _ _ | refine Ext.alloc' ?_ _ | refine Ext.drew' ?_ | refine Ext.drewN' ?_ _ | (refine Ext.set' ?_ ?_ _; rotate_left; focus (first | omega | (simp; done) | (simp; omega))) | (refine Ext.then (b := ?_) ?_ ?_; rotate_left; rotate_left; assumption))))) | (with_reducible refine Own.keep (w := ?_) ?_ ?_; rotate_left; rotate_left; (with_reducible assumption))))
    go_enter Tryz.func54, Tryz.ntmps54
    go_upto_region 2 with (fail)
    generalize World.alloc _ _ = w5 at *
    generalize hB7 : w.heap.size + 1 + 1 + 1 = g7 at *
    generalize hB5 : w.heap.size + 1 + 1 = g5 at *
    generalize hB4 : w.heap.size + 1 = g4 at *
    generalize w.heap.size = g3 at *
    clear hB7 hB5 hB4
    have u3 : w5.cell? ⟨g3, 0, none⟩ = some (.pointer (some ⟨B, 0, none⟩)) := o3.facts.1 0
    have u40 : w5.cell? ⟨g4, 0, none⟩ = some (.int .i64 f.op) := o4.facts.1 0
    have u41 : w5.cell? ⟨g4, 1, none⟩ = some (.int .i64 f.n) := o4.facts.1 1
    have u42 : w5.cell? ⟨g4, 2, none⟩ = some (.slice a3 f.inn.length c3) := o4.facts.1 2
    have u43 : w5.cell? ⟨g4, 3, none⟩ = some (.slice a4 f.kids.length c4) := o4.facts.1 3
    have u50 : w5.cell? ⟨g5, 0, none⟩ = some (.slice b1 t.cls.length d1) := o5.facts.1 0
    have u51 : w5.cell? ⟨g5, 1, none⟩ = some (.slice b2 t.vals.length d2) := o5.facts.1 1
    have u52 : w5.cell? ⟨g5, 2, none⟩ = some (.slice b3 t.parts.length d3) := o5.facts.1 2
    have u7 : w5.cell? ⟨g7, 0, none⟩ = some (.func (.func 101) #[] #[.pointer (some ⟨g3, 0, none⟩), .pointer (some ⟨g5, 0, none⟩)]) := o7.facts.1 0
    have l3 := o3.lt
    have l4 := o4.lt
    have l5 := o5.lt
    have l7 := o7.lt
    clear o3 o4 o5 o7 hF
    have hself : ∀ x ∈ f.kids, ∀ wr cs', Ext w5 wr → FmR (ph w) cs' x → Calls Tryz.prog 101 (#[.agg cs'.toArray] ++ #[.pointer (some ⟨g3, 0, none⟩), .pointer (some ⟨g5, 0, none⟩)]) wr (RetV wr (.bool (hold ps x t))) := by
      intro x hx wr cs' he hE
      have hE0 := hE
      obtain ⟨p3, q3, p4, q4, rfl, -⟩ := hE.form
      unfold fmC at *
      replace u3 := he.cell1 u3
      replace u50 := he.cell1 u50
      replace u51 := he.cell1 u51
      replace u52 := he.cell1 u52
      replace l3 := cell_lt u3
      replace l5 := cell_lt u50
      replace hT := (hT.keep e5).keep he
      have hD' := mono_ThingR _ _ _ _ (e5.then he).ple hD
      have hE' := mono_FmR _ _ _ _ (e5.then he).ple hE0
      clear u40 u41 u42 u43 u7 l4 l7 hE hE0 h1 h2 h3 hfi hfk hF0 hform
      go_enter Tryz.func101, Tryz.ntmps101
      go_wp2_with fail
      refine RetV_at (HI.out x hx t _ _ _ (hT.keep (by with_reducible repeat (first | assumption | exact Ext.rfl' _ | exact Ext.new _ _ | refine Ext.alloc' ?_ _ | refine Ext.drew' ?_ | refine Ext.drewN' ?_ _ | (refine Ext.set' ?_ ?_ _; rotate_left; focus (first | omega | (simp; done) | (simp; omega))) | (refine Ext.then (b := ?_) ?_ ?_; rotate_left; rotate_left; assumption)))) (mono_FmR _ _ _ _ (Ext.ple (by with_reducible repeat (first | assumption | exact Ext.rfl' _ | exact Ext.new _ _ | refine Ext.alloc' ?_ _ | refine Ext.drew' ?_ | refine Ext.drewN' ?_ _ | (refine Ext.set' ?_ ?_ _; rotate_left; focus (first | omega | (simp; done) | (simp; omega))) | (refine Ext.then (b := ?_) ?_ ?_; rotate_left; rotate_left; assumption)))) hE') (mono_ThingR _ _ _ _ (Ext.ple (by with_reducible repeat (first | assumption | exact Ext.rfl' _ | exact Ext.new _ _ | refine Ext.alloc' ?_ _ | refine Ext.drew' ?_ | refine Ext.drewN' ?_ _ | (refine Ext.set' ?_ ?_ _; rotate_left; focus (first | omega | (simp; done) | (simp; omega))) | (refine Ext.then (b := ?_) ?_ ?_; rotate_left; rotate_left; assumption)))) hD')) ?_
      intro w9 hx9
      go_wp2_with fail
      go_ret
      exact ⟨rfl, (by with_reducible repeat (first | assumption | exact Ext.rfl' _ | exact Ext.new _ _ | refine Ext.alloc' ?_ _ | refine Ext.drew' ?_ | refine Ext.drewN' ?_ _ | (refine Ext.set' ?_ ?_ _; rotate_left; focus (first | omega | (simp; done) | (simp; omega))) | (refine Ext.then (b := ?_) ?_ ?_; rotate_left; rotate_left; assumption)))⟩
    replace hself := Lib.hid hself
    by_cases q1 : f.op = 1
    · have hv : Hid (hold ps f t = t.cls.any fun c => Proofs.YtbpilielamjnoaaGreat.B (isTx ps c f.n)) := by show _ = _; rw [hold_eq, if_pos q1]
      have b1 : (f.op == 1) = true := by simpa using q1
      have hc := containsInt_P 102 #[.pointer (some ⟨g3, 0, none⟩), .pointer (some ⟨g4, 0, none⟩)] _ t.cls (h1.mono mono_IntR e5.ple) (fun c => Proofs.YtbpilielamjnoaaGreat.B (isTx ps c f.n)) w5 (fun _ _ h => h) (fun args w => enterFn Tryz.func102 rfl rfl args w) (fun k hk wr hx hi => holds2_c hn _ f.n B g3 g4 wr hi i2 (hx.cell1 u3) (hx.cell1 u41) ((hT.keep e5).keep hx))
      rw [← hv.out] at hc
      generalize hold ps f t = res at *
      clear hv q1
      go_wp2_with fail
      refine RetV_at hc ?_
      intro w6 hx6
      go_wp2_with fail
      go_ret
      exact ⟨rfl, e5.then hx6⟩
    have b1 : (f.op == 1) = false := by simpa using q1
    by_cases q2 : f.op = 2
    · have hv : Hid (hold ps f t = (match getVal t.vals f.n with | some r => hasL f.inn r | none => false)) := by show _ = _; rw [hold_eq, if_neg q1, if_pos q2] <;> (cases getVal t.vals f.n <;> rfl)
      have b2 : (f.op == 2) = true := by simpa using q2
      have hval := tvalue_c t f.n _ w5 (mono_ThingR _ _ _ _ e5.ple hD)
      have hfi5 := hfi.mono mono_ItvR e5.ple
      cases hg : getVal t.vals f.n with
      | none =>
        rw [hg] at hval hv
        unfold optRat at hval
        dsimp only at hval hv
        clear q1 q2
        go_wp2_with fail
        refine RetV_at hval ?_
        intro w6 hx6
        replace u42 := hx6.cell1 u42
        replace l4 := cell_lt u42
        clear hval
        go_wp2_with fail
        go_ret
        exact ⟨by rw [hv.out]; rfl, (by with_reducible repeat (first | assumption | exact Ext.rfl' _ | exact Ext.new _ _ | refine Ext.alloc' ?_ _ | refine Ext.drew' ?_ | refine Ext.drewN' ?_ _ | (refine Ext.set' ?_ ?_ _; rotate_left; focus (first | omega | (simp; done) | (simp; omega))) | (refine Ext.then (b := ?_) ?_ ?_; rotate_left; rotate_left; assumption)))⟩
      | some r =>
        have hrI := getVal_I h2 hg
        rw [hg] at hval hv
        unfold optRat at hval
        dsimp only at hval hv
        clear q1 q2
        go_wp2_with fail
        refine RetV_at hval ?_
        intro w6 hx6
        replace u42 := hx6.cell1 u42
        replace l4 := cell_lt u42
        clear hval
        go_wp2_with fail
        refine RetV_at (hasL_c _ f.inn r _ (hfi5.mono mono_ItvR (Ext.ple (by with_reducible repeat (first | assumption | exact Ext.rfl' _ | exact Ext.new _ _ | refine Ext.alloc' ?_ _ | refine Ext.drew' ?_ | refine Ext.drewN' ?_ _ | (refine Ext.set' ?_ ?_ _; rotate_left; focus (first | omega | (simp; done) | (simp; omega))) | (refine Ext.then (b := ?_) ?_ ?_; rotate_left; rotate_left; assumption))))) hrI) ?_
        intro w7 hx7
        rw [← hv.out]
        go_wp2_with fail
        go_ret
        exact ⟨rfl, (by with_reducible repeat (first | assumption | exact Ext.rfl' _ | exact Ext.new _ _ | refine Ext.alloc' ?_ _ | refine Ext.drew' ?_ | refine Ext.drewN' ?_ _ | (refine Ext.set' ?_ ?_ _; rotate_left; focus (first | omega | (simp; done) | (simp; omega))) | (refine Ext.then (b := ?_) ?_ ?_; rotate_left; rotate_left; assumption)))⟩
    have b2 : (f.op == 2) = false := by simpa using q2
    by_cases q3 : f.op = 3
    · have hv : Hid (hold ps f t = t.parts.any fun p => holdFst ps f.kids p) := by show _ = _; rw [hold_eq, if_neg q1, if_neg q2, if_pos q3]
      have b3' : (f.op == 3) = true := by simpa using q3
      obtain ⟨g0, hk0⟩ : ∃ g0, f.kids = [g0] := by
        obtain ⟨op, n, inn, kids⟩ := f
        simp only [Fm.op, Fm.kids] at *
        subst q3
        rw [formed1_mk] at hform
        have hl : kids.length = 1 := by
          split at hform
          · cases hform
          · simpa using hform
        exact List.length_eq_one_iff.1 hl
      have hc := containsFunc_thing (fun p => holdFst ps f.kids p) 105 #[.pointer (some ⟨g3, 0, none⟩), .pointer (some ⟨g4, 0, none⟩)] _ t.parts w5 (h3.mono mono_ThingR e5.ple) (fun args w => enterFn Tryz.func105 rfl rfl args w) (by
        intro wr hx p hp cs' hE
        have hE0 := hE
        obtain ⟨p1, r1, p2, r2, p3, r3, rfl, -⟩ := hE.form
        have hkr := hfk.mono mono_FmR (e5.then hx).ple
        obtain ⟨kb, ko, k3, m3, k4, m4, ek, z0, z1, z2, z3, hEk, zl⟩ := FmsR.at hkr 0 (by rw [hk0]; simp)
        have hg0 : f.kids[0]'(by rw [hk0]; simp) = g0 := by simp [hk0]
        rw [hg0] at z0 z1 z2 z3 hEk
        simp only [Nat.zero_mul, Nat.add_zero] at z0 z1 z2 z3
        have hhf : holdFst ps f.kids p = hold ps g0 p := by rw [hk0]; rfl
        have hkl : f.kids.length = 1 := by rw [hk0]; rfl
        rw [hhf]
        subst ek
        have hIk := HI.out g0 (by rw [hk0]; simp) p
        unfold fmC at hEk
        replace u3 := hx.cell1 u3
        replace u43 := hx.cell1 u43
        rw [hkl] at u43
        replace l3 := cell_lt u3
        replace l4 := cell_lt u43
        replace hT := (hT.keep e5).keep hx
        have hb0 : (0 : Nat) < 1 := by omega
        clear u40 u41 u42 u50 u51 u52 u7 l5 l7 h1 h2 h3 hfi hfk hF0 hform hE hkr hhf hg0 hself hv hkl
        replace hIk := Lib.hid hIk
        go_enter Tryz.func105, Tryz.ntmps105
        go_upto_region 1 with (fail)
        have ex := Ext.new wr (.cells #[.slice p1 p.cls.length r1, .slice p2 p.vals.length r2, .slice p3 p.parts.length r3] 41)
        have ox := Own.new wr #[.slice p1 p.cls.length r1, .slice p2 p.vals.length r2, .slice p3 p.parts.length r3] 41
        replace u3 := ex.cell1 u3
        replace u43 := ex.cell1 u43
        replace z0 := ex.cell1 z0
        replace z1 := ex.cell1 z1
        replace z2 := ex.cell1 z2
        replace z3 := ex.cell1 z3
        replace l3 := cell_lt u3
        replace l4 := cell_lt u43
        replace zl := cell_lt z0
        replace hT := hT.keep ex
        replace hEk := mono_FmR _ _ _ _ ex.ple hEk
        have hEp := mono_ThingR _ _ _ _ ex.ple hE0
        generalize wr.alloc _ = w8 at *
        generalize wr.heap.size = g8 at *
        have y0 : w8.cell? ⟨g8, 0, none⟩ = some (.slice p1 p.cls.length r1) := ox.facts.1 0
        have y1 : w8.cell? ⟨g8, 1, none⟩ = some (.slice p2 p.vals.length r2) := ox.facts.1 1
        have y2 : w8.cell? ⟨g8, 2, none⟩ = some (.slice p3 p.parts.length r3) := ox.facts.1 2
        have yl := ox.lt
        clear ox
        (refine wp_region_I 8 (by kernel_rfl) (by kernel_rfl) ?_; simp only [List.toList_toArray, List.take_succ_cons, List.take_zero, List.drop_succ_cons, List.drop_zero])
        iterate 6 (refine walkI_is (u := ?_) rfl (by simp) rfl ?_ ?_; rotate_left; (focus (intro A w' hS hA K hK; (simp only [List.map_cons, List.map_nil, knows, Is, Op.operands, Call.operands, List.lookup_cons, List.lookup_nil, Nat.reduceBEq, Bool.false_eq_true, if_false, if_true, Act.eval, Array.getD_eq_getD_getElem?, List.getElem?_toArray, List.getElem?_cons_succ, List.getElem?_cons_zero, Option.getD_some, and_true, true_and, List.append_toArray, List.nil_append, List.cons_append, List.toList_toArray, Array.toList_append, Option.toArray, List.append_nil] at hA); (obtain ⟨hSc, hSf, hSs⟩ := hS.cells; go_simp; exact hK _ (by first | exact Ext.rfl' _ | exact Ext.new _ _ | assumption)))); (try simp only [List.nil_append, List.cons_append]))
        (refine walkI_is (u := ?_) rfl (by simp) rfl ?_ ?_; rotate_left; (focus (intro A w' hS hA K hK; (simp only [List.map_cons, List.map_nil, knows, Is, Op.operands, Call.operands, List.lookup_cons, List.lookup_nil, Nat.reduceBEq, Bool.false_eq_true, if_false, if_true, Act.eval, Array.getD_eq_getD_getElem?, List.getElem?_toArray, List.getElem?_cons_succ, List.getElem?_cons_zero, Option.getD_some, and_true, true_and, List.append_toArray, List.nil_append, List.cons_append, List.toList_toArray, Array.toList_append, Option.toArray, List.append_nil] at hA); first | (go_simp; refine (hIk.out _ _ _ (hT.keep hS) (mono_FmR _ _ _ _ hS.ple hEk) (mono_ThingR _ _ _ _ hS.ple hEp)).mono ?_; rintro e w9 ⟨rfl, hx9⟩; exact hK _ hx9) | (obtain ⟨hSc, hSf, hSs⟩ := hS.cells; go_simp; exact hK _ (by first | exact Ext.rfl' _ | exact Ext.new _ _ | assumption)))); (try simp only [List.nil_append, List.cons_append]))
        (refine walkI_is (u := ?_) rfl (by simp) rfl ?_ ?_; rotate_left; (focus (intro A w' hS hA K hK; (simp only [List.map_cons, List.map_nil, knows, Is, Op.operands, Call.operands, List.lookup_cons, List.lookup_nil, Nat.reduceBEq, Bool.false_eq_true, if_false, if_true, Act.eval, Array.getD_eq_getD_getElem?, List.getElem?_toArray, List.getElem?_cons_succ, List.getElem?_cons_zero, Option.getD_some, and_true, true_and, List.append_toArray, List.nil_append, List.cons_append, List.toList_toArray, Array.toList_append, Option.toArray, List.append_nil] at hA); (obtain ⟨hSc, hSf, hSs⟩ := hS.cells; go_simp; exact hK _ (by first | exact Ext.rfl' _ | exact Ext.new _ _ | assumption)))); (try simp only [List.nil_append, List.cons_append]))
        (refine walkI_nil ?_; simp only [List.nil_append, List.cons_append, fins, Is, forall_eq, Act.put, List.setIfInBounds_toArray, List.set_cons_zero, List.set_cons_succ])
        intro w9 hx9
        go_wp2_with fail
        go_ret
        exact ⟨rfl, ex.then hx9⟩)
      rw [← hv.out] at hc
      generalize hold ps f t = res at *
      clear hv q1 q2 q3
      go_wp2_with fail
      refine RetV_at hc ?_
      intro w6 hx6
      go_wp2_with fail
      go_ret
      exact ⟨rfl, e5.then hx6⟩
    have b3' : (f.op == 3) = false := by simpa using q3
    have hfn := fun args w => enterFn Tryz.func101 rfl rfl args w
    by_cases q4 : f.op = 4
    · have hv : Hid (hold ps f t = !(f.kids.any fun g => !hold ps g t)) := by
        show _ = _
        rw [hold_eq, if_neg q1, if_neg q2, if_neg q3, if_pos q4, List.not_any_eq_all_not]
        simp
      have b4' : (f.op == 4) = true := by simpa using q4
      have hc := containsFm_P 106 #[.pointer (some ⟨g7, 0, none⟩)] _ f.kids hfk (fun g => !hold ps g t) w5 e5.ple (fun args w => enterFn Tryz.func106 rfl rfl args w) (by
        intro x hx wr cs' he hE
        have hE0 := hE
        obtain ⟨p3, q3', p4, q4', rfl, -⟩ := hE.form
        unfold fmC at *
        replace u7 := he.cell1 u7
        replace l7 := cell_lt u7
        have hs := fun w' (e : Ext wr w') => hself.out x hx w' _ (he.then e) hE0
        replace hs := Lib.hid hs
        generalize hold ps x t = rx at *
        clear u3 u40 u41 u42 u43 u50 u51 u52 l3 l4 l5 h1 h2 h3 hfi hfk hF0 hform hE hE0 hself hv
        go_enter Tryz.func106, Tryz.ntmps106
        go_wp2_with fail
        refine RetV_at (hs.out _ (by with_reducible repeat (first | assumption | exact Ext.rfl' _ | exact Ext.new _ _ | refine Ext.alloc' ?_ _ | refine Ext.drew' ?_ | refine Ext.drewN' ?_ _ | (refine Ext.set' ?_ ?_ _; rotate_left; focus (first | omega | (simp; done) | (simp; omega))) | (refine Ext.then (b := ?_) ?_ ?_; rotate_left; rotate_left; assumption)))) ?_
        intro w9 hx9
        go_wp2_with fail
        go_ret
        exact ⟨rfl, (by with_reducible repeat (first | assumption | exact Ext.rfl' _ | exact Ext.new _ _ | refine Ext.alloc' ?_ _ | refine Ext.drew' ?_ | refine Ext.drewN' ?_ _ | (refine Ext.set' ?_ ?_ _; rotate_left; focus (first | omega | (simp; done) | (simp; omega))) | (refine Ext.then (b := ?_) ?_ ?_; rotate_left; rotate_left; assumption)))⟩)
      generalize (f.kids.any fun g => !hold ps g t) = res at *
      clear q1 q2 q3 q4 hfn
      go_wp2_with fail
      refine RetV_at hc ?_
      intro w6 hx6
      go_wp2_with fail
      go_ret
      exact ⟨by rw [hv.out]; rfl, e5.then hx6⟩
    have b4' : (f.op == 4) = false := by simpa using q4
    by_cases q5 : f.op = 5
    · have hv : Hid (hold ps f t = f.kids.any fun g => hold ps g t) := by show _ = _; rw [hold_eq, if_neg q1, if_neg q2, if_neg q3, if_neg q4, if_pos q5]
      have b5' : (f.op == 5) = true := by simpa using q5
      have hc := containsFm_P 101 #[.pointer (some ⟨g3, 0, none⟩), .pointer (some ⟨g5, 0, none⟩)] _ f.kids hfk (fun g => hold ps g t) w5 e5.ple hfn (fun x hx wr cs' he hE => hself.out x hx wr cs' he hE)
      rw [← hv.out] at hc
      generalize hold ps f t = res at *
      clear hv q1 q2 q3 q4 q5 hfn
      go_wp2_with fail
      refine RetV_at hc ?_
      intro w6 hx6
      go_wp2_with fail
      go_ret
      exact ⟨rfl, e5.then hx6⟩
    have b5' : (f.op == 5) = false := by simpa using q5
    by_cases q6 : f.op = 6
    · have hv : Hid (hold ps f t = !holdFst ps f.kids t) := by show _ = _; rw [hold_eq, if_neg q1, if_neg q2, if_neg q3, if_neg q4, if_neg q5, if_pos q6]
      have b6' : (f.op == 6) = true := by simpa using q6
      obtain ⟨g0, hk0⟩ : ∃ g0, f.kids = [g0] := by
        obtain ⟨op, n, inn, kids⟩ := f
        simp only [Fm.op, Fm.kids] at *
        subst q6
        rw [formed1_mk] at hform
        have hl : kids.length = 1 := by
          split at hform
          · cases hform
          · simpa using hform
        exact List.length_eq_one_iff.1 hl
      obtain ⟨kb, ko, k3, m3, k4, m4, ek, z0, z1, z2, z3, hEk, zl⟩ := FmsR.atH hfk e5.ple 0 (by rw [hk0]; simp)
      have hg0 : f.kids[0]'(by rw [hk0]; simp) = g0 := by simp [hk0]
      rw [hg0] at z0 z1 z2 z3 hEk
      simp only [Nat.zero_mul, Nat.add_zero] at z0 z1 z2 z3
      have hhf : holdFst ps f.kids t = hold ps g0 t := by rw [hk0]; rfl
      have hkl : f.kids.length = 1 := by rw [hk0]; rfl
      rw [hhf] at hv
      subst ek
      have hs := fun w' (e : Ext w5 w') => hself.out g0 (by rw [hk0]; simp) w' _ e hEk
      unfold fmC at hs
      replace hs := Lib.hid hs
      rw [hkl] at u43
      have hb0 : (0 : Nat) < 1 := by omega
      generalize hold ps g0 t = rx at *
      clear q1 q2 q3 q4 q5 q6 hself hhf hg0 hEk hkl
      go_upto_region 15 with (fail)
      (refine wp_region_I 8 (by kernel_rfl) (by kernel_rfl) ?_; simp only [List.toList_toArray, List.take_succ_cons, List.take_zero, List.drop_succ_cons, List.drop_zero])
      iterate 5 (refine walkI_is (u := ?_) rfl (by simp) rfl ?_ ?_; rotate_left; (focus (intro A w' hS hA K hK; (simp only [List.map_cons, List.map_nil, knows, Is, Op.operands, Call.operands, List.lookup_cons, List.lookup_nil, Nat.reduceBEq, Bool.false_eq_true, if_false, if_true, Act.eval, Array.getD_eq_getD_getElem?, List.getElem?_toArray, List.getElem?_cons_succ, List.getElem?_cons_zero, Option.getD_some, and_true, true_and, List.append_toArray, List.nil_append, List.cons_append, List.toList_toArray, Array.toList_append, Option.toArray, List.append_nil] at hA); (obtain ⟨hSc, hSf, hSs⟩ := hS.cells; go_simp; exact hK _ (by first | exact Ext.rfl' _ | exact Ext.new _ _ | assumption)))); (try simp only [List.nil_append, List.cons_append]))
      (refine walkI_is (u := ?_) rfl (by simp) rfl ?_ ?_; rotate_left; (focus (intro A w' hS hA K hK; (simp only [List.map_cons, List.map_nil, knows, Is, Op.operands, Call.operands, List.lookup_cons, List.lookup_nil, Nat.reduceBEq, Bool.false_eq_true, if_false, if_true, Act.eval, Array.getD_eq_getD_getElem?, List.getElem?_toArray, List.getElem?_cons_succ, List.getElem?_cons_zero, Option.getD_some, and_true, true_and, List.append_toArray, List.nil_append, List.cons_append, List.toList_toArray, Array.toList_append, Option.toArray, List.append_nil] at hA); first | (go_simp; refine (hs.out _ hS).mono ?_; rintro e w9 ⟨rfl, hx9⟩; exact hK _ hx9) | (obtain ⟨hSc, hSf, hSs⟩ := hS.cells; go_simp; exact hK _ (by first | exact Ext.rfl' _ | exact Ext.new _ _ | assumption)))); (try simp only [List.nil_append, List.cons_append]))
      iterate 2 (refine walkI_is (u := ?_) rfl (by simp) rfl ?_ ?_; rotate_left; (focus (intro A w' hS hA K hK; (simp only [List.map_cons, List.map_nil, knows, Is, Op.operands, Call.operands, List.lookup_cons, List.lookup_nil, Nat.reduceBEq, Bool.false_eq_true, if_false, if_true, Act.eval, Array.getD_eq_getD_getElem?, List.getElem?_toArray, List.getElem?_cons_succ, List.getElem?_cons_zero, Option.getD_some, and_true, true_and, List.append_toArray, List.nil_append, List.cons_append, List.toList_toArray, Array.toList_append, Option.toArray, List.append_nil] at hA); (obtain ⟨hSc, hSf, hSs⟩ := hS.cells; go_simp; exact hK _ (by first | exact Ext.rfl' _ | exact Ext.new _ _ | assumption)))); (try simp only [List.nil_append, List.cons_append]))
      (refine walkI_nil ?_; simp only [List.nil_append, List.cons_append, fins, Is, forall_eq, Act.put, List.setIfInBounds_toArray, List.set_cons_zero, List.set_cons_succ])
      intro w9 hx9
      go_wp2_with fail
      go_ret
      exact ⟨by rw [hv.out]; rfl, e5.then hx9⟩
    have b6' : (f.op == 6) = false := by simpa using q6
    have hv : Hid (hold ps f t = true) := by show _ = _; rw [hold_eq, if_neg q1, if_neg q2, if_neg q3, if_neg q4, if_neg q5, if_neg q6]
    clear q1 q2 q3 q4 q5 q6 hself
    go_wp2_with fail
    go_ret
    exact ⟨by rw [hv.out]; rfl, e5⟩
end Go.Proofs.YtbpilielamjnoaaGreat
namespace Go.Proofs.YtbpilielamjnoaaGreat
open Go.RowKit Go.Shelf
set_option linter.unusedSimpArgs false
set_option linter.unusedVariables false
attribute [local go_sem] Oper.semAt_some
theorem orE_c (b : Nat) (w : World) (ho : Own w b #[.int .i64 0, .int .i64 0] 25) : Calls Tryz.prog 50 #[.slice (some ⟨b, 0, none⟩) 2 2] w (RetV w (.int .i64 0)) := by
  go_enter Tryz.func50, Tryz.ntmps50
  go_wp2_with fail
  go_loopw [8] (fun i wr => ∃ k : Nat, k ≤ 2 ∧ i = .int .i64 k ∧ Ext w wr) (fun i _ => 2 - (intOf i).toNat)
  case atStart => exact ⟨0, by omega, rfl, Ext.rfl' _⟩
  case round =>
    obtain ⟨k, hk, rfl, hx⟩ := hrel
    by_cases hlt : k < 2
    · have h2 : (k : Int) < 2 := by omega
      have ho2 := ho.keep hx
      have hc : wr.cell? ⟨b, k, none⟩ = some (.int .i64 0) := by
        rw [ho2.facts.1 k]
        rcases k with _ | _ | k
        · rfl
        · rfl
        · omega
      have hl := ho2.lt
      clear ho
      go_wp2_with fail
      go_roundw
      case rel => exact ⟨k + 1, by omega, by go_num, hx⟩
      case measure => simp [intOf]; omega
    · obtain rfl : k = 2 := by omega
      go_wp2_with fail
      go_ret
      exact ⟨rfl, hx⟩
def HoldsP (w : World) (r : Bool) (e : Ending) (w' : World) : Prop := e = .returned (.tuple #[.bool r, .int .i64 0]) ∧ Ext w w'
set_option maxRecDepth 100000 in
set_option maxHeartbeats 8000000 in
theorem fholds_in {ps : List (List Int)} (hn : ps.length ≤ 64) (B : Nat) (f : Fm) (t : Thing) (cs ds : List Value) (w : World) (hT : TaxR w B ps) (hF : FmR (ph w) cs f) (hD : ThingR (ph w) ds t)
    (hf0 : validF f = 0) (hfn : wholeN ps.length f = true) (ht0 : validV t = 0) (htn : t.clsLt ps.length) (hb : t.bulk ≤ 1000000) :
    CallsIn Fence.wide 7 Tryz.prog 22 #[.pointer (some ⟨B, 0, none⟩), .agg cs.toArray, .agg ds.toArray] w (HoldsP w (hold ps f t)) := by
  obtain ⟨a3, c3, a4, c4, rfl, i1, i2, -, -, hfi, hfk⟩ := hF.form
  obtain ⟨b1, d1, b2, d2, b3, d3, rfl, -, -, -, h1, h2, h3⟩ := hD.form
  have hF0 := hF
  have hD' := hD
  have hT2 := hT
  have hw := wholeN_B hfn
  have hfb : f.bulk ≤ 900000 := by have := valid_bulk hf0; omega
  unfold fmC at hF ⊢
  have e5 : Ext w (((((w.alloc (.cells #[.pointer (some ⟨B, 0, none⟩)] 33)).alloc (.cells #[.int .i64 f.op, .int .i64 f.n, .slice a3 f.inn.length c3, .slice a4 f.kids.length c4] 29)).alloc (.cells #[.slice b1 t.cls.length d1, .slice b2 t.vals.length d2, .slice b3 t.parts.length d3] 41)).alloc (.cells #[.bool false] 4)).alloc (.cells #[.int .i64 0] 25)) := (by with_reducible repeat (first | assumption | exact Ext.rfl' _ | exact Ext.new _ _ | refine Ext.alloc' ?_ _ | refine Ext.drew' ?_ | refine Ext.drewN' ?_ _ | (refine Ext.set' ?_ ?_ _; rotate_left; focus (first | omega | (simp; done) | (simp; omega))) | (refine Ext.then (b := ?_) ?_ ?_; rotate_left; rotate_left; assumption)))
  have o3 : Own (((((w.alloc (.cells #[.pointer (some ⟨B, 0, none⟩)] 33)).alloc (.cells #[.int .i64 f.op, .int .i64 f.n, .slice a3 f.inn.length c3, .slice a4 f.kids.length c4] 29)).alloc (.cells #[.slice b1 t.cls.length d1, .slice b2 t.vals.length d2, .slice b3 t.parts.length d3] 41)).alloc (.cells #[.bool false] 4)).alloc (.cells #[.int .i64 0] 25)) w.heap.size #[.pointer (some ⟨B, 0, none⟩)] 33 := (by repeat (first | (with_reducible assumption) | (with_reducible exact Own.new _ _ _) | (with_reducible refine Own.new' _ _ _ ?_; (focus (simp; done))) | (with_reducible refine Own.alloc ?_ _) | (with_reducible refine Own.drew ?_) | (with_reducible refine Own.drewN ?_ _) | (with_reducible refine Own.keep (w := ?_) ?_ ?_; rotate_left; (with_reducible assumption); (exact (by with_reducible repeat (first | assumption | exact Ext.rfl' _ | exact Ext.new _ _ | refine Ext.alloc' ?_ _ | refine Ext.drew' ?_ | refine Ext.drewN' ?_ _ | (refine Ext.set' ?_ ?_ _; rotate_left; focus (first | omega | (simp; done) | (simp; omega))) | (refine Ext.then (b := ?_) ?_ ?_; rotate_left; rotate_left; assumption))))) | (with_reducible refine Own.keep (w := ?_) ?_ ?_; rotate_left; rotate_left; (with_reducible assumption))))
  have o4 : Own (((((w.alloc (.cells #[.pointer (some ⟨B, 0, none⟩)] 33)).alloc (.cells #[.int .i64 f.op, .int .i64 f.n, .slice a3 f.inn.length c3, .slice a4 f.kids.length c4] 29)).alloc (.cells #[.slice b1 t.cls.length d1, .slice b2 t.vals.length d2, .slice b3 t.parts.length d3] 41)).alloc (.cells #[.bool false] 4)).alloc (.cells #[.int .i64 0] 25)) (w.heap.size + 1) #[.int .i64 f.op, .int .i64 f.n, .slice a3 f.inn.length c3, .slice a4 f.kids.length c4] 29 := (by repeat (first | (with_reducible assumption) | (with_reducible exact Own.new _ _ _) | (with_reducible refine Own.new' _ _ _ ?_; (focus (simp; done))) | (with_reducible refine Own.alloc ?_ _) | (with_reducible refine Own.drew ?_) | (with_reducible refine Own.drewN ?_ _) | (with_reducible refine Own.keep (w := ?_) ?_ ?_; rotate_left; (with_reducible assumption); (exact (by with_reducible repeat (first | assumption | exact Ext.rfl' _ | exact Ext.new _ _ | refine Ext.alloc' ?_ _ | refine Ext.drew' ?_ | refine Ext.drewN' ?_ _ | (refine Ext.set' ?_ ?_ _; rotate_left; focus (first | omega | (simp; done) | (simp; omega))) | (refine Ext.then (b := ?_) ?_ ?_; rotate_left; rotate_left; assumption))))) | (with_reducible refine Own.keep (w := ?_) ?_ ?_; rotate_left; rotate_left; (with_reducible assumption))))
  have o5 : Own (((((w.alloc (.cells #[.pointer (some ⟨B, 0, none⟩)] 33)).alloc (.cells #[.int .i64 f.op, .int .i64 f.n, .slice a3 f.inn.length c3, .slice a4 f.kids.length c4] 29)).alloc (.cells #[.slice b1 t.cls.length d1, .slice b2 t.vals.length d2, .slice b3 t.parts.length d3] 41)).alloc (.cells #[.bool false] 4)).alloc (.cells #[.int .i64 0] 25)) (w.heap.size + 1 + 1) #[.slice b1 t.cls.length d1, .slice b2 t.vals.length d2, .slice b3 t.parts.length d3] 41 := (by repeat (first | (with_reducible assumption) | (with_reducible exact Own.new _ _ _) | (with_reducible refine Own.new' _ _ _ ?_; (focus (simp; done))) | (with_reducible refine Own.alloc ?_ _) | (with_reducible refine Own.drew ?_) | (with_reducible refine Own.drewN ?_ _) | (with_reducible refine Own.keep (w := ?_) ?_ ?_; rotate_left; (with_reducible assumption); (exact (by with_reducible repeat (first | assumption | exact Ext.rfl' _ | exact Ext.new _ _ | refine Ext.alloc' ?_ _ | refine Ext.drew' ?_ | refine Ext.drewN' ?_ _ | (refine Ext.set' ?_ ?_ _; rotate_left; focus (first | omega | (simp; done) | (simp; omega))) | (refine Ext.then (b := ?_) ?_ ?_; rotate_left; rotate_left; assumption))))) | (with_reducible refine Own.keep (w := ?_) ?_ ?_; rotate_left; rotate_left; (with_reducible assumption))))
  have o6 : Own (((((w.alloc (.cells #[.pointer (some ⟨B, 0, none⟩)] 33)).alloc (.cells #[.int .i64 f.op, .int .i64 f.n, .slice a3 f.inn.length c3, .slice a4 f.kids.length c4] 29)).alloc (.cells #[.slice b1 t.cls.length d1, .slice b2 t.vals.length d2, .slice b3 t.parts.length d3] 41)).alloc (.cells #[.bool false] 4)).alloc (.cells #[.int .i64 0] 25)) (w.heap.size + 1 + 1 + 1) #[.bool false] 4 := (by repeat (first | (with_reducible assumption) | (with_reducible exact Own.new _ _ _) | (with_reducible refine Own.new' _ _ _ ?_; (focus (simp; done))) | (with_reducible refine Own.alloc ?_ _) | (with_reducible refine Own.drew ?_) | (with_reducible refine Own.drewN ?_ _) | (with_reducible refine Own.keep (w := ?_) ?_ ?_; rotate_left; (with_reducible assumption); (exact (by with_reducible repeat (first | assumption | exact Ext.rfl' _ | exact Ext.new _ _ | refine Ext.alloc' ?_ _ | refine Ext.drew' ?_ | refine Ext.drewN' ?_ _ | (refine Ext.set' ?_ ?_ _; rotate_left; focus (first | omega | (simp; done) | (simp; omega))) | (refine Ext.then (b := ?_) ?_ ?_; rotate_left; rotate_left; assumption))))) | (with_reducible refine Own.keep (w := ?_) ?_ ?_; rotate_left; rotate_left; (with_reducible assumption))))
  have o7 : Own (((((w.alloc (.cells #[.pointer (some ⟨B, 0, none⟩)] 33)).alloc (.cells #[.int .i64 f.op, .int .i64 f.n, .slice a3 f.inn.length c3, .slice a4 f.kids.length c4] 29)).alloc (.cells #[.slice b1 t.cls.length d1, .slice b2 t.vals.length d2, .slice b3 t.parts.length d3] 41)).alloc (.cells #[.bool false] 4)).alloc (.cells #[.int .i64 0] 25)) (w.heap.size + 1 + 1 + 1 + 1) #[.int .i64 0] 25 := (by repeat (first | (with_reducible assumption) | (with_reducible exact Own.new _ _ _) | (with_reducible refine Own.new' _ _ _ ?_; (focus (simp; done))) | (with_reducible refine Own.alloc ?_ _) | (with_reducible refine Own.drew ?_) | (with_reducible refine Own.drewN ?_ _) | (with_reducible refine Own.keep (w := ?_) ?_ ?_; rotate_left; (with_reducible assumption); (exact (by with_reducible repeat (first | assumption | exact Ext.rfl' _ | exact Ext.new _ _ | refine Ext.alloc' ?_ _ | refine Ext.drew' ?_ | refine Ext.drewN' ?_ _ | (refine Ext.set' ?_ ?_ _; rotate_left; focus (first | omega | (simp; done) | (simp; omega))) | (refine Ext.then (b := ?_) ?_ ?_; rotate_left; rotate_left; assumption))))) | (with_reducible refine Own.keep (w := ?_) ?_ ?_; rotate_left; rotate_left; (with_reducible assumption))))
  refine callsIn_of_wp_marks Tryz.func22 rfl trivial ?_ rfl
  simp only [Tryz.ntmps22, List.size_toArray, List.length_cons, List.length_nil, Nat.reduceAdd, Nat.reduceSub, Array.replicate_succ, Array.replicate_zero, List.push_toArray, List.append_toArray, List.nil_append, List.cons_append]
  refine wpIn_wide.2 ?_
  go_upto_region 3 with (fail)
  generalize World.alloc _ _ = w5 at *
  have hgs := e5.size
  generalize hB7 : w.heap.size + 1 + 1 + 1 + 1 = g7 at *
  generalize hB6 : w.heap.size + 1 + 1 + 1 = g6 at *
  generalize hB5 : w.heap.size + 1 + 1 = g5 at *
  generalize hB4 : w.heap.size + 1 = g4 at *
  have u40 : w5.cell? ⟨g4, 0, none⟩ = some (.int .i64 f.op) := o4.facts.1 0
  have u41 : w5.cell? ⟨g4, 1, none⟩ = some (.int .i64 f.n) := o4.facts.1 1
  have u42 : w5.cell? ⟨g4, 2, none⟩ = some (.slice a3 f.inn.length c3) := o4.facts.1 2
  have u43 : w5.cell? ⟨g4, 3, none⟩ = some (.slice a4 f.kids.length c4) := o4.facts.1 3
  have u50 : w5.cell? ⟨g5, 0, none⟩ = some (.slice b1 t.cls.length d1) := o5.facts.1 0
  have u51 : w5.cell? ⟨g5, 1, none⟩ = some (.slice b2 t.vals.length d2) := o5.facts.1 1
  have u52 : w5.cell? ⟨g5, 2, none⟩ = some (.slice b3 t.parts.length d3) := o5.facts.1 2
  have l4 := o4.lt
  have l5 := o5.lt
  have hFw := mono_FmR _ _ _ _ e5.ple hF0
  have hDw := mono_ThingR _ _ _ _ e5.ple hD
  unfold fmC at hFw
  have hv1 := fun w' (e : Ext w5 w') => fvalid_c f _ w' (mono_FmR _ _ _ _ e.ple hFw) hfb
  have hv2 := fun w' (e : Ext w5 w') => tvalid_c t _ w' (mono_ThingR _ _ _ _ e.ple hDw) hb
  rw [hf0] at hv1
  rw [ht0] at hv2
  replace hv1 := Lib.hid hv1
  replace hv2 := Lib.hid hv2
  (refine wp_region_I 7 (by kernel_rfl) (by kernel_rfl) ?_; simp only [List.toList_toArray, List.take_succ_cons, List.take_zero, List.drop_succ_cons, List.drop_zero])
  (refine walkI_is (u := ?_) rfl (by simp) rfl ?_ ?_; rotate_left; (focus (intro A w' hS hA K hK; (simp only [List.map_cons, List.map_nil, knows, Is, Op.operands, Call.operands, List.lookup_cons, List.lookup_nil, Nat.reduceBEq, Bool.false_eq_true, if_false, if_true, Act.eval, Array.getD_eq_getD_getElem?, List.getElem?_toArray, List.getElem?_cons_succ, List.getElem?_cons_zero, Option.getD_some, and_true, true_and, List.append_toArray, List.nil_append, List.cons_append, List.toList_toArray, Array.toList_append, Option.toArray, List.append_nil] at hA); (obtain ⟨hSc, hSf, hSs⟩ := hS.cells; go_simp; exact hK _ (by first | exact Ext.rfl' _ | exact Ext.new _ _ | assumption)))); (try simp only [List.nil_append, List.cons_append]))
  (refine walkI_is (u := ?_) rfl (by simp) rfl ?_ ?_; rotate_left; (focus (intro A w' hS hA K hK; (simp only [List.map_cons, List.map_nil, knows, Is, Op.operands, Call.operands, List.lookup_cons, List.lookup_nil, Nat.reduceBEq, Bool.false_eq_true, if_false, if_true, Act.eval, Array.getD_eq_getD_getElem?, List.getElem?_toArray, List.getElem?_cons_succ, List.getElem?_cons_zero, Option.getD_some, and_true, true_and, List.append_toArray, List.nil_append, List.cons_append, List.toList_toArray, Array.toList_append, Option.toArray, List.append_nil] at hA); first | (go_simp; refine (hv1.out _ hS).mono ?_; rintro e w9 ⟨rfl, hx9⟩; exact hK _ hx9) | (obtain ⟨hSc, hSf, hSs⟩ := hS.cells; go_simp; exact hK _ (by first | exact Ext.rfl' _ | exact Ext.new _ _ | assumption)))); (try simp only [List.nil_append, List.cons_append]))
  (refine walkI_is (u := ?_) rfl (by simp) rfl ?_ ?_; rotate_left; (focus (intro A w' hS hA K hK; (simp only [List.map_cons, List.map_nil, knows, Is, Op.operands, Call.operands, List.lookup_cons, List.lookup_nil, Nat.reduceBEq, Bool.false_eq_true, if_false, if_true, Act.eval, Array.getD_eq_getD_getElem?, List.getElem?_toArray, List.getElem?_cons_succ, List.getElem?_cons_zero, Option.getD_some, and_true, true_and, List.append_toArray, List.nil_append, List.cons_append, List.toList_toArray, Array.toList_append, Option.toArray, List.append_nil] at hA); (obtain ⟨hSc, hSf, hSs⟩ := hS.cells; go_simp; exact hK _ (by first | exact Ext.rfl' _ | exact Ext.new _ _ | assumption)))); (try simp only [List.nil_append, List.cons_append]))
  (refine walkI_is (u := ?_) rfl (by simp) rfl ?_ ?_; rotate_left; (focus (intro A w' hS hA K hK; (simp only [List.map_cons, List.map_nil, knows, Is, Op.operands, Call.operands, List.lookup_cons, List.lookup_nil, Nat.reduceBEq, Bool.false_eq_true, if_false, if_true, Act.eval, Array.getD_eq_getD_getElem?, List.getElem?_toArray, List.getElem?_cons_succ, List.getElem?_cons_zero, Option.getD_some, and_true, true_and, List.append_toArray, List.nil_append, List.cons_append, List.toList_toArray, Array.toList_append, Option.toArray, List.append_nil] at hA); first | (go_simp; refine (hv2.out _ hS).mono ?_; rintro e w9 ⟨rfl, hx9⟩; exact hK _ hx9) | (obtain ⟨hSc, hSf, hSs⟩ := hS.cells; go_simp; exact hK _ (by first | exact Ext.rfl' _ | exact Ext.new _ _ | assumption)))); (try simp only [List.nil_append, List.cons_append]))
  (refine walkI_step (NewSl w5 #[.int .i64 0, .int .i64 0] 25 2) rfl (by simp) rfl (stab_NewSl _ _ _ _) ?_ ?_; (focus (intro A w' hS hA K hK; (simp only [List.map_cons, List.map_nil, knows, Is, Op.operands, Call.operands, List.lookup_cons, List.lookup_nil, Nat.reduceBEq, Bool.false_eq_true, if_false, if_true, Act.eval, Array.getD_eq_getD_getElem?, List.getElem?_toArray, List.getElem?_cons_succ, List.getElem?_cons_zero, Option.getD_some, and_true, true_and, List.append_toArray, List.nil_append, List.cons_append, List.toList_toArray, Array.toList_append, Option.toArray, List.append_nil] at hA); (have hs' := hS.size; go_simp; exact hK _ _ (Ext.new _ _) ⟨_, rfl, Own.new _ _ _, by omega⟩))); (try simp only [List.nil_append, List.cons_append]))
  (refine walkI_is (u := ?_) rfl (by simp) rfl ?_ ?_; rotate_left; (focus (intro A w' hS hA K hK; (simp only [List.map_cons, List.map_nil, knows, Is, Op.operands, Call.operands, List.lookup_cons, List.lookup_nil, Nat.reduceBEq, Bool.false_eq_true, if_false, if_true, Act.eval, Array.getD_eq_getD_getElem?, List.getElem?_toArray, List.getElem?_cons_succ, List.getElem?_cons_zero, Option.getD_some, and_true, true_and, List.append_toArray, List.nil_append, List.cons_append, List.toList_toArray, Array.toList_append, Option.toArray, List.append_nil] at hA); first | (obtain ⟨g, hA1, hA2, -⟩ := hA; go_simp; refine (orE_c g _ hA2).mono ?_; rintro e w9 ⟨rfl, hx9⟩; exact hK _ hx9) | (obtain ⟨hSc, hSf, hSs⟩ := hS.cells; go_simp; exact hK _ (by first | exact Ext.rfl' _ | exact Ext.new _ _ | assumption)))); (try simp only [List.nil_append, List.cons_append]))
  (refine walkI_is (u := ?_) rfl (by simp) rfl ?_ ?_; rotate_left; (focus (intro A w' hS hA K hK; (simp only [List.map_cons, List.map_nil, knows, Is, Op.operands, Call.operands, List.lookup_cons, List.lookup_nil, Nat.reduceBEq, Bool.false_eq_true, if_false, if_true, Act.eval, Array.getD_eq_getD_getElem?, List.getElem?_toArray, List.getElem?_cons_succ, List.getElem?_cons_zero, Option.getD_some, and_true, true_and, List.append_toArray, List.nil_append, List.cons_append, List.toList_toArray, Array.toList_append, Option.toArray, List.append_nil] at hA); (obtain ⟨hSc, hSf, hSs⟩ := hS.cells; go_simp; exact hK _ (by first | exact Ext.rfl' _ | exact Ext.new _ _ | assumption)))); (try simp only [List.nil_append, List.cons_append]))
  (refine walkI_nil ?_; simp only [List.nil_append, List.cons_append, fins, Is, forall_eq, Act.put, List.setIfInBounds_toArray, List.set_cons_zero, List.set_cons_succ])
  rintro w6 hx6 v16 -
  replace o3 := o3.keep hx6
  replace o4 := o4.keep hx6
  replace o5 := o5.keep hx6
  replace o6 := o6.keep hx6
  replace o7 := o7.keep hx6
  replace e5 := e5.then hx6
  have hF6 := mono_FmR _ _ _ _ hx6.ple hFw
  clear hv1 hv2 hFw hDw u40 u41 u42 u43 u50 u51 u52 l4 l5 hx6
  have u40 : w6.cell? ⟨g4, 0, none⟩ = some (.int .i64 f.op) := o4.facts.1 0
  have u41 : w6.cell? ⟨g4, 1, none⟩ = some (.int .i64 f.n) := o4.facts.1 1
  have u42 : w6.cell? ⟨g4, 2, none⟩ = some (.slice a3 f.inn.length c3) := o4.facts.1 2
  have u43 : w6.cell? ⟨g4, 3, none⟩ = some (.slice a4 f.kids.length c4) := o4.facts.1 3
  have l4 := o4.lt
  go_wp2_with fail
  refine (nodes_p f _ _ hF6).mono ?_
  rintro e w' ⟨rfl, rfl⟩
  go_wp2_with fail
  refine (wpIn_wide (n := 7)).1 ?_
  have ex := Ext.new w6 (.cells #[.int .i64 f.op, .int .i64 f.n, .slice a3 f.inn.length c3, .slice a4 f.kids.length c4] 29)
  have hO2 := Proofs.YtbpilielamjnoaaGreat.Own.new w6 #[.int .i64 f.op, .int .i64 f.n, .slice a3 f.inn.length c3, .slice a4 f.kids.length c4] 29
  have hO3 := o3.keep ex
  have hO4 := o4.keep ex
  have hO5 := o5.keep ex
  have hO6 := o6.keep ex
  have hO7 := o7.keep ex
  have hx0 : Ext w (w6.alloc (.cells #[.int .i64 f.op, .int .i64 f.n, .slice a3 f.inn.length c3, .slice a4 f.kids.length c4] 29)) := e5.then ex
  have hsz : (w6.alloc (.cells #[.int .i64 f.op, .int .i64 f.n, .slice a3 f.inn.length c3, .slice a4 f.kids.length c4] 29)).heap.size = w6.heap.size + 1 := by simp
  have hg6 := e5.size
  clear o3 o4 o5 o6 o7 ex u40 u41 u42 u43 l4 hF6
  generalize w6.alloc _ = W0 at *
  have hps : f.pre.length = f.size := f.pre_len
  have hl7 : w.heap.size ≤ g7 := by omega
  have hl6 : w.heap.size ≤ g6 := by omega
  have hg0 := hx0.size
  refine wpIn_rangeFunc_ownH rfl (by omega) (gf := 83) (lb := #[.pointer (some ⟨w6.heap.size, 0, none⟩)]) rfl trivial (enters_of Tryz.func83 (by kernel_rfl) rfl)
    (encs := fun x : FmA (ph w) => #[.agg x.1.1.toArray]) (Kp := Kx w.heap.size g7) (S := fun ys => fmsOf ys = f.pre) (Sp := fun p => fmsOf p <+: f.pre) (N := f.pre.length)
    (w0 := W0) (nodes_seq (by omega) (Good.of hO7 rfl) hx0.ple (ph_low w) (by omega) hO2 hF0) Kx.then (Kx.put hg0 hO7.lt) (Below.refl _ _) (fun _ => rfl)
    (fun pre W => Own W w.heap.size #[.pointer (some ⟨B, 0, none⟩)] 33 ∧ Own W g5 #[.slice b1 t.cls.length d1, .slice b2 t.vals.length d2, .slice b3 t.parts.length d3] 41 ∧ Own W g6 #[.bool false] 4 ∧ Own W g7 #[.int .i64 0] 25 ∧ Own W g4 #[.int .i64 f.op, .int .i64 f.n, .slice a3 f.inn.length c3, .slice a4 f.kids.length c4] 29 ∧ Ext w W)
    (fun c pre W => c = .ret ∧ ∃ x ∈ pre, (FmA.f x).op = 1 ∧ (ps.length : Int) ≤ (FmA.f x).n)
    ?hI ?hIx ⟨hO3, hO5, hO6, hO7, hO4, hx0⟩ (NodeA (fun x Bx => #[.pointer (some ⟨B, 0, none⟩), .agg #[.int .i64 f.op, .int .i64 f.n, .slice a3 f.inn.length c3, .slice a4 f.kids.length c4], .agg #[.slice b1 t.cls.length d1, .slice b2 t.vals.length d2, .slice b3 t.parts.length d3], .pointer (some ⟨w.heap.size, 0, none⟩), .pointer (some ⟨g4, 0, none⟩), .pointer (some ⟨g5, 0, none⟩), .pointer (some ⟨g6, 0, none⟩), .pointer (some ⟨g7, 0, none⟩), .int .i64 0, .pointer (some ⟨Bx, 0, none⟩), .pointer (some ⟨B, 0, none⟩), .bool false, .agg #[.int .i64 f.op, .int .i64 f.n, .slice a3 f.inn.length c3, .slice a4 f.kids.length c4], .int .i64 0, .agg #[.slice b1 t.cls.length d1, .slice b2 t.vals.length d2, .slice b3 t.parts.length d3], .int .i64 0, v16, .int .i64 0, .int .i64 0, .bool false, undef, .agg #[.int .i64 f.op, .int .i64 f.n, .slice a3 f.inn.length c3, .slice a4 f.kids.length c4], .func (.func 83) #[] #[.pointer (some ⟨w6.heap.size, 0, none⟩)], .agg x.1.1.toArray, undef, undef, undef, undef, undef, undef, undef, undef, undef, undef, undef, undef, undef, undef, undef, undef, undef, undef, undef])) (NodeA.from _ _) ?assign ?body ?done ?stop
  case hI =>
    rintro pre A B' row ⟨k1, k2, k3, k4, k5, k6⟩ hg hr
    exact ⟨own_keptF k1 hg fun r e => (hr r e).2, own_keptF k2 hg fun r e => (hr r e).2, own_keptF k3 hg fun r e => (hr r e).2, own_keptF k4 hg fun r e => (hr r e).2, own_keptF k5 hg fun r e => (hr r e).2, k6.grown hg fun r e => Nat.le_trans (by omega) (hr r e).1⟩
  case hIx =>
    rintro c pre A B' row h hg hr
    exact h
  case stop =>
    rintro D c pre W hD hpre ⟨rfl, x, hxm, q1, q2⟩ hK
    exfalso
    have hxp : FmA.f x ∈ f.pre := hpre.subset (List.mem_map.2 ⟨x, hxm, rfl⟩)
    unfold wholeN at hfn
    rw [List.all_eq_true] at hfn
    have := hfn _ hxp
    rw [q1] at this
    simp at this
    omega
  case assign =>
    rintro l pre ⟨⟨cs, g⟩, hg⟩ W K ⟨k1, k2, k3, k4, k5, k6⟩ hK
    replace hg : FmR (ph w) cs g := hg
    obtain ⟨p3, q3, p4, q4, rfl, -⟩ := hg.form
    unfold fmC at *
    have hk1 := Kx.ext (n₀ := w.heap.size) (Bo := g7) (Ext.new W (.cells #[.int .i64 g.op, .int .i64 g.n, .slice p3 g.inn.length q3, .slice p4 g.kids.length q4] 29)) k4.lt k6.size
    have e := Ext.new W (.cells #[.int .i64 g.op, .int .i64 g.n, .slice p3 g.inn.length q3, .slice p4 g.kids.length q4] 29)
    replace k1 := k1.keep e
    replace k2 := k2.keep e
    replace k3 := k3.keep e
    replace k4 := k4.keep e
    replace k5 := k5.keep e
    replace k6 := k6.then e
    have y1 := (KeepsOthers.alloc W (.cells #[.int .i64 g.op, .int .i64 g.n, .slice p3 g.inn.length q3, .slice p4 g.kids.length q4] 29)).from W0.heap.size
    have y4 := Proofs.YtbpilielamjnoaaGreat.Own.new W #[.int .i64 g.op, .int .i64 g.n, .slice p3 g.inn.length q3, .slice p4 g.kids.length q4] 29
    have y5 : W.heap.size < (W.alloc (.cells #[.int .i64 g.op, .int .i64 g.n, .slice p3 g.inn.length q3, .slice p4 g.kids.length q4] 29)).heap.size := by simp
    gi_wp2
    generalize W.heap.size = Bx at *
    exact hK _ _ y1 hk1 ⟨k1, k2, k3, k4, k5, k6⟩ ⟨Bx, y5, y4, rfl⟩
  case body =>
    rintro l pre ⟨⟨cs, g⟩, hg⟩ a' W hl ⟨r, hrr⟩ ⟨k1, k2, k3, k4, k5, k6⟩ ⟨Bx, hBx, oX, rfl⟩ hlt
    replace hg : FmR (ph w) cs g := hg
    obtain ⟨p3, q3, p4, q4, rfl, -⟩ := hg.form
    have hy : ∀ (h : FmR (ph w) (fmC g p3 q3 p4 q4) g), FmA.f (⟨(fmC g p3 q3 p4 q4, g), h⟩ : FmA (ph w)) = g := fun _ => rfl
    unfold fmC at *
    dsimp only at oX
    obtain ⟨cX, -⟩ := oX.facts
    have x0 : W.cell? ⟨Bx, 0, none⟩ = some (.int .i64 g.op) := cX 0
    have x1 : W.cell? ⟨Bx, 1, none⟩ = some (.int .i64 g.n) := cX 1
    have y3 : W.cell? ⟨w.heap.size, 0, none⟩ = some (.pointer (some ⟨B, 0, none⟩)) := k1.facts.1 0
    have yl := k1.lt
    have hsz2 := k6.size
    have hTW := hT.keep k6
    clear cX hg hO2 hO3 hO4 hO5 hO6 hO7 hF hF0 hD hT h1 h2 h3 hfi hfk
    gi_wp2
    refine wpIn_region_any (by kernel_rfl) (wpAny_in (noDefer_of (by kernel_rfl)) _ _ _ _ (wpAny_region_J 10 (by kernel_rfl) ?_))
    simp only [List.toList_toArray, List.take_succ_cons, List.take_zero]
    by_cases hop : g.op = 1
    · have bb1 : (g.op == 1) = true := by simpa using hop
      cases hle : decide ((ps.length : Int) ≤ g.n) with
      | true =>
        iterate 4 (refine walkI_is (u := ?_) rfl (by simp) rfl ?_ ?_; rotate_left; (focus (intro A w' hS hA K hK; (simp only [List.map_cons, List.map_nil, knows, Is, Op.operands, Call.operands, List.lookup_cons, List.lookup_nil, Nat.reduceBEq, Bool.false_eq_true, if_false, if_true, Act.eval, Array.getD_eq_getD_getElem?, List.getElem?_toArray, List.getElem?_cons_succ, List.getElem?_cons_zero, Option.getD_some, and_true, true_and, List.append_toArray, List.nil_append, List.cons_append, List.toList_toArray, Array.toList_append, Option.toArray, List.append_nil] at hA); (obtain ⟨hSc, hSf, hSs⟩ := hS.cells; go_simp; exact hK _ (by first | exact Ext.rfl' _ | exact Ext.new _ _ | assumption)))); (try simp only [List.nil_append, List.cons_append]))
        iterate 3 (refine walkI_yesis (u := ?_) rfl (by simp) rfl rfl rfl ?_ ?_; rotate_left; (focus (intro A w' hS hA K hK; (simp only [List.map_cons, List.map_nil, knows, Is, Op.operands, Call.operands, List.lookup_cons, List.lookup_nil, Nat.reduceBEq, Bool.false_eq_true, if_false, if_true, Act.eval, Array.getD_eq_getD_getElem?, List.getElem?_toArray, List.getElem?_cons_succ, List.getElem?_cons_zero, Option.getD_some, and_true, true_and, List.append_toArray, List.nil_append, List.cons_append, List.toList_toArray, Array.toList_append, Option.toArray, List.append_nil] at hA); (obtain ⟨hSc, hSf, hSs⟩ := hS.cells; go_simp; exact hK _ (by first | exact Ext.rfl' _ | exact Ext.new _ _ | assumption)))); (try simp only [List.nil_append, List.cons_append]))
        (refine walkI_yesis (u := ?_) rfl (by simp) rfl rfl rfl ?_ ?_; rotate_left; (focus (intro A w' hS hA K hK; (simp only [List.map_cons, List.map_nil, knows, Is, Op.operands, Call.operands, List.lookup_cons, List.lookup_nil, Nat.reduceBEq, Bool.false_eq_true, if_false, if_true, Act.eval, Array.getD_eq_getD_getElem?, List.getElem?_toArray, List.getElem?_cons_succ, List.getElem?_cons_zero, Option.getD_some, and_true, true_and, List.append_toArray, List.nil_append, List.cons_append, List.toList_toArray, Array.toList_append, Option.toArray, List.append_nil] at hA); first | (go_simp; refine (lenTx_c (hTW.keep hS)).mono ?_; rintro e w9 ⟨rfl, hx9⟩; exact hK _ hx9) | (obtain ⟨hSc, hSf, hSs⟩ := hS.cells; go_simp; exact hK _ (by first | exact Ext.rfl' _ | exact Ext.new _ _ | assumption)))); (try simp only [List.nil_append, List.cons_append]))
        (refine walkI_yesis (u := ?_) rfl (by simp) rfl rfl rfl ?_ ?_; rotate_left; (focus (intro A w' hS hA K hK; (simp only [List.map_cons, List.map_nil, knows, Is, Op.operands, Call.operands, List.lookup_cons, List.lookup_nil, Nat.reduceBEq, Bool.false_eq_true, if_false, if_true, Act.eval, Array.getD_eq_getD_getElem?, List.getElem?_toArray, List.getElem?_cons_succ, List.getElem?_cons_zero, Option.getD_some, and_true, true_and, List.append_toArray, List.nil_append, List.cons_append, List.toList_toArray, Array.toList_append, Option.toArray, List.append_nil] at hA); (obtain ⟨hSc, hSf, hSs⟩ := hS.cells; go_simp; exact hK _ (by first | exact Ext.rfl' _ | exact Ext.new _ _ | assumption)))); (try simp only [List.nil_append, List.cons_append]))
        (refine walkI_is (u := ?_) rfl (by simp) rfl ?_ ?_; rotate_left; (focus (intro A w' hS hA K hK; (simp only [List.map_cons, List.map_nil, knows, Is, Op.operands, Call.operands, List.lookup_cons, List.lookup_nil, Nat.reduceBEq, Bool.false_eq_true, if_false, if_true, Act.eval, Array.getD_eq_getD_getElem?, List.getElem?_toArray, List.getElem?_cons_succ, List.getElem?_cons_zero, Option.getD_some, and_true, true_and, List.append_toArray, List.nil_append, List.cons_append, List.toList_toArray, Array.toList_append, Option.toArray, List.append_nil] at hA); (obtain ⟨hSc, hSf, hSs⟩ := hS.cells; go_simp; exact hK _ (by first | exact Ext.rfl' _ | exact Ext.new _ _ | assumption)))); (try simp only [List.nil_append, List.cons_append]))
        (refine walkI_nil ?_; simp only [List.nil_append, List.cons_append, fins, Is, forall_eq, Act.put, List.setIfInBounds_toArray, List.set_cons_zero, List.set_cons_succ])
        intro W2 hx2
        have hk2 := Kx.ext (n₀ := w.heap.size) (Bo := g7) hx2 k4.lt hsz2
        have hko : KeepsOthers W W2 := KeepsOthers.of_grownBy (Ext.grownG' hx2 none) (fun j o e => by cases e)
        replace k1 := k1.keep hx2
        replace k2 := k2.keep hx2
        replace k3 := k3.keep hx2
        replace k4 := k4.keep hx2
        replace k5 := k5.keep hx2
        replace k6 := k6.then hx2
        clear x0 x1 y3 yl
        refine wpAny_done (by kernel_rfl) ?_ _
        try simp only [List.getElem?_toArray, List.getElem_toArray, List.getElem?_cons_succ, List.getElem?_cons_zero, List.getElem_cons_succ, List.getElem_cons_zero, Act.put, List.setIfInBounds_toArray, List.set_cons_zero, List.set_cons_succ]
        rename_i hKc
        refine hKc _ _ ?_
        have e6 := k3.facts.2 0
        have e7 := k4.facts.2 0
        have c6 : W2.cell? ⟨g6, 0, none⟩ = some (.bool false) := k3.facts.1 0
        have c7 : W2.cell? ⟨g7, 0, none⟩ = some (.int .i64 0) := k4.facts.1 0
        have l6 := k3.lt
        have l7 := k4.lt
        have hne : g6 ≠ g7 := by omega
        gi_wp2
        refine ⟨(hko.trans ((KeepsOthers.setCell _ _ _).trans (KeepsOthers.setCell _ _ _))).from _, rfl, _, List.mem_append_right _ (List.mem_singleton.2 rfl), ?_, ?_⟩
        · rw [hy]; exact hop
        · rw [hy]; simpa using hle
      | false =>
        iterate 4 (refine walkI_is (u := ?_) rfl (by simp) rfl ?_ ?_; rotate_left; (focus (intro A w' hS hA K hK; (simp only [List.map_cons, List.map_nil, knows, Is, Op.operands, Call.operands, List.lookup_cons, List.lookup_nil, Nat.reduceBEq, Bool.false_eq_true, if_false, if_true, Act.eval, Array.getD_eq_getD_getElem?, List.getElem?_toArray, List.getElem?_cons_succ, List.getElem?_cons_zero, Option.getD_some, and_true, true_and, List.append_toArray, List.nil_append, List.cons_append, List.toList_toArray, Array.toList_append, Option.toArray, List.append_nil] at hA); (obtain ⟨hSc, hSf, hSs⟩ := hS.cells; go_simp; exact hK _ (by first | exact Ext.rfl' _ | exact Ext.new _ _ | assumption)))); (try simp only [List.nil_append, List.cons_append]))
        iterate 3 (refine walkI_yesis (u := ?_) rfl (by simp) rfl rfl rfl ?_ ?_; rotate_left; (focus (intro A w' hS hA K hK; (simp only [List.map_cons, List.map_nil, knows, Is, Op.operands, Call.operands, List.lookup_cons, List.lookup_nil, Nat.reduceBEq, Bool.false_eq_true, if_false, if_true, Act.eval, Array.getD_eq_getD_getElem?, List.getElem?_toArray, List.getElem?_cons_succ, List.getElem?_cons_zero, Option.getD_some, and_true, true_and, List.append_toArray, List.nil_append, List.cons_append, List.toList_toArray, Array.toList_append, Option.toArray, List.append_nil] at hA); (obtain ⟨hSc, hSf, hSs⟩ := hS.cells; go_simp; exact hK _ (by first | exact Ext.rfl' _ | exact Ext.new _ _ | assumption)))); (try simp only [List.nil_append, List.cons_append]))
        (refine walkI_yesis (u := ?_) rfl (by simp) rfl rfl rfl ?_ ?_; rotate_left; (focus (intro A w' hS hA K hK; (simp only [List.map_cons, List.map_nil, knows, Is, Op.operands, Call.operands, List.lookup_cons, List.lookup_nil, Nat.reduceBEq, Bool.false_eq_true, if_false, if_true, Act.eval, Array.getD_eq_getD_getElem?, List.getElem?_toArray, List.getElem?_cons_succ, List.getElem?_cons_zero, Option.getD_some, and_true, true_and, List.append_toArray, List.nil_append, List.cons_append, List.toList_toArray, Array.toList_append, Option.toArray, List.append_nil] at hA); first | (go_simp; refine (lenTx_c (hTW.keep hS)).mono ?_; rintro e w9 ⟨rfl, hx9⟩; exact hK _ hx9) | (obtain ⟨hSc, hSf, hSs⟩ := hS.cells; go_simp; exact hK _ (by first | exact Ext.rfl' _ | exact Ext.new _ _ | assumption)))); (try simp only [List.nil_append, List.cons_append]))
        (refine walkI_yesis (u := ?_) rfl (by simp) rfl rfl rfl ?_ ?_; rotate_left; (focus (intro A w' hS hA K hK; (simp only [List.map_cons, List.map_nil, knows, Is, Op.operands, Call.operands, List.lookup_cons, List.lookup_nil, Nat.reduceBEq, Bool.false_eq_true, if_false, if_true, Act.eval, Array.getD_eq_getD_getElem?, List.getElem?_toArray, List.getElem?_cons_succ, List.getElem?_cons_zero, Option.getD_some, and_true, true_and, List.append_toArray, List.nil_append, List.cons_append, List.toList_toArray, Array.toList_append, Option.toArray, List.append_nil] at hA); (obtain ⟨hSc, hSf, hSs⟩ := hS.cells; go_simp; exact hK _ (by first | exact Ext.rfl' _ | exact Ext.new _ _ | assumption)))); (try simp only [List.nil_append, List.cons_append]))
        (refine walkI_is (u := ?_) rfl (by simp) rfl ?_ ?_; rotate_left; (focus (intro A w' hS hA K hK; (simp only [List.map_cons, List.map_nil, knows, Is, Op.operands, Call.operands, List.lookup_cons, List.lookup_nil, Nat.reduceBEq, Bool.false_eq_true, if_false, if_true, Act.eval, Array.getD_eq_getD_getElem?, List.getElem?_toArray, List.getElem?_cons_succ, List.getElem?_cons_zero, Option.getD_some, and_true, true_and, List.append_toArray, List.nil_append, List.cons_append, List.toList_toArray, Array.toList_append, Option.toArray, List.append_nil] at hA); (obtain ⟨hSc, hSf, hSs⟩ := hS.cells; go_simp; exact hK _ (by first | exact Ext.rfl' _ | exact Ext.new _ _ | assumption)))); (try simp only [List.nil_append, List.cons_append]))
        (refine walkI_nil ?_; simp only [List.nil_append, List.cons_append, fins, Is, forall_eq, Act.put, List.setIfInBounds_toArray, List.set_cons_zero, List.set_cons_succ])
        intro W2 hx2
        have hk2 := Kx.ext (n₀ := w.heap.size) (Bo := g7) hx2 k4.lt hsz2
        have hko : KeepsOthers W W2 := KeepsOthers.of_grownBy (Ext.grownG' hx2 none) (fun j o e => by cases e)
        replace k1 := k1.keep hx2
        replace k2 := k2.keep hx2
        replace k3 := k3.keep hx2
        replace k4 := k4.keep hx2
        replace k5 := k5.keep hx2
        replace k6 := k6.then hx2
        clear x0 x1 y3 yl
        refine wpAny_done (by kernel_rfl) ?_ _
        try simp only [List.getElem?_toArray, List.getElem_toArray, List.getElem?_cons_succ, List.getElem?_cons_zero, List.getElem_cons_succ, List.getElem_cons_zero, Act.put, List.setIfInBounds_toArray, List.set_cons_zero, List.set_cons_succ]
        rename_i hKc
        refine hKc _ _ ?_
        gi_wp2
        exact ⟨hko.from _, hk2, k1, k2, k3, k4, k5, k6⟩
    · have bb1 : (g.op == 1) = false := by simpa using hop
      iterate 4 (refine walkI_is (u := ?_) rfl (by simp) rfl ?_ ?_; rotate_left; (focus (intro A w' hS hA K hK; (simp only [List.map_cons, List.map_nil, knows, Is, Op.operands, Call.operands, List.lookup_cons, List.lookup_nil, Nat.reduceBEq, Bool.false_eq_true, if_false, if_true, Act.eval, Array.getD_eq_getD_getElem?, List.getElem?_toArray, List.getElem?_cons_succ, List.getElem?_cons_zero, Option.getD_some, and_true, true_and, List.append_toArray, List.nil_append, List.cons_append, List.toList_toArray, Array.toList_append, Option.toArray, List.append_nil] at hA); (obtain ⟨hSc, hSf, hSs⟩ := hS.cells; go_simp; exact hK _ (by first | exact Ext.rfl' _ | exact Ext.new _ _ | assumption)))); (try simp only [List.nil_append, List.cons_append]))
      iterate 5 (refine walkI_no rfl (by simp) rfl rfl rfl ?_ ?_; (focus (simp [undef]; done)); (try simp only [List.nil_append, List.cons_append]))
      (refine walkI_is (u := ?_) rfl (by simp) rfl ?_ ?_; rotate_left; (focus (intro A w' hS hA K hK; (simp only [List.map_cons, List.map_nil, knows, Is, Op.operands, Call.operands, List.lookup_cons, List.lookup_nil, Nat.reduceBEq, Bool.false_eq_true, if_false, if_true, Act.eval, Array.getD_eq_getD_getElem?, List.getElem?_toArray, List.getElem?_cons_succ, List.getElem?_cons_zero, Option.getD_some, and_true, true_and, List.append_toArray, List.nil_append, List.cons_append, List.toList_toArray, Array.toList_append, Option.toArray, List.append_nil] at hA); (obtain ⟨hSc, hSf, hSs⟩ := hS.cells; go_simp; exact hK _ (by first | exact Ext.rfl' _ | exact Ext.new _ _ | assumption)))); (try simp only [List.nil_append, List.cons_append]))
      (refine walkI_nil ?_; simp only [List.nil_append, List.cons_append, fins, Is, forall_eq, Act.put, List.setIfInBounds_toArray, List.set_cons_zero, List.set_cons_succ])
      intro W2 hx2
      have hk2 := Kx.ext (n₀ := w.heap.size) (Bo := g7) hx2 k4.lt hsz2
      have hko : KeepsOthers W W2 := KeepsOthers.of_grownBy (Ext.grownG' hx2 none) (fun j o e => by cases e)
      replace k1 := k1.keep hx2
      replace k2 := k2.keep hx2
      replace k3 := k3.keep hx2
      replace k4 := k4.keep hx2
      replace k5 := k5.keep hx2
      replace k6 := k6.then hx2
      clear x0 x1 y3 yl
      refine wpAny_done (by kernel_rfl) ?_ _
      try simp only [List.getElem?_toArray, List.getElem_toArray, List.getElem?_cons_succ, List.getElem?_cons_zero, List.getElem_cons_succ, List.getElem_cons_zero, Act.put, List.setIfInBounds_toArray, List.set_cons_zero, List.set_cons_succ]
      rename_i hKc
      refine hKc _ _ ?_
      gi_wp2
      exact ⟨hko.from _, hk2, k1, k2, k3, k4, k5, k6⟩
  case done =>
    have hO6' := hO6
    rintro D zs W hD hz ⟨k1, k2, k3, k4, k5, k6⟩ hK
    have y3 : W.cell? ⟨w.heap.size, 0, none⟩ = some (.pointer (some ⟨B, 0, none⟩)) := k1.facts.1 0
    have y50 : W.cell? ⟨g5, 0, none⟩ = some (.slice b1 t.cls.length d1) := k2.facts.1 0
    have y51 : W.cell? ⟨g5, 1, none⟩ = some (.slice b2 t.vals.length d2) := k2.facts.1 1
    have y52 : W.cell? ⟨g5, 2, none⟩ = some (.slice b3 t.parts.length d3) := k2.facts.1 2
    have yl := k1.lt
    have yl5 := k2.lt
    have hTW := hT.keep k6
    have hDW := mono_ThingR _ _ _ _ k6.ple hD'
    have hn64 : I64 (ps.length : Int) := by unfold I64; omega
    clear hO2 hO3 hO4 hO5 hO6 hF hT h1 h2 h3 hfi hfk hz
    gi_wp2
    go_upto_region 10 with (fail)
    (refine wp_region_I 5 (by kernel_rfl) (by kernel_rfl) ?_; simp only [List.toList_toArray, List.take_succ_cons, List.take_zero, List.drop_succ_cons, List.drop_zero])
    iterate 2 (refine walkI_is (u := ?_) rfl (by simp) rfl ?_ ?_; rotate_left; (focus (intro A w' hS hA K hK; (simp only [List.map_cons, List.map_nil, knows, Is, Op.operands, Call.operands, List.lookup_cons, List.lookup_nil, Nat.reduceBEq, Bool.false_eq_true, if_false, if_true, Act.eval, Array.getD_eq_getD_getElem?, List.getElem?_toArray, List.getElem?_cons_succ, List.getElem?_cons_zero, Option.getD_some, and_true, true_and, List.append_toArray, List.nil_append, List.cons_append, List.toList_toArray, Array.toList_append, Option.toArray, List.append_nil] at hA); (obtain ⟨hSc, hSf, hSs⟩ := hS.cells; go_simp; exact hK _ (by first | exact Ext.rfl' _ | exact Ext.new _ _ | assumption)))); (try simp only [List.nil_append, List.cons_append]))
    (refine walkI_is (u := ?_) rfl (by simp) rfl ?_ ?_; rotate_left; (focus (intro A w' hS hA K hK; (simp only [List.map_cons, List.map_nil, knows, Is, Op.operands, Call.operands, List.lookup_cons, List.lookup_nil, Nat.reduceBEq, Bool.false_eq_true, if_false, if_true, Act.eval, Array.getD_eq_getD_getElem?, List.getElem?_toArray, List.getElem?_cons_succ, List.getElem?_cons_zero, Option.getD_some, and_true, true_and, List.append_toArray, List.nil_append, List.cons_append, List.toList_toArray, Array.toList_append, Option.toArray, List.append_nil] at hA); first | (go_simp; refine (lenTx_c (hTW.keep hS)).mono ?_; rintro e w9 ⟨rfl, hx9⟩; exact hK _ hx9) | (obtain ⟨hSc, hSf, hSs⟩ := hS.cells; go_simp; exact hK _ (by first | exact Ext.rfl' _ | exact Ext.new _ _ | assumption)))); (try simp only [List.nil_append, List.cons_append]))
    (refine walkI_is (u := ?_) rfl (by simp) rfl ?_ ?_; rotate_left; (focus (intro A w' hS hA K hK; (simp only [List.map_cons, List.map_nil, knows, Is, Op.operands, Call.operands, List.lookup_cons, List.lookup_nil, Nat.reduceBEq, Bool.false_eq_true, if_false, if_true, Act.eval, Array.getD_eq_getD_getElem?, List.getElem?_toArray, List.getElem?_cons_succ, List.getElem?_cons_zero, Option.getD_some, and_true, true_and, List.append_toArray, List.nil_append, List.cons_append, List.toList_toArray, Array.toList_append, Option.toArray, List.append_nil] at hA); first | (go_simp; refine (kinds_c _ hn64 t _ _ (mono_ThingR _ _ _ _ hS.ple hDW) htn).mono ?_; rintro e w9 ⟨rfl, hx9⟩; exact hK _ hx9) | (obtain ⟨hSc, hSf, hSs⟩ := hS.cells; go_simp; exact hK _ (by first | exact Ext.rfl' _ | exact Ext.new _ _ | assumption)))); (try simp only [List.nil_append, List.cons_append]))
    (refine walkI_is (u := ?_) rfl (by simp) rfl ?_ ?_; rotate_left; (focus (intro A w' hS hA K hK; (simp only [List.map_cons, List.map_nil, knows, Is, Op.operands, Call.operands, List.lookup_cons, List.lookup_nil, Nat.reduceBEq, Bool.false_eq_true, if_false, if_true, Act.eval, Array.getD_eq_getD_getElem?, List.getElem?_toArray, List.getElem?_cons_succ, List.getElem?_cons_zero, Option.getD_some, and_true, true_and, List.append_toArray, List.nil_append, List.cons_append, List.toList_toArray, Array.toList_append, Option.toArray, List.append_nil] at hA); (obtain ⟨hSc, hSf, hSs⟩ := hS.cells; go_simp; exact hK _ (by first | exact Ext.rfl' _ | exact Ext.new _ _ | assumption)))); (try simp only [List.nil_append, List.cons_append]))
    (refine walkI_nil ?_; simp only [List.nil_append, List.cons_append, fins, Is, forall_eq, Act.put, List.setIfInBounds_toArray, List.set_cons_zero, List.set_cons_succ])
    intro W2 hx2
    replace k1 := k1.keep hx2
    replace k2 := k2.keep hx2
    replace k3 := k3.keep hx2
    replace k4 := k4.keep hx2
    replace k5 := k5.keep hx2
    replace k6 := k6.then hx2
    have hlD : D < W.heap.size := (Array.getElem?_eq_some_iff.1 hK).1
    have hK2 : W2.heap[D]? = some (.deferred (some [])) := (hx2.block D hlD).trans hK
    clear y3 y50 y51 y52 yl yl5 hTW hDW hK hlD
    have y3 : W2.cell? ⟨w.heap.size, 0, none⟩ = some (.pointer (some ⟨B, 0, none⟩)) := k1.facts.1 0
    have y50 : W2.cell? ⟨g5, 0, none⟩ = some (.slice b1 t.cls.length d1) := k2.facts.1 0
    have y51 : W2.cell? ⟨g5, 1, none⟩ = some (.slice b2 t.vals.length d2) := k2.facts.1 1
    have y52 : W2.cell? ⟨g5, 2, none⟩ = some (.slice b3 t.parts.length d3) := k2.facts.1 2
    have y40 : W2.cell? ⟨g4, 0, none⟩ = some (.int .i64 f.op) := k5.facts.1 0
    have y41 : W2.cell? ⟨g4, 1, none⟩ = some (.int .i64 f.n) := k5.facts.1 1
    have y42 : W2.cell? ⟨g4, 2, none⟩ = some (.slice a3 f.inn.length c3) := k5.facts.1 2
    have y43 : W2.cell? ⟨g4, 3, none⟩ = some (.slice a4 f.kids.length c4) := k5.facts.1 3
    have yl := k1.lt
    have yl4 := k5.lt
    have yl5 := k2.lt
    go_wp2_with fail
    refine RetV_at (holds_c hn B f t _ _ _ (hT2.keep k6) (mono_FmR _ _ _ _ k6.ple hF0) (mono_ThingR _ _ _ _ k6.ple hD') hw) ?_
    intro W3 hx3
    replace k3 := k3.keep hx3
    replace k4 := k4.keep hx3
    replace k6 := k6.then hx3
    have hlD : D < W2.heap.size := (Array.getElem?_eq_some_iff.1 hK2).1
    have hK3 : W3.heap[D]? = some (.deferred (some [])) := (hx3.block D hlD).trans hK2
    clear y3 y50 y51 y52 y40 y41 y42 y43 yl yl4 yl5 hK2 hlD hx2 hx3
    generalize hold ps f t = res at *
    have e6 := k3.facts.2 0
    have e7 := k4.facts.2 0
    have c6 : W3.cell? ⟨g6, 0, none⟩ = some (.bool false) := k3.facts.1 0
    have c7 : W3.cell? ⟨g7, 0, none⟩ = some (.int .i64 0) := k4.facts.1 0
    have l6 := k3.lt
    have l7 := k4.lt
    have hne : g6 ≠ g7 := by omega
    have hK6 : ((W3.setCell ⟨g6, 0, none⟩ (.bool res)).setCell ⟨g7, 0, none⟩ (.int .i64 0)).heap[D]? = some (.deferred (some [])) := (KeepsOthers.setCell _ _ _).same D _ ((KeepsOthers.setCell _ _ _).same D _ hK3 rfl) rfl
    have hx6 : Ext w ((W3.setCell ⟨g6, 0, none⟩ (.bool res)).setCell ⟨g7, 0, none⟩ (.int .i64 0)) := (k6.set' (p := ⟨g6, 0, none⟩) hl6 _).set' (p := ⟨g7, 0, none⟩) hl7 _
    have m6 := (k3.set 0 (.bool res)).setOther (p := ⟨g7, 0, none⟩) hne (.int .i64 0)
    have m7 := (k4.setOther (p := ⟨g6, 0, none⟩) (Ne.symm hne) (.bool res)).set 0 (.int .i64 0)
    have b5 := belowK_b (w := W0) (Nat.le_refl _) _ D _ (.deferred none) hD hK6 rfl rfl
    have r6 := (b5.cell (p := ⟨g6, 0, none⟩) hO6'.lt).trans (m6.facts.1 0)
    have r7 := (b5.cell (p := ⟨g7, 0, none⟩) hO7.lt).trans (m7.facts.1 0)
    simp at r6 r7
    go_wp2_with fail
    refine ⟨by simp, .inl ⟨_, _, rfl, run_takeDeferred hK6, ?_⟩⟩
    exact ⟨.tuple #[.bool res, .int .i64 0], by simp [results, Tryz.results22, go_sem, r6, r7], ⟨rfl, hx6.trans (b5.mono (by omega))⟩⟩
theorem fholds_c {ps : List (List Int)} (hn : ps.length ≤ 64) (B : Nat) (f : Fm) (t : Thing) (cs ds : List Value) (w : World) (hT : TaxR w B ps) (hF : FmR (ph w) cs f) (hD : ThingR (ph w) ds t)
    (hf0 : validF f = 0) (hfn : wholeN ps.length f = true) (ht0 : validV t = 0) (htn : t.clsLt ps.length) (hb : t.bulk ≤ 1000000) :
    Calls Tryz.prog 22 #[.pointer (some ⟨B, 0, none⟩), .agg cs.toArray, .agg ds.toArray] w (HoldsP w (hold ps f t)) :=
  (callsIn_wide (n := 7)).1 (fholds_in hn B f t cs ds w hT hF hD hf0 hfn ht0 htn hb)
end Go.Proofs.YtbpilielamjnoaaGreat
namespace Go.Proofs.YtbpilielamjnoaaGreat
open Go.RowKit
set_option linter.unusedSimpArgs false
set_option linter.unusedVariables false
section
variable {ps : List (List Int)} {t : Thing}
end
end Go.Proofs.YtbpilielamjnoaaGreat
namespace Go.Proofs.YtbpilielamjnoaaGreat
open Go.RowKit Go.Shelf
set_option linter.unusedSimpArgs false
set_option linter.unusedVariables false
end Go.Proofs.YtbpilielamjnoaaGreat
