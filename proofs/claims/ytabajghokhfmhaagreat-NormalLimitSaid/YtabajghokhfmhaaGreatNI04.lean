/- Lemmas for NI, part 5: package formula: the iterator over the nodes of a formula, and more. -/
import Derived.WideLaws
import Derived.Maps.OwnSet
import Derived.Deep.CutBlock
import Derived.Maps.RangeWalk
import Derived.Shelf.SlGeneric
import Derived.Shelf.SlSortCmp.WholeK
import Derived.Shelf.SlSortCmp.NoneTotal
import Derived.Ground.SlsfProg
import Derived.Test.YtabajghokhfmhaaGreatProg
import Derived.Test.YtabajghokhfmhaaGreatNI00
import Derived.Test.YtabajghokhfmhaaGreatNI01
import Derived.Test.YtabajghokhfmhaaGreatNI02
import Derived.Test.YtabajghokhfmhaaGreatNI03
set_option linter.unusedSimpArgs false
set_option linter.unusedVariables false
namespace Go.Proofs.YtabajghokhfmhaaGreat
open Go.RowKit Go.Shelf
attribute [local go_sem] Oper.semAt_some
theorem nodes_p (f : Fm) (cs : List Value) (w : World) (hr : FmR (ph w) cs f) : Calls Tryz.prog 57 #[.agg cs.toArray] w fun e w' => e = .returned (.func (.func 112) #[] #[.pointer (some ⟨w.heap.size, 0, none⟩)]) ∧ w' = w.alloc (.cells cs.toArray 30) := by
  obtain ⟨a3, c3, a4, c4, rfl, -⟩ := hr.form
  unfold fmC
  go_enter Tryz.func57, Tryz.ntmps57
  go_wp2_with fail
  go_ret
  exact ⟨rfl, rfl⟩
section
variable {H : PH} {n l N n₀ Bo B1 B2 : Nat} {J Jx : List (FmA H) → World → Prop} {tot : List Fm}
def DownM (Bo l B1 B2 : Nat) (W : World) : Prop := Held Bo W B1 #[.func (.yield l) #[] #[]] 121 ∧
  Held Bo W B2 #[.func (.func 113) #[] #[.pointer (some ⟨B1, 0, none⟩), .pointer (some ⟨B2, 0, none⟩)]] 121
theorem DownM.kx {W W' : World} (h : DownM Bo l B1 B2 W) (k : Kx n₀ Bo W W') : DownM Bo l B1 B2 W' := ⟨h.1.kx k, h.2.kx k⟩
structure StepM (H : PH) (n₀ Bo l B1 B2 : Nat) (W : World) : Prop where
  sz : n₀ ≤ W.heap.size
  good : Good Bo W
  le : PLe H (ph W)
  m : DownM Bo l B1 B2 W
theorem StepM.kx {W W' : World} (hlow : ∀ k o, H k = some o → k < n₀) (h : StepM H n₀ Bo l B1 B2 W) (k : Kx n₀ Bo W W') : StepM H n₀ Bo l B1 B2 W' := by
  refine ⟨Nat.le_trans h.sz k.2.1, h.good.kx k, fun i o hi => ?_, h.m.kx k⟩
  show W'.heap[i]? = some o
  rw [k.1.block i (hlow i o hi)]
  exact h.le i o hi
theorem StepM.ext {W W' : World} (hlow : ∀ k o, H k = some o → k < n₀) (h : StepM H n₀ Bo l B1 B2 W) (e : Ext W W') : StepM H n₀ Bo l B1 B2 W' := h.kx hlow (Kx.ext e h.good.1 h.sz)
theorem node1_c (cs : List Value) (x : Fm) (W : World) (pre : List (FmA H)) (hx : FmR H cs x) (hM : StepM H n₀ Bo l B1 B2 W) (hlow : ∀ k o, H k = some o → k < n₀) (hJ : J pre W) (hJa : ∀ pre W o, J pre W → J pre (W.alloc o))
    (ih : ∀ W, StepM H n₀ Bo l B1 B2 W → J pre W → Calls Tryz.prog 113 #[.agg cs.toArray, .pointer (some ⟨B1, 0, none⟩), .pointer (some ⟨B2, 0, none⟩)] W (ItP tot pre x.pre J Jx n₀ Bo W)) :
    Calls Tryz.prog 114 #[.agg cs.toArray, .pointer (some ⟨B2, 0, none⟩)] W fun e W' => (e = .returned (.bool false) ∧ ∃ ys, fmsOf ys = x.pre ∧ J (pre ++ ys) W' ∧ Kx n₀ Bo W W') ∨ (e = .returned (.bool true) ∧ ∃ p, fmsOf p <+: tot ∧ Jx p W') := by
  obtain ⟨a3, c3, a4, c4, rfl, -⟩ := hx.form
  unfold fmC at *
  have hM1 := hM.ext hlow (Ext.new W (.cells #[.int .i64 x.op, .int .i64 x.n, .slice a3 x.inn.length c3, .slice a4 x.kids.length c4] 30))
  have hJ1 := hJa _ _ (.cells #[.int .i64 x.op, .int .i64 x.n, .slice a3 x.inn.length c3, .slice a4 x.kids.length c4] 30) hJ
  have hk1 : Kx n₀ Bo W (W.alloc (.cells #[.int .i64 x.op, .int .i64 x.n, .slice a3 x.inn.length c3, .slice a4 x.kids.length c4] 30)) := Kx.ext (Ext.new _ _) hM.good.1 hM.sz
  obtain ⟨f1, -⟩ := hM1.m.2.1.facts
  have f2 := f1 0
  simp only [List.getElem?_toArray, List.getElem?_cons_zero] at f2
  have HI := Lib.hid ih; clear ih f1
  go_enter Tryz.func114, Tryz.ntmps114
  go_wp2_with fail
  refine (HI.out _ hM1 hJ1).mono ?_
  rintro e w1 (⟨rfl, ys, h1, h2, h3⟩ | ⟨rfl, p, h1, h2⟩)
  · go_wp2_with fail
    go_ret
    exact .inl ⟨rfl, ys, h1, h2, hk1.then h3⟩
  · go_wp2_with fail
    go_ret
    exact .inr ⟨rfl, p, h1, h2⟩
theorem node_c (hn : 2 ≤ n) (hlow : ∀ k o, H k = some o → k < n₀) (hJa : ∀ pre W o, J pre W → J pre (W.alloc o)) (hY : YieldOk n l N n₀ Bo J Jx) (htot : tot.length ≤ N) (f : Fm) : ∀ (cs : List Value) (pre : List (FmA H)) (W : World),
    FmR H cs f → StepM H n₀ Bo l B1 B2 W → J pre W → fmsOf pre ++ f.pre <+: tot →
    Calls Tryz.prog 113 #[.agg cs.toArray, .pointer (some ⟨B1, 0, none⟩), .pointer (some ⟨B2, 0, none⟩)] W (ItP tot pre f.pre J Jx n₀ Bo W) := by
  induction f using Fm.ind with
  | h f ih =>
    intro cs pre W hr hM hJ ht
    have hlen : pre.length < N := by
      have := ht.length_le
      rw [List.length_append, fmsOf_len, Fm.pre_len] at this
      have := f.size_pos
      omega
    have hr' := hr
    obtain ⟨a3, c3, a4, c4, rfl, -, -, -, hkl, -, hk⟩ := hr.form
    unfold fmC at *
    have hM1 := hM.ext hlow (Ext.new W (.cells #[.int .i64 f.op, .int .i64 f.n, .slice a3 f.inn.length c3, .slice a4 f.kids.length c4] 30))
    have hJ1 := hJa _ _ (.cells #[.int .i64 f.op, .int .i64 f.n, .slice a3 f.inn.length c3, .slice a4 f.kids.length c4] 30) hJ
    have hk1 : Kx n₀ Bo W (W.alloc (.cells #[.int .i64 f.op, .int .i64 f.n, .slice a3 f.inn.length c3, .slice a4 f.kids.length c4] 30)) := Kx.ext (Ext.new _ _) hM.good.1 hM.sz
    have hB3 := Held.new hM.good (Ext.new W (.cells #[.int .i64 f.op, .int .i64 f.n, .slice a3 f.inn.length c3, .slice a4 f.kids.length c4] 30)) (Nat.le_refl _) (Own.new W _ _)
    obtain ⟨f1, -⟩ := hM1.m.1.1.facts
    have f2 := f1 0
    simp only [List.getElem?_toArray, List.getElem?_cons_zero] at f2
    obtain ⟨fn, tmps, assign, body, hy, hYR⟩ := hY _ ⟨(_, f), hr'⟩ _ hJ1 hlen
    dsimp only at hy
    have HI := Lib.hid ih; clear ih f1
    have hn1 : 1 ≤ n := by omega
    refine (callsIn_wide (n := n)).1 ?_
    refine callsIn_of_wp Tryz.func113 rfl trivial ?_ rfl
    simp only [Tryz.ntmps113, List.size_toArray, List.length_cons, List.length_nil, Nat.reduceAdd, Nat.reduceSub, Array.replicate_succ, Array.replicate_zero, List.push_toArray, List.append_toArray, List.nil_append, List.cons_append]
    gi_wp2
    refine hYR.mono ?_
    rintro e W3 (⟨rfl, hJ3, hk3⟩ | ⟨rfl, hJx3⟩)
    · have hM3 := hM1.kx hlow hk3
      have hB4 := hB3.kx hk3
      obtain ⟨f3, -⟩ := hB4.1.facts
      have f4 := f3 3
      simp only [List.getElem?_toArray, List.getElem?_cons_zero, List.getElem?_cons_succ] at f4
      clear f3
      gi_wp2
      refine ⟨trivial, callsIn_wide.2 ((containsFunc_J 114 #[.pointer (some ⟨B2, 0, none⟩)] _ f.kids hk
        (fun k wr => ∃ ys, fmsOf ys = (f.kids.take k).flatMap Fm.pre ∧ J (pre ++ [⟨(_, f), hr'⟩] ++ ys) wr ∧ Kx n₀ Bo W wr ∧ StepM H n₀ Bo l B1 B2 wr) (fun wr => ∃ p, fmsOf p <+: tot ∧ Jx p wr) _
        (fun args w => enterFn Tryz.func114 rfl rfl args w) ?_ (fun k wr h => h.choose_spec.2.2.2.le) ⟨[], rfl, by rw [List.append_nil]; exact hJ3, hk1.then hk3, hM3⟩).mono ?_)⟩
      · rintro k hkk wr cs ⟨ys, g1, g2, g3, g4⟩ hE
        have e : (f.kids.take (k + 1)).flatMap Fm.pre = (f.kids.take k).flatMap Fm.pre ++ f.kids[k].pre := by
          rw [List.take_succ_eq_append_getElem hkk, List.flatMap_append]; simp
        have ht2 : fmsOf (pre ++ [⟨(_, f), hr'⟩] ++ ys) ++ f.kids[k].pre <+: tot := by
          refine List.IsPrefix.trans ?_ ht
          rw [fmsOf_app, fmsOf_app, g1, Fm.pre_eq f]
          have e2 : fmsOf [(⟨(_, f), hr'⟩ : FmA H)] = [f] := rfl
          rw [e2, List.append_assoc, List.append_assoc, ← e]
          refine List.prefix_append_right_inj _ |>.2 ?_
          refine List.cons_prefix_cons.2 ⟨rfl, ?_⟩
          have e3 : f.kids.flatMap Fm.pre = (f.kids.take (k + 1)).flatMap Fm.pre ++ (f.kids.drop (k + 1)).flatMap Fm.pre := by rw [← List.flatMap_append, List.take_append_drop]
          rw [e3]
          exact List.prefix_append _ _
        refine (node1_c cs f.kids[k] wr _ hE g4 hlow g2 hJa fun W' hM' hJ' => HI.out _ (List.getElem_mem hkk) cs _ W' hE hM' hJ' ht2).mono ?_
        rintro e' w' (⟨rfl, zs, q1, q2, q3⟩ | ⟨rfl, p, q1, q2⟩)
        · refine .inl ⟨rfl, ys ++ zs, by rw [fmsOf_app, g1, q1, e], by rw [← List.append_assoc]; exact q2, g3.then q3, g4.kx hlow q3⟩
        · exact .inr ⟨rfl, p, q1, q2⟩
      · rintro e w4 (⟨rfl, ys, g1, g2, g3, g4⟩ | ⟨rfl, p, g1, g2⟩)
        · gi_wp2
          go_ret
          refine .inl ⟨rfl, ⟨(_, f), hr'⟩ :: ys, ?_, ?_, g3⟩
          · rw [Fm.pre_eq]
            rw [List.take_length] at g1
            show f :: fmsOf ys = _
            rw [g1]
          · rw [List.append_assoc] at g2; exact g2
        · gi_wp2
          go_ret
          exact .inr ⟨rfl, p, g1, g2⟩
    · gi_wp2
      refine ⟨trivial, ?_⟩
      gi_wp2
      go_ret
      refine .inr ⟨rfl, _, ?_, hJx3⟩
      refine List.IsPrefix.trans ?_ ht
      rw [fmsOf_app, Fm.pre_eq]
      exact (List.prefix_append_right_inj _).2 (List.cons_prefix_cons.2 ⟨rfl, List.nil_prefix⟩)
end
end Go.Proofs.YtabajghokhfmhaaGreat
namespace Go.Proofs.YtabajghokhfmhaaGreat
open Go.RowKit
theorem run_store_fn {P : Program} {w : World} {a : Addr} {m : Mode} (f : Fn) (x y : Array Value) : (store a (.func f x y) m).run P w = stored P w a (.func f x y) m := run_store P w a _ m rfl
end Go.Proofs.YtabajghokhfmhaaGreat
namespace Go.Proofs.YtabajghokhfmhaaGreat
open Go.RowKit Go.Shelf
attribute [local go_sem] Oper.semAt_some run_store_fn
theorem Good.of {Bo : Nat} {W : World} {b : Value} {T : TypeId} (h : Own W Bo #[b] T) (hb : b.ownBlock = none) : Good Bo W := by
  refine ⟨h.lt, fun k hk => ?_⟩
  rcases hk with rfl | ⟨j, v, h1, h2⟩
  · exact h.lt
  · rw [h.facts.1 j] at h1
    match j, h1 with
    | 0, h1 => simp at h1; subst h1; rw [hb] at h2; cases h2
    | j + 1, h1 => simp at h1
theorem own_keptF {W W' : World} {row : Option Nat} {b : Nat} {c : Array Value} {T : TypeId} (h : Proofs.YtabajghokhfmhaaGreat.Own W b c T) (hg : W.grownBy W' row) (hrow : ∀ r, row = some r → ∃ o : Obj, W.heap[r]? = some o ∧ o.isCells = false) : Proofs.YtabajghokhfmhaaGreat.Own W' b c T :=
  h.grown hg fun e => by
    obtain ⟨o, h1, h2⟩ := hrow b e.symm
    unfold Proofs.YtabajghokhfmhaaGreat.Own at h
    rw [h] at h1
    cases h1
    cases h2
set_option maxRecDepth 100000 in
theorem nodes_seq {H : PH} {n n₀ Bo Bf : Nat} {w0 : World} {cs : List Value} {f : Fm} (hn : 3 ≤ n) (hg : Good Bo w0) (hle : PLe H (ph w0)) (hlow : ∀ k o, H k = some o → k < n₀) (hn₀ : n₀ ≤ w0.heap.size) (hB : Own w0 Bf cs.toArray 30) (hr : FmR H cs f) :
    SeqStopsK Fence.wide (n - 1) Tryz.prog 112 #[.pointer (some ⟨Bf, 0, none⟩)] (fun x : FmA H => #[.agg x.1.1.toArray]) (Kx n₀ Bo) (fun ys => fmsOf ys = f.pre) (fun p => fmsOf p <+: f.pre) f.pre.length w0 := by
  intro l J Jx W hW hJ _ hY h0
  obtain ⟨a3, c3, a4, c4, rfl, -⟩ := hr.form
  have hBW : Own W Bf _ _ := hB.keep hW
  have hgW : Good Bo W := hg.ext hW
  have hle1 : PLe H (ph W) := hle.trans (Ext.ple hW)
  have hsz : n₀ ≤ W.heap.size := Nat.le_trans hn₀ hW.size
  obtain ⟨f1, -⟩ := hBW.facts
  have q0 := f1 0
  have q1 := f1 1
  have q2 := f1 2
  have q3 := f1 3
  simp only [fmC, List.getElem?_toArray, List.getElem?_cons_zero, List.getElem?_cons_succ] at q0 q1 q2 q3
  have hlB := hBW.lt
  have hJa : ∀ pre W1 o, J pre W1 → J pre (W1.alloc o) := fun pre W1 o h => hJ pre W1 _ none h (World.grownBy_alloc W1 o none) (fun r e => by cases e)
  have e1 : Ext W ((W.alloc (.cells #[.func (.yield l) #[] #[]] 121)).alloc (.cells #[.func (.func 113) #[] #[.pointer (some ⟨W.heap.size, 0, none⟩), .pointer (some ⟨W.heap.size + 1, 0, none⟩)]] 121)) := (Ext.new W _).alloc' _
  have o1 : Own ((W.alloc (.cells #[.func (.yield l) #[] #[]] 121)).alloc (.cells #[.func (.func 113) #[] #[.pointer (some ⟨W.heap.size, 0, none⟩), .pointer (some ⟨W.heap.size + 1, 0, none⟩)]] 121)) W.heap.size #[.func (.yield l) #[] #[]] 121 := (Own.new W _ _).alloc _
  have o2 : Own ((W.alloc (.cells #[.func (.yield l) #[] #[]] 121)).alloc (.cells #[.func (.func 113) #[] #[.pointer (some ⟨W.heap.size, 0, none⟩), .pointer (some ⟨W.heap.size + 1, 0, none⟩)]] 121)) (W.heap.size + 1) #[.func (.func 113) #[] #[.pointer (some ⟨W.heap.size, 0, none⟩), .pointer (some ⟨W.heap.size + 1, 0, none⟩)]] 121 := Own.new' _ _ _ (by simp)
  have hJ2 := hJa _ _ (.cells #[.func (.func 113) #[] #[.pointer (some ⟨W.heap.size, 0, none⟩), .pointer (some ⟨W.heap.size + 1, 0, none⟩)]] 121) (hJa _ _ (.cells #[.func (.yield l) #[] #[]] 121) h0)
  have hM : StepM H n₀ Bo l W.heap.size (W.heap.size + 1) _ := ⟨Nat.le_trans hsz e1.size, hgW.ext e1, hle1.trans e1.ple, Held.new hgW e1 (Nat.le_refl _) o1, Held.new hgW e1 (by omega) o2⟩
  have hk := Kx.ext (n₀ := n₀) e1 hgW.1 hsz
  have HC := Lib.hid (node_c (B1 := W.heap.size) (B2 := W.heap.size + 1) (n := n - 1) (N := f.pre.length) (Jx := Jx) (by omega) hlow hJa hY (Nat.le_refl _) f _ [] _ hr hM hJ2 (List.prefix_refl _))
  clear hM hJ2 o1 o2 e1 f1 hB hBW hW hY hJ h0
  refine callsIn_of_wp Tryz.func112 rfl trivial ?_ rfl
  simp only [Tryz.ntmps112, List.size_toArray, List.length_cons, List.length_nil, Nat.reduceAdd, Nat.reduceSub, Array.replicate_succ, Array.replicate_zero, List.push_toArray, List.append_toArray, List.nil_append, List.cons_append]
  gi_wp2
  refine ⟨trivial, fun _ => by omega, callsIn_wide.2 (HC.out.mono ?_)⟩
  rintro e w4 (⟨rfl, ys, g1, g2, g3⟩ | ⟨rfl, p, g1, g2⟩)
  · gi_wp2
    go_end0
    exact ⟨⟨_, rfl⟩, .inl ⟨ys, g1, g2⟩⟩
  · gi_wp2
    go_end0
    exact ⟨⟨_, rfl⟩, .inr ⟨p, g1, g2⟩⟩
theorem Kx.setBo {n₀ Bo : Nat} {W : World} {v u : Value} {T : TypeId} (h : Own W Bo #[v] T) (hn : n₀ ≤ Bo) (hu : u.ownBlock = none) : Kx n₀ Bo W (W.setCell ⟨Bo, 0, none⟩ u) := by
  have h2 := h.set 0 u
  refine ⟨(Below.refl n₀ W).setCell (p := ⟨Bo, 0, none⟩) hn u, by simp, fun b c T' hb hx => hb.setOther (p := ⟨Bo, 0, none⟩) (fun e => hx (.inl e)) u, fun b hx => ?_⟩
  rcases hx with rfl | ⟨j, v', h3, h4⟩
  · exact .inl (.inl rfl)
  · rw [h2.facts.1 j] at h3
    match j, h3 with
    | 0, h3 => simp at h3; subst h3; rw [hu] at h4; cases h4
    | j + 1, h3 => simp at h3
theorem ph_low (w : World) : ∀ k o, ph w k = some o → k < w.heap.size := fun k o h => ph_lt h
set_option maxRecDepth 100000 in
set_option maxHeartbeats 1000000 in
theorem fsize_in (f : Fm) (cs : List Value) (w : World) (hr : FmR (ph w) cs f) (hs : f.size ≤ 1000000) : CallsIn Fence.wide 7 Tryz.prog 91 #[.agg cs.toArray] w (RetV w (.int .i64 f.size)) := by
  have hr' := hr
  obtain ⟨a3, c3, a4, c4, rfl, -⟩ := hr.form
  unfold fmC at hr' ⊢
  refine callsIn_of_wp_marks Tryz.func91 rfl trivial ?_ rfl
  simp only [Tryz.ntmps91, List.size_toArray, List.length_cons, List.length_nil, Nat.reduceAdd, Nat.reduceSub, Array.replicate_succ, Array.replicate_zero, List.push_toArray, List.append_toArray, List.nil_append, List.cons_append]
  refine wpIn_wide.2 ?_
  go_wp2_with fail
  refine (nodes_p f _ _ (mono_FmR _ _ _ _ (Ext.ple xE) hr')).mono ?_
  rintro e w' ⟨rfl, rfl⟩
  go_wp2_with fail
  refine (wpIn_wide (n := 7)).1 ?_
  have hx0 : Ext w (((w.alloc (.cells #[.int .i64 f.op, .int .i64 f.n, .slice a3 f.inn.length c3, .slice a4 f.kids.length c4] 30)).alloc (.cells #[.int .i64 0] 3)).alloc (.cells #[.int .i64 f.op, .int .i64 f.n, .slice a3 f.inn.length c3, .slice a4 f.kids.length c4] 30)) := xE
  have hsz : (((w.alloc (.cells #[.int .i64 f.op, .int .i64 f.n, .slice a3 f.inn.length c3, .slice a4 f.kids.length c4] 30)).alloc (.cells #[.int .i64 0] 3)).alloc (.cells #[.int .i64 f.op, .int .i64 f.n, .slice a3 f.inn.length c3, .slice a4 f.kids.length c4] 30)).heap.size = w.heap.size + 3 := by simp
  have hO1 : Own (((w.alloc (.cells #[.int .i64 f.op, .int .i64 f.n, .slice a3 f.inn.length c3, .slice a4 f.kids.length c4] 30)).alloc (.cells #[.int .i64 0] 3)).alloc (.cells #[.int .i64 f.op, .int .i64 f.n, .slice a3 f.inn.length c3, .slice a4 f.kids.length c4] 30)) (w.heap.size + 1) #[.int .i64 0] 3 := oE
  have hO2 : Own (((w.alloc (.cells #[.int .i64 f.op, .int .i64 f.n, .slice a3 f.inn.length c3, .slice a4 f.kids.length c4] 30)).alloc (.cells #[.int .i64 0] 3)).alloc (.cells #[.int .i64 f.op, .int .i64 f.n, .slice a3 f.inn.length c3, .slice a4 f.kids.length c4] 30)) (w.heap.size + 1 + 1) #[.int .i64 f.op, .int .i64 f.n, .slice a3 f.inn.length c3, .slice a4 f.kids.length c4] 30 := oE
  generalize ((w.alloc (.cells #[.int .i64 f.op, .int .i64 f.n, .slice a3 f.inn.length c3, .slice a4 f.kids.length c4] 30)).alloc (.cells #[.int .i64 0] 3)).alloc (.cells #[.int .i64 f.op, .int .i64 f.n, .slice a3 f.inn.length c3, .slice a4 f.kids.length c4] 30) = W0 at *
  have hps : f.pre.length = f.size := f.pre_len
  refine wpIn_rangeFunc_ownF rfl (by omega) (gf := 112) (lb := #[.pointer (some ⟨w.heap.size + 1 + 1, 0, none⟩)]) rfl trivial (enters_of Tryz.func112 (by kernel_rfl) rfl)
    (encs := fun x : FmA (ph w) => #[.agg x.1.1.toArray]) (Kp := Kx w.heap.size (w.heap.size + 1)) (S := fun ys => fmsOf ys = f.pre) (Sp := fun p => fmsOf p <+: f.pre) (N := f.pre.length)
    (w0 := W0) (nodes_seq (by omega) (Good.of hO1 rfl) hx0.ple (ph_low w) (by omega) hO2 hr') Kx.then (Kx.put (by omega) (by omega)) (Below.refl _ _) (fun _ => rfl)
    (fun pre W => Own W (w.heap.size + 1) #[.int .i64 pre.length] 3 ∧ Ext w W) (fun _ _ _ => False)
    ?hI (fun _ _ _ _ _ hs _ _ => hs) ⟨hO1, hx0⟩ ?a1 ?assign ?body ?done ?stop
  case hI =>
    rintro pre A B row ⟨h1, h2⟩ hg hr
    exact ⟨own_keptF h1 hg fun r e => (hr r e).2, h2.grown hg fun r e => Nat.le_trans (by omega) (hr r e).1⟩
  case assign =>
    intro l x W K hK
    gi_wp2
    exact hK
  case body =>
    rintro l pre x W ⟨h1, h2⟩ hlen
    obtain ⟨f1, f2⟩ := h1.facts
    have q0 := f1 0
    have q1 := f2 0
    simp only [List.getElem?_toArray, List.getElem?_cons_zero] at q0
    have hlt := h1.lt
    clear f1 f2
    have hp : pre.length ≤ 1000000 := by omega
    gi_wp2
    refine ⟨KeepsOthers.setCell _ _ _, Kx.setBo h1 (by omega) rfl, ⟨?_, h2.set' (p := ⟨w.heap.size + 1, 0, none⟩) (by simp) _⟩⟩
    have := h1.set 0 (.int .i64 ((pre.length : Int) + 1))
    simpa using this
  case done =>
    rintro D xs W hD hS ⟨h1, h2⟩ hK
    have hl : Hid (xs.length = f.size) := by show _ = _; rw [← hps, ← hS, fmsOf_len]
    obtain ⟨f1, -⟩ := h1.facts
    have q0 := f1 0
    simp only [List.getElem?_toArray, List.getElem?_cons_zero] at q0
    have hlt := h1.lt
    clear f1
    gi_wp2
    go_wp2_with fail
    refine ⟨by simp, .inl ⟨_, _, rfl, run_takeDeferred hK, ?_⟩⟩
    refine ⟨_, results_tmp rfl _ _ _, ?_, h2.trans ((belowK_b (w := W0) (Nat.le_refl _) _ D _ _ hD hK rfl rfl).mono (by omega))⟩
    exact ret_int (by rw [hl.out])
  case stop =>
    rintro D c pre W _ _ h _
    exact h.elim
theorem fsize_c (f : Fm) (cs : List Value) (w : World) (hr : FmR (ph w) cs f) (hs : f.size ≤ 1000000) : Calls Tryz.prog 91 #[.agg cs.toArray] w (RetV w (.int .i64 f.size)) := (callsIn_wide (n := 7)).1 (fsize_in f cs w hr hs)
end Go.Proofs.YtabajghokhfmhaaGreat
namespace Go.Proofs.YtabajghokhfmhaaGreat
open Go.RowKit Go.Shelf
attribute [local go_sem] Oper.semAt_some
theorem wholeB_all (f : Fm) : wholeB f = f.pre.all formed1 := rfl
def NodeA {H : PH} (tm : FmA H → Nat → Array Value) (x : FmA H) (a' : Act) (W : World) : Prop :=
  ∃ Bx, Bx < W.heap.size ∧ Own W Bx x.1.1.toArray 30 ∧ a' = { tmps := tm x Bx, defers := [] }
theorem NodeA.from {H : PH} (tm : FmA H → Nat → Array Value) (B : Nat) (x : FmA H) (a' : Act) : OwnFrom B (fun (_ : Unit) W => NodeA tm x a' W) := by
  rintro _ A C row ⟨Bx, h1, h2, h3⟩ hg hr
  exact ⟨Bx, Nat.lt_of_lt_of_le h1 hg.size, own_keptF h2 hg fun r e => (hr r e).2, h3⟩
theorem Ext.grownG' {w w' : World} (e : Ext w w') (r : Option Nat) : w.grownBy w' r := ⟨e.os, e.tape, e.output, e.size, fun k hk _ => e.block k hk⟩
set_option maxRecDepth 100000 in
set_option maxHeartbeats 2000000 in
theorem fvalid_in (f : Fm) (cs : List Value) (w : World) (hr : FmR (ph w) cs f) (hs : f.bulk ≤ 900000) : CallsIn Fence.wide 7 Tryz.prog 40 #[.agg cs.toArray] w (RetV w (.int .i64 (validF f))) := by
  have hr' := hr
  obtain ⟨a3, c3, a4, c4, rfl, -⟩ := hr.form
  unfold fmC at hr' ⊢
  have hs1 := f.size_le_bulk
  have hs2 := f.deep_le_size
  refine callsIn_of_wp_marks Tryz.func40 rfl trivial ?_ rfl
  simp only [Tryz.ntmps40, List.size_toArray, List.length_cons, List.length_nil, Nat.reduceAdd, Nat.reduceSub, Array.replicate_succ, Array.replicate_zero, List.push_toArray, List.append_toArray, List.nil_append, List.cons_append]
  refine wpIn_wide.2 ?_
  go_wp2_with fail
  refine RetV_at (fsize_c f _ _ (mono_FmR _ _ _ _ (Ext.ple xE) hr') (by omega)) ?_
  intro w1 hx1
  have ho : Own w1 w.heap.size #[.int .i64 f.op, .int .i64 f.n, .slice a3 f.inn.length c3, .slice a4 f.kids.length c4] 30 := oE
  have hoE : Own w1 (w.heap.size + 1) #[.int .i64 0] 36 := oE
  have hx : Ext w w1 := xE
  clear hx1
  obtain ⟨hoc, hof⟩ := ho.facts
  obtain ⟨hec, hef⟩ := hoE.facts
  have hlt := hoE.lt
  by_cases hS : 96 < f.size
  · have hv : Hid (validF f = 4) := by show _ = _; unfold validF; rw [if_pos (.inl hS)]
    have b1 : decide (96 < (f.size : Int)) = true := by simp; omega
    go_wp2_with fail
    have o3 := hoE.set 0 (.int .i64 4)
    have q : _ = some (Value.int .i64 4) := o3.facts.1 0
    exact ⟨.int .i64 4, by simp [results, Tryz.results40, go_sem, q], by rw [hv.out]; exact ⟨rfl, hx.set' (p := ⟨w.heap.size + 1, 0, none⟩) (by simp) _⟩⟩
  have b1 : decide (96 < (f.size : Int)) = false := by simp; omega
  go_wp2_with fail
  refine RetV_at (fdeep_c f _ _ (mono_FmR _ _ _ _ (Ext.ple xE) hr') (by omega)) ?_
  intro w2 hx2
  replace ho := ho.keep hx2
  replace hoE := hoE.keep hx2
  replace hx : Ext w w2 := xE
  clear hx2 hoc hof hec hef hlt
  obtain ⟨hoc, hof⟩ := ho.facts
  obtain ⟨hec, hef⟩ := hoE.facts
  have hlt := hoE.lt
  by_cases hD : 8 < f.deep
  · have hv : Hid (validF f = 4) := by show _ = _; unfold validF; rw [if_pos (.inr hD)]
    have b2 : decide (8 < (f.deep : Int)) = true := by simp; omega
    go_wp2_with fail
    have o3 := hoE.set 0 (.int .i64 4)
    have q : _ = some (Value.int .i64 4) := o3.facts.1 0
    exact ⟨.int .i64 4, by simp [results, Tryz.results40, go_sem, q], by rw [hv.out]; exact ⟨rfl, hx.set' (p := ⟨w.heap.size + 1, 0, none⟩) (by simp) _⟩⟩
  have b2 : decide (8 < (f.deep : Int)) = false := by simp; omega
  have hv : Hid (validF f = if wholeB f then 0 else 1) := by show _ = _; unfold validF; rw [if_neg (by omega)]
  go_wp2_with fail
  refine (nodes_p f _ _ (mono_FmR _ _ _ _ (Ext.ple xE) hr')).mono ?_
  rintro e w' ⟨rfl, rfl⟩
  go_wp2_with fail
  refine (wpIn_wide (n := 7)).1 ?_
  have hO1 : Own (w2.alloc (.cells #[.int .i64 f.op, .int .i64 f.n, .slice a3 f.inn.length c3, .slice a4 f.kids.length c4] 30)) (w.heap.size + 1) #[.int .i64 0] 36 := oE
  have hO2 : Own (w2.alloc (.cells #[.int .i64 f.op, .int .i64 f.n, .slice a3 f.inn.length c3, .slice a4 f.kids.length c4] 30)) w2.heap.size #[.int .i64 f.op, .int .i64 f.n, .slice a3 f.inn.length c3, .slice a4 f.kids.length c4] 30 := Own.new _ _ _
  have hx0 : Ext w (w2.alloc (.cells #[.int .i64 f.op, .int .i64 f.n, .slice a3 f.inn.length c3, .slice a4 f.kids.length c4] 30)) := xE
  have hsz : (w2.alloc (.cells #[.int .i64 f.op, .int .i64 f.n, .slice a3 f.inn.length c3, .slice a4 f.kids.length c4] 30)).heap.size = w2.heap.size + 1 := by simp
  clear ho hoE hoc hof hec hef
  generalize w2.alloc _ = W0 at *
  have hps : f.pre.length = f.size := f.pre_len
  refine wpIn_rangeFunc_ownH rfl (by omega) (gf := 112) (lb := #[.pointer (some ⟨w2.heap.size, 0, none⟩)]) rfl trivial (enters_of Tryz.func112 (by kernel_rfl) rfl)
    (encs := fun x : FmA (ph w) => #[.agg x.1.1.toArray]) (Kp := Kx w.heap.size (w.heap.size + 1)) (S := fun ys => fmsOf ys = f.pre) (Sp := fun p => fmsOf p <+: f.pre) (N := f.pre.length)
    (w0 := W0) (nodes_seq (by omega) (Good.of hO1 rfl) hx0.ple (ph_low w) (by omega) hO2 hr') Kx.then (Kx.put (by omega) (by omega)) (Below.refl _ _) (fun _ => rfl)
    (fun pre W => Own W (w.heap.size + 1) #[.int .i64 0] 36 ∧ Ext w W ∧ ∀ x ∈ pre, formed1 (FmA.f x) = true)
    (fun c pre W => c = .ret ∧ Own W (w.heap.size + 1) #[.int .i64 1] 36 ∧ Ext w W ∧ ∃ x ∈ pre, formed1 (FmA.f x) = false)
    ?hI ?hIx ⟨hO1, hx0, by simp⟩ (NodeA (fun x Bx => #[.agg #[.int .i64 f.op, .int .i64 f.n, .slice a3 f.inn.length c3, .slice a4 f.kids.length c4], .pointer (some ⟨w.heap.size, 0, none⟩), .pointer (some ⟨w.heap.size + 1, 0, none⟩), .pointer (some ⟨Bx, 0, none⟩), .agg #[.int .i64 f.op, .int .i64 f.n, .slice a3 f.inn.length c3, .slice a4 f.kids.length c4], .int .i64 f.size, .bool false, .bool false, .agg #[.int .i64 f.op, .int .i64 f.n, .slice a3 f.inn.length c3, .slice a4 f.kids.length c4], .int .i64 f.deep, .bool false, .bool false, .agg #[.int .i64 f.op, .int .i64 f.n, .slice a3 f.inn.length c3, .slice a4 f.kids.length c4], .func (.func 112) #[] #[.pointer (some ⟨w2.heap.size, 0, none⟩)], .agg x.1.1.toArray, undef, undef, undef])) (NodeA.from _ _) ?assign ?body ?done ?stop
  case hI =>
    rintro pre A B row ⟨h1, h2, h3⟩ hg hr
    exact ⟨own_keptF h1 hg fun r e => (hr r e).2, h2.grown hg fun r e => Nat.le_trans (by omega) (hr r e).1, h3⟩
  case hIx =>
    rintro c pre A B row ⟨h0, h1, h2, h3⟩ hg hr
    exact ⟨h0, own_keptF h1 hg fun r e => (hr r e).2, h2.grown hg fun r e => Nat.le_trans (by omega) (hr r e).1, h3⟩
  case assign =>
    rintro l pre ⟨⟨cs, g⟩, hg⟩ W K ⟨hI1, hI2, hI3⟩ hK
    replace hg : FmR (ph w) cs g := hg
    obtain ⟨b3, d3, b4, d4, rfl, -⟩ := hg.form
    unfold fmC at *
    have hk1 := Kx.ext (n₀ := w.heap.size) (Bo := w.heap.size + 1) (Ext.new W (.cells #[.int .i64 g.op, .int .i64 g.n, .slice b3 g.inn.length d3, .slice b4 g.kids.length d4] 30)) hI1.lt hI2.size
    have hI4 := hI1.alloc (.cells #[.int .i64 g.op, .int .i64 g.n, .slice b3 g.inn.length d3, .slice b4 g.kids.length d4] 30)
    have hI5 := hI2.alloc' (.cells #[.int .i64 g.op, .int .i64 g.n, .slice b3 g.inn.length d3, .slice b4 g.kids.length d4] 30)
    have h1 := (KeepsOthers.alloc W (.cells #[.int .i64 g.op, .int .i64 g.n, .slice b3 g.inn.length d3, .slice b4 g.kids.length d4] 30)).from W0.heap.size
    have h4 := Proofs.YtabajghokhfmhaaGreat.Own.new W #[.int .i64 g.op, .int .i64 g.n, .slice b3 g.inn.length d3, .slice b4 g.kids.length d4] 30
    have h5 : W.heap.size < (W.alloc (.cells #[.int .i64 g.op, .int .i64 g.n, .slice b3 g.inn.length d3, .slice b4 g.kids.length d4] 30)).heap.size := by simp
    gi_wp2
    generalize W.heap.size = Bx at *
    exact hK _ _ h1 hk1 ⟨hI4, hI5, hI3⟩ ⟨Bx, h5, h4, rfl⟩
  case body =>
    rintro l pre ⟨⟨cs, g⟩, hg⟩ a' W hl ⟨r, hrr⟩ ⟨hI1, hI2, hI3⟩ ⟨Bx, hBx, oX, rfl⟩ hlt
    replace hg : FmR (ph w) cs g := hg
    have hg' := hg
    obtain ⟨b3, d3, b4, d4, rfl, -⟩ := hg.form
    unfold fmC at *
    obtain ⟨cX, -⟩ := oX.facts
    have hgR := mono_FmR _ _ _ _ hI2.ple hg'
    have hsz2 := hI2.size
    clear hg hr hr' hO1 hO2
    gi_wp2
    refine ⟨trivial, CallsIn.inRound l (callsIn_wide.2 (RetV_at (formed_c g _ _ hgR) ?_))⟩
    intro W2 hx2
    have hk2 := Kx.ext (n₀ := w.heap.size) (Bo := w.heap.size + 1) hx2 hI1.lt hsz2
    have hko : KeepsOthers W W2 := KeepsOthers.of_grownBy (Ext.grownG' hx2 none) (fun j o e => by cases e)
    replace hI1 := hI1.keep hx2
    replace hI2 := hI2.then hx2
    obtain ⟨e1, e2⟩ := hI1.facts
    have e1' : _ = some (Value.int .i64 0) := e1 0
    have e2' := e2 0
    have hlt3 := hI1.lt
    cases hF : formed1 g with
    | true =>
      gi_wp2
      exact ⟨hko.from _, hk2, hI1, hI2, fun x hx => by
        rcases List.mem_append.1 hx with hx | hx
        · exact hI3 x hx
        · rw [List.mem_singleton.1 hx]; exact hF⟩
    | false =>
      gi_wp2
      refine ⟨(hko.trans (KeepsOthers.setCell _ _ _)).from _, rfl, ?_, hI2.set' (p := ⟨w.heap.size + 1, 0, none⟩) (by simp) _, _, List.mem_append_right _ (List.mem_singleton.2 rfl), hF⟩
      have := hI1.set 0 (.int .i64 1)
      simpa using this
  case stop =>
    rintro D c pre W hD hpre ⟨rfl, o5, hx5, x, hxm, hb⟩ hK
    have hv2 : Hid (validF f = 1) := by
      show _ = _
      have hn : wholeB f = false := by
        rw [wholeB_all, List.all_eq_false]
        exact ⟨_, hpre.subset (List.mem_map.2 ⟨x, hxm, rfl⟩), by rw [hb]; simp⟩
      rw [hv.out, hn]; rfl
    have b5 := belowK_b (w := W0) (Nat.le_refl _) W D _ (.deferred none) hD hK rfl rfl
    have r0 := (b5.cell (p := ⟨w.heap.size + 1, 0, none⟩) hO1.lt).trans (o5.facts.1 0)
    simp only [List.getElem?_toArray, List.getElem?_cons_zero] at r0
    clear hr hr' hO1 hO2
    gi_wp2
    go_wp2_with fail
    refine ⟨by simp, .inl ⟨_, _, rfl, run_takeDeferred hK, ?_⟩⟩
    exact ⟨.int .i64 1, by simp [results, Tryz.results40, go_sem, r0], by rw [hv2.out]; exact ⟨rfl, hx5.trans (b5.mono (by omega))⟩⟩
  case done =>
    rintro D zs W hD hz ⟨o5, hx5, hok⟩ hK
    have hv2 : Hid (validF f = 0) := by
      show _ = _
      have hn : wholeB f = true := by
        rw [wholeB_all, ← hz, List.all_eq_true]
        intro y hy
        obtain ⟨x, hx, rfl⟩ := List.mem_map.1 hy
        exact hok x hx
      rw [hv.out, hn]; rfl
    obtain ⟨e1, e2⟩ := o5.facts
    have e1' : _ = some (Value.int .i64 0) := e1 0
    have e2' := e2 0
    have hlt5 := o5.lt
    have o6 := o5.set 0 (.int .i64 0)
    have hK6 : (W.setCell ⟨w.heap.size + 1, 0, none⟩ (.int .i64 0)).heap[D]? = some (.deferred (some [])) := (KeepsOthers.setCell _ _ _).same D _ hK rfl
    have hx6 : Ext w (W.setCell ⟨w.heap.size + 1, 0, none⟩ (.int .i64 0)) := hx5.set' (p := ⟨w.heap.size + 1, 0, none⟩) (by simp) _
    have b5 := belowK_b (w := W0) (Nat.le_refl _) _ D _ (.deferred none) hD hK6 rfl rfl
    have r0 := (b5.cell (p := ⟨w.heap.size + 1, 0, none⟩) hO1.lt).trans (o6.facts.1 0)
    simp at r0
    clear hr hr' hO1 hO2 hz
    gi_wp2
    go_wp2_with fail
    refine ⟨by simp, .inl ⟨_, _, rfl, run_takeDeferred hK6, ?_⟩⟩
    exact ⟨.int .i64 0, by simp [results, Tryz.results40, go_sem, r0], by rw [hv2.out]; exact ⟨rfl, hx6.trans (b5.mono (by omega))⟩⟩
theorem fvalid_c (f : Fm) (cs : List Value) (w : World) (hr : FmR (ph w) cs f) (hs : f.bulk ≤ 900000) : Calls Tryz.prog 40 #[.agg cs.toArray] w (RetV w (.int .i64 (validF f))) := (callsIn_wide (n := 7)).1 (fvalid_in f cs w hr hs)
end Go.Proofs.YtabajghokhfmhaaGreat
namespace Go.Proofs.YtabajghokhfmhaaGreat
open Go.RowKit Go.Shelf
theorem one7_c (b : Bool) (w : World) : Calls Tryz.prog 193 #[.bool b] w (RetP w (.int .i64 (oneI b))) := by
  cases b with
  | true =>
    go_enter Tryz.func193, Tryz.ntmps193
    go_wp2_with fail
    go_ret
    exact ⟨rfl, rfl⟩
  | false =>
    go_enter Tryz.func193, Tryz.ntmps193
    go_wp2_with fail
    go_ret
    exact ⟨rfl, rfl⟩
theorem oneI_I64 (b : Bool) : I64 (oneI b) := by cases b <;> simp [oneI, I64]
def intC (l : List Int) : List Value := l.map (Value.int .i64)
theorem cells_ints {h : PH} : ∀ {l : List Int}, (∀ x ∈ l, I64 x) → Cells h IntR 1 (intC l) l
  | [], _ => rfl
  | x :: xs, hx => ⟨[.int .i64 x], intC xs, rfl, rfl, ⟨rfl, hx x (by simp)⟩, cells_ints fun y hy => hx y (by simp [hy])⟩
theorem ordI_I64 {x : Itv} (hx : x.I) : ∀ z ∈ ordI x, I64 z := by
  obtain ⟨⟨h1, h2⟩, h3, h4⟩ := hx
  intro z hz
  simp only [ordI, List.mem_cons, List.not_mem_nil, or_false] at hz
  rcases hz with rfl | rfl | rfl | rfl | rfl | rfl | rfl | rfl <;> first | exact oneI_I64 _ | assumption
theorem Src.ints {H : PH} {w : World} {g n : Nat} {l : List Int} (hl : ∀ x ∈ l, I64 x) (ho : Own w g (intC l).toArray 3) (hn : n = l.length) : Src w H IntR 1 (.slice (some ⟨g, 0, none⟩) n n) l := by
  subst hn
  refine ⟨_, _, rfl, Nat.le_refl _, .inr ⟨_, _, rfl, cells_ints hl, fun j u hu => ?_⟩⟩
  rw [add0, ho.facts.1 j]
  simpa using hu
def NewSl (W0 : World) (c : Array Value) (T : TypeId) (n : Nat) (v : Value) (w : World) : Prop := ∃ g, v = .slice (some ⟨g, 0, none⟩) n n ∧ Own w g c T ∧ W0.heap.size ≤ g
theorem stab_NewSl {W : World} (W0 : World) (c : Array Value) (T : TypeId) (n : Nat) : Stable W (NewSl W0 c T n) := fun v w w' _ ⟨g, h1, h2, h3⟩ e => ⟨g, h1, h2.keep e, h3⟩
set_option maxRecDepth 100000 in
set_option maxHeartbeats 2000000 in
theorem order_c (f : Fm) (cs : List Value) (w : World) (hr : FmR (ph w) cs f) (hlen : f.inn.length ≤ 100000) : Calls Tryz.prog 147 #[.agg cs.toArray] w fun e w' => ∃ v, e = .returned v ∧ Ext w w' ∧ OwnS w.heap.size noH w' IntR 1 3 v (ordF f) := by
  obtain ⟨a3, c3, a4, c4, rfl, i1, i2, hil, hkl, hi, hk⟩ := hr.form
  unfold fmC
  clear hr hk
  have hof := Lib.hid (show ordF f = ([f.op, f.n, (f.inn.length : Int)] ++ f.inn.flatMap ordI) ++ [(f.kids.length : Int)] from rfl)
  have i3 : I64 (f.inn.length : Int) := by unfold I64; omega
  have i4 : I64 (f.kids.length : Int) := by unfold I64; omega
  go_enter Tryz.func147, Tryz.ntmps147
  go_wp2_with fail
  have hM := (((Mem.start w noH (noH_le _)).new #[.int .i64 f.op, .int .i64 f.n, .slice a3 f.inn.length c3, .slice a4 f.kids.length c4] 30).new' #[.int .i64 f.op, .int .i64 f.n, .int .i64 f.inn.length] 3 (n := w.heap.size + 1) (by simp)).asOwn 1 rfl mono_IntR (sz := 1) (xs := [f.op, f.n, (f.inn.length : Int)]) (n := 3) (by simp) (by simp [maxLen]) rfl
    (cells_ints (l := [f.op, f.n, (f.inn.length : Int)]) (by simp; exact ⟨i1, i2, i3⟩))
  simp only [List.nil_append, List.cons_append, List.set_cons_succ, List.set_cons_zero, List.length_cons, List.length_nil, Nat.zero_add, Nat.reduceAdd] at hM
  go_loopw [3, 4] (fun v i wr => ∃ k : Nat, k ≤ f.inn.length ∧ i = .int .i64 k ∧ Mem w noH [box w.heap.size #[.int .i64 f.op, .int .i64 f.n, .slice a3 f.inn.length c3, .slice a4 f.kids.length c4] 30, own mono_IntR 1 3 v ([f.op, f.n, (f.inn.length : Int)] ++ (f.inn.take k).flatMap ordI)] noH wr) (fun _ i _ => f.inn.length - (intOf i).toNat)
  case atStart => exact ⟨0, Nat.zero_le _, rfl, hM⟩
  case round =>
    obtain ⟨k, hk, rfl, hM⟩ := hrel
    obtain ⟨kc, kf⟩ := (hM.box 0 rfl).facts
    have k2 : _ = some (Value.slice a3 f.inn.length c3) := kc 2
    have k3 : _ = some (Value.slice a4 f.kids.length c4) := kc 3
    have hbl0 := (hM.box 0 rfl).lt
    by_cases hlt : k < f.inn.length
    · obtain ⟨b, o, rfl, h0, h1, h2, h3, h4, h5, h6, h7, hbl, hI⟩ := ItvsR.at (hi.mono mono_ItvR hM.ex.ple) k hlt
      have hstep : Hid (([f.op, f.n, (f.inn.length : Int)] ++ (f.inn.take k).flatMap ordI) ++ ordI f.inn[k] = [f.op, f.n, (f.inn.length : Int)] ++ (f.inn.take (k + 1)).flatMap ordI) := by
        show _ = _; rw [List.take_succ_eq_append_getElem hlt, List.flatMap_append, List.append_assoc]; simp
      have hll : ([f.op, f.n, (f.inn.length : Int)] ++ (f.inn.take k).flatMap ordI).length ≤ 1000000 := by rw [List.length_append, ordIs_len, List.length_take]; simp; omega
      have hoI := ordI_I64 hI
      generalize [f.op, f.n, (f.inn.length : Int)] ++ (f.inn.take k).flatMap ordI = pre at *
      generalize f.inn[k] = x at *
      obtain ⟨ga, gn, rfl, -⟩ := hM.form 1 rfl
      clear hi kc
      obtain ⟨⟨p, q⟩, ⟨r, s⟩, lO, rO, lI, rI⟩ := x
      dsimp only at *
      go_wp2_with fail
      have hM2 := hM.new #[.int .i64 p, .int .i64 q, .int .i64 r, .int .i64 s, .bool lO, .bool rO, .bool lI, .bool rI] 91
      simp only [List.nil_append, List.cons_append] at hM2
      have hBl := (hM2.box 2 rfl).lt
      obtain ⟨bc, bf⟩ := (hM2.box 2 rfl).facts
      clear hM h0 h1 h2 h3 h4 h5 h6 h7 kf k2 k3
      generalize wr.alloc _ = W at *
      have m0 : _ = some (Value.int .i64 p) := bc 0
      have m1 : _ = some (Value.int .i64 q) := bc 1
      have m2 : _ = some (Value.int .i64 r) := bc 2
      have m3 : _ = some (Value.int .i64 s) := bc 3
      have m4 : _ = some (Value.bool lO) := bc 4
      have m5 : _ = some (Value.bool rO) := bc 5
      have m6 : _ = some (Value.bool lI) := bc 6
      have m7 : _ = some (Value.bool rI) := bc 7
      clear bc
      (refine wp_region_I 26 (by kernel_rfl) (by kernel_rfl) ?_; simp only [List.toList_toArray, List.take_succ_cons, List.take_zero, List.drop_succ_cons, List.drop_zero])
      iterate 3 (refine wiA rfl (by simp) rfl ?_; (try simp only [List.nil_append, List.cons_append]))
      (refine walkI_is (u := ?_) rfl (by simp) rfl ?_ ?_; rotate_left; (focus (intro A w' hS hA K hK; (simp only [List.map_cons, List.map_nil, knows, Is, Op.operands, Call.operands, List.lookup_cons, List.lookup_nil, Nat.reduceBEq, Bool.false_eq_true, if_false, if_true, Act.eval, Array.getD_eq_getD_getElem?, List.getElem?_toArray, List.getElem?_cons_succ, List.getElem?_cons_zero, Option.getD_some, and_true, true_and, List.append_toArray, List.nil_append, List.cons_append, List.toList_toArray, Array.toList_append, Option.toArray, List.append_nil] at hA); first | (go_simp; refine RetP_at (one7_c _ _) ?_; exact hK _ xE) | (obtain ⟨hSc, hSf, hSs⟩ := hS.cells; go_simp; exact hK _ xN))); (try simp only [List.nil_append, List.cons_append]))
      iterate 2 (refine wiA rfl (by simp) rfl ?_; (try simp only [List.nil_append, List.cons_append]))
      (refine walkI_is (u := ?_) rfl (by simp) rfl ?_ ?_; rotate_left; (focus (intro A w' hS hA K hK; (simp only [List.map_cons, List.map_nil, knows, Is, Op.operands, Call.operands, List.lookup_cons, List.lookup_nil, Nat.reduceBEq, Bool.false_eq_true, if_false, if_true, Act.eval, Array.getD_eq_getD_getElem?, List.getElem?_toArray, List.getElem?_cons_succ, List.getElem?_cons_zero, Option.getD_some, and_true, true_and, List.append_toArray, List.nil_append, List.cons_append, List.toList_toArray, Array.toList_append, Option.toArray, List.append_nil] at hA); first | (go_simp; refine RetP_at (one7_c _ _) ?_; exact hK _ xE) | (obtain ⟨hSc, hSf, hSs⟩ := hS.cells; go_simp; exact hK _ xN))); (try simp only [List.nil_append, List.cons_append]))
      iterate 8 (refine wiA rfl (by simp) rfl ?_; (try simp only [List.nil_append, List.cons_append]))
      (refine walkI_is (u := ?_) rfl (by simp) rfl ?_ ?_; rotate_left; (focus (intro A w' hS hA K hK; (simp only [List.map_cons, List.map_nil, knows, Is, Op.operands, Call.operands, List.lookup_cons, List.lookup_nil, Nat.reduceBEq, Bool.false_eq_true, if_false, if_true, Act.eval, Array.getD_eq_getD_getElem?, List.getElem?_toArray, List.getElem?_cons_succ, List.getElem?_cons_zero, Option.getD_some, and_true, true_and, List.append_toArray, List.nil_append, List.cons_append, List.toList_toArray, Array.toList_append, Option.toArray, List.append_nil] at hA); first | (go_simp; refine RetP_at (one7_c _ _) ?_; exact hK _ xE) | (obtain ⟨hSc, hSf, hSs⟩ := hS.cells; go_simp; exact hK _ xN))); (try simp only [List.nil_append, List.cons_append]))
      iterate 2 (refine wiA rfl (by simp) rfl ?_; (try simp only [List.nil_append, List.cons_append]))
      (refine walkI_is (u := ?_) rfl (by simp) rfl ?_ ?_; rotate_left; (focus (intro A w' hS hA K hK; (simp only [List.map_cons, List.map_nil, knows, Is, Op.operands, Call.operands, List.lookup_cons, List.lookup_nil, Nat.reduceBEq, Bool.false_eq_true, if_false, if_true, Act.eval, Array.getD_eq_getD_getElem?, List.getElem?_toArray, List.getElem?_cons_succ, List.getElem?_cons_zero, Option.getD_some, and_true, true_and, List.append_toArray, List.nil_append, List.cons_append, List.toList_toArray, Array.toList_append, Option.toArray, List.append_nil] at hA); first | (go_simp; refine RetP_at (one7_c _ _) ?_; exact hK _ xE) | (obtain ⟨hSc, hSf, hSs⟩ := hS.cells; go_simp; exact hK _ xN))); (try simp only [List.nil_append, List.cons_append]))
      iterate 6 (refine wiA rfl (by simp) rfl ?_; (try simp only [List.nil_append, List.cons_append]))
      (refine walkI_step (NewSl W (intC (ordI ⟨⟨p, q⟩, ⟨r, s⟩, lO, rO, lI, rI⟩)).toArray 3 8) rfl (by simp) rfl (stab_NewSl _ _ _ _) ?_ ?_; (focus (intro A w' hS hA K hK; (simp only [List.map_cons, List.map_nil, knows, Is, Op.operands, Call.operands, List.lookup_cons, List.lookup_nil, Nat.reduceBEq, Bool.false_eq_true, if_false, if_true, Act.eval, Array.getD_eq_getD_getElem?, List.getElem?_toArray, List.getElem?_cons_succ, List.getElem?_cons_zero, Option.getD_some, and_true, true_and, List.append_toArray, List.nil_append, List.cons_append, List.toList_toArray, Array.toList_append, Option.toArray, List.append_nil] at hA); (have hs' := hS.size; go_simp; exact hK _ _ (Ext.new _ _) ⟨_, rfl, Own.new _ _ _, by omega⟩))); (try simp only [List.nil_append, List.cons_append]))
      (refine walkI_nil ?_; simp only [List.nil_append, List.cons_append, fins, Is, forall_eq, Act.put, List.setIfInBounds_toArray, List.set_cons_zero, List.set_cons_succ])
      rintro w2 hx2 v9 ⟨g, rfl, ho, hg⟩
      have hM3 := hM2.ext hx2
      have hS8 := Src.ints (H := noH) (n := 8) hoI ho rfl
      clear m0 m1 m2 m3 m4 m5 m6 m7 bf
      go_wp2_with (at_builtin; refine wpList_append_M 1 rfl _ _ 22 rfl Tryz.underlying22 infoInt rfl rfl rfl (hM3) rfl (hS8) one_IntR ?c3 ?c4 ?c5)
      case c3 => simp [ordI]; omega
      case c4 => simp [ordI]; omega
      case c5 =>
        intro v' w3 hM4
        try simp only [List.set_cons_succ, List.set_cons_zero] at hM4
        rw [hstep.out] at hM4
        go_wp2_with fail
        go_roundw
        case rel =>
          have hM5 := hM4.pick [0, 1] (by simp)
          simp only [List.map_cons, List.map_nil, List.getElem?_cons_zero, List.getElem?_cons_succ, Option.getD_some] at hM5
          exact ⟨k + 1, by omega, by go_num, hM5⟩
        case measure => simp [intOf]; omega
    · rw [List.take_of_length_le (by omega)] at hM
      have hll : ([f.op, f.n, (f.inn.length : Int)] ++ f.inn.flatMap ordI).length ≤ 1000000 := by rw [List.length_append, ordIs_len]; simp; omega
      generalize [f.op, f.n, (f.inn.length : Int)] ++ f.inn.flatMap ordI = pre at *
      obtain ⟨ga, gn, rfl, -⟩ := hM.form 1 rfl
      clear hi kc
      have hM2 := hM.ext (Ext.new wr (.cells #[.int .i64 f.kids.length] 3))
      have hS1 := Src.ints (H := noH) (n := 1) (l := [(f.kids.length : Int)]) (by simpa using i4) (Own.new wr #[.int .i64 f.kids.length] 3) rfl
      go_wp2_with (at_builtin; refine wpList_append_M 1 rfl _ _ 22 rfl Tryz.underlying22 infoInt rfl rfl rfl (hM2) rfl (hS1) one_IntR ?c3 ?c4 ?c5)
      case c3 => simp; omega
      case c4 => simp; omega
      case c5 =>
        intro v' w3 hM4
        try simp only [List.set_cons_succ, List.set_cons_zero] at hM4
        rw [← hof.out] at hM4
        go_wp2_with fail
        go_ret
        exact ⟨_, rfl, hM4.ex, hM4.ownS 1 rfl⟩
theorem cmpZ_drop {x y : List Int} {k : Nat} (h1 : k < x.length) (h2 : k < y.length) : cmpZ (x.drop k) (y.drop k) = if x[k] < y[k] then -1 else if y[k] < x[k] then 1 else cmpZ (x.drop (k + 1)) (y.drop (k + 1)) := by
  rw [List.drop_eq_getElem_cons h1, List.drop_eq_getElem_cons h2, cmpZ]
theorem cmpZ_end {x y : List Int} {k : Nat} (h : x.length ≤ k ∨ y.length ≤ k) : cmpZ (x.drop k) (y.drop k) = 0 := by
  rcases h with h | h
  · rw [List.drop_eq_nil_of_le h]; rfl
  · rw [List.drop_eq_nil_of_le h]; cases x.drop k <;> rfl
theorem cmpFs_drop {x y : List Fm} {k : Nat} (h1 : k < x.length) (h2 : k < y.length) : cmpFs (x.drop k) (y.drop k) = if cmpF x[k] y[k] ≠ 0 then cmpF x[k] y[k] else cmpFs (x.drop (k + 1)) (y.drop (k + 1)) := by
  rw [List.drop_eq_getElem_cons h1, List.drop_eq_getElem_cons h2, cmpFs]
set_option maxRecDepth 100000 in
set_option maxHeartbeats 4000000 in
theorem rcmp_c (f : Fm) : ∀ (g : Fm) (cs ds : List Value) (w : World), FmR (ph w) cs f → FmR (ph w) ds g → f.bulk ≤ 100000 → g.bulk ≤ 100000 →
    Calls Tryz.prog 82 #[.agg cs.toArray, .agg ds.toArray] w (RetV w (.int .i64 (cmpF f g))) := by
  induction f using Fm.ind with
  | h f ih =>
    intro g cs ds w hr hq hb1 hb2
    have hr' := hr
    have hq' := hq
    obtain ⟨a3, c3, a4, c4, rfl, -, -, hil, hkl, hi, hk⟩ := hr.form
    obtain ⟨b3, d3, b4, d4, rfl, -, -, gil, gkl, gi, gk⟩ := hq.form
    unfold fmC at *
    clear hr hq hi gi
    have hbf := f.bulk_eq
    have hbg := g.bulk_eq
    have hkf := f.kids_le
    have hkg := g.kids_le
    have hE := Lib.hid (cmpF_eq f g)
    have HI := Lib.hid ih; clear ih
    go_enter Tryz.func82, Tryz.ntmps82
    go_wp2_with fail
    have hM0 := ((Mem.start w noH (noH_le _)).new #[.int .i64 f.op, .int .i64 f.n, .slice a3 f.inn.length c3, .slice a4 f.kids.length c4] 30).new' #[.int .i64 g.op, .int .i64 g.n, .slice b3 g.inn.length d3, .slice b4 g.kids.length d4] 30 (n := w.heap.size + 1) (by simp)
    simp only [List.nil_append, List.cons_append] at hM0
    refine (order_c f _ _ (mono_FmR _ _ _ _ (Ext.ple xE) hr') (by omega)).mono ?_
    rintro e w1 ⟨v1, rfl, hx1, ho1⟩
    obtain ⟨H1, -, -, hM1⟩ := hM0.take hx1 ho1 mono_IntR (noH_le _)
    simp only [List.nil_append, List.cons_append] at hM1
    obtain ⟨kc, kf⟩ := (hM1.box 0 rfl).facts
    obtain ⟨lc, lf⟩ := (hM1.box 1 rfl).facts
    have hl1 := (hM1.box 1 rfl).lt
    clear hM0 hx1 ho1
    go_wp2_with fail
    refine (order_c g _ _ (mono_FmR _ _ _ _ hM1.ex.ple hq') (by omega)).mono ?_
    rintro e w2 ⟨v2, rfl, hx2, ho2⟩
    obtain ⟨H2, -, -, hM2⟩ := hM1.take hx2 ho2 mono_IntR (noH_le _)
    simp only [List.nil_append, List.cons_append] at hM2
    clear hM1 hx2 ho2 kc kf lc lf hl1
    have hR1 := hM2.rep 2 rfl
    have hR2 := hM2.rep 3 rfl
    obtain ⟨xa, xc, rfl, xlen, hR1⟩ := hR1.form
    obtain ⟨ya, yc, rfl, ylen, hR2⟩ := hR2.form
    have hkids : cmpZ (ordF f) (ordF g) = 0 → f.kids.length = g.kids.length ∧ (ordF f).length = (ordF g).length := fun h => ⟨(ordF_0 (a := f) (b := g) h).2.2.2, by rw [ordF_len, ordF_len, (ordF_0 (a := f) (b := g) h).2.2.1]⟩
    have hB1 := hM2.box 0 rfl
    have hB2 := hM2.box 1 rfl
    have hX := hM2.ex
    clear hM2
    generalize hx : ordF f = X at *
    generalize hy : ordF g = Y at *
    replace hx := Lib.hid hx
    replace hy := Lib.hid hy
    replace hkids := Lib.hid hkids
    go_wp2_with fail
    go_loopw [7] (fun i wr => ∃ k : Nat, k ≤ X.length ∧ k ≤ Y.length ∧ i = .int .i64 k ∧ Hid (cmpZ X Y = cmpZ (X.drop k) (Y.drop k)) ∧ Ext w2 wr) (fun i _ => X.length - (intOf i).toNat)
    case atStart => exact ⟨0, Nat.zero_le _, Nat.zero_le _, rfl, Lib.hid rfl, xE⟩
    case round =>
      obtain ⟨k, hk1, hk2, rfl, hZ, hxr⟩ := hrel
      by_cases hlt1 : k < X.length
      · by_cases hlt2 : k < Y.length
        · obtain ⟨b, o, rfl, h0, i0, hbl⟩ := IntsR.at (hR1.mono mono_IntR hxr.ple) k hlt1
          obtain ⟨b', o', rfl, h0', i0', hbl'⟩ := IntsR.at (hR2.mono mono_IntR hxr.ple) k hlt2
          have hd := Lib.hid (cmpZ_drop hlt1 hlt2)
          generalize X[k] = x at *
          generalize Y[k] = y at *
          clear hR1 hR2 hk gk hB1 hB2
          by_cases h1 : x < y
          · have b1 : decide (x < y) = true := by simpa using h1
            have hn : Hid (cmpF f g = -1) := by show _ = _; rw [hE.out, hZ.out, hd.out, if_pos h1]; rfl
            clear hd
            go_wp2_with fail
            (refine wp_region_calm (S := fun w' => Ext _ w') (by kernel_rfl) (by kernel_rfl) (Ext.rfl' _).drew' ?_; (try simp only [List.toList_toArray]); (repeat (first | (refine walkF_skip ?_ ?_; (focus rfl); (try simp only [Act.put, List.setIfInBounds_toArray, List.set_cons_zero, List.set_cons_succ])) | (refine walkF_step (v := ?_) rfl ?_ ?_ ?_; rotate_left; (focus rfl); (focus (intro w' hS A hA K hK; (simp only [agrees, Op.operands, Call.operands, Act.eval, Array.getD_eq_getD_getElem?, List.getElem?_toArray, List.getElem?_cons_succ, List.getElem?_cons_zero, Option.getD_some, and_true, true_and, List.append_toArray, List.nil_append, List.cons_append, List.toList_toArray, Array.toList_append] at hA); (obtain ⟨hSc, hSf, hSs⟩ := hS.cells; go_simp; exact hK _ hS))); (try simp only [Act.put, List.setIfInBounds_toArray, List.set_cons_zero, List.set_cons_succ])))); refine walkF_nil ?_)
            intro w3 hw3
            go_wp2_with fail
            go_ret
            exact ⟨ret_int hn.out.symm, xE⟩
          have b1 : decide (x < y) = false := by simpa using h1
          by_cases h2 : y < x
          · have b2 : decide (y < x) = true := by simpa using h2
            have hn : Hid (cmpF f g = 1) := by show _ = _; rw [hE.out, hZ.out, hd.out, if_neg h1, if_pos h2]; rfl
            clear hd
            go_wp2_with fail
            (refine wp_region_calm (S := fun w' => Ext _ w') (by kernel_rfl) (by kernel_rfl) (Ext.rfl' _).drew' ?_; (try simp only [List.toList_toArray]); (repeat (first | (refine walkF_skip ?_ ?_; (focus rfl); (try simp only [Act.put, List.setIfInBounds_toArray, List.set_cons_zero, List.set_cons_succ])) | (refine walkF_step (v := ?_) rfl ?_ ?_ ?_; rotate_left; (focus rfl); (focus (intro w' hS A hA K hK; (simp only [agrees, Op.operands, Call.operands, Act.eval, Array.getD_eq_getD_getElem?, List.getElem?_toArray, List.getElem?_cons_succ, List.getElem?_cons_zero, Option.getD_some, and_true, true_and, List.append_toArray, List.nil_append, List.cons_append, List.toList_toArray, Array.toList_append] at hA); (obtain ⟨hSc, hSf, hSs⟩ := hS.cells; go_simp; exact hK _ hS))); (try simp only [Act.put, List.setIfInBounds_toArray, List.set_cons_zero, List.set_cons_succ])))); refine walkF_nil ?_)
            intro w3 hw3
            replace h0 := hw3.cell1 h0
            replace h0' := hw3.cell1 h0'
            replace hbl := cell_lt h0
            replace hbl' := cell_lt h0'
            go_wp2_with fail
            (refine wp_region_calm (S := fun w' => Ext _ w') (by kernel_rfl) (by kernel_rfl) (Ext.rfl' _).drew' ?_; (try simp only [List.toList_toArray]); (repeat (first | (refine walkF_skip ?_ ?_; (focus rfl); (try simp only [Act.put, List.setIfInBounds_toArray, List.set_cons_zero, List.set_cons_succ])) | (refine walkF_step (v := ?_) rfl ?_ ?_ ?_; rotate_left; (focus rfl); (focus (intro w' hS A hA K hK; (simp only [agrees, Op.operands, Call.operands, Act.eval, Array.getD_eq_getD_getElem?, List.getElem?_toArray, List.getElem?_cons_succ, List.getElem?_cons_zero, Option.getD_some, and_true, true_and, List.append_toArray, List.nil_append, List.cons_append, List.toList_toArray, Array.toList_append] at hA); (obtain ⟨hSc, hSf, hSs⟩ := hS.cells; go_simp; exact hK _ hS))); (try simp only [Act.put, List.setIfInBounds_toArray, List.set_cons_zero, List.set_cons_succ])))); refine walkF_nil ?_)
            intro w4 hw4
            go_wp2_with fail
            go_ret
            exact ⟨ret_int hn.out.symm, xE⟩
          · have b2 : decide (y < x) = false := by simpa using h2
            have hn : Hid (cmpZ X Y = cmpZ (X.drop (k + 1)) (Y.drop (k + 1))) := by show _ = _; rw [hZ.out, hd.out, if_neg h1, if_neg h2]
            clear hd
            go_wp2_with fail
            (refine wp_region_calm (S := fun w' => Ext _ w') (by kernel_rfl) (by kernel_rfl) (Ext.rfl' _).drew' ?_; (try simp only [List.toList_toArray]); (repeat (first | (refine walkF_skip ?_ ?_; (focus rfl); (try simp only [Act.put, List.setIfInBounds_toArray, List.set_cons_zero, List.set_cons_succ])) | (refine walkF_step (v := ?_) rfl ?_ ?_ ?_; rotate_left; (focus rfl); (focus (intro w' hS A hA K hK; (simp only [agrees, Op.operands, Call.operands, Act.eval, Array.getD_eq_getD_getElem?, List.getElem?_toArray, List.getElem?_cons_succ, List.getElem?_cons_zero, Option.getD_some, and_true, true_and, List.append_toArray, List.nil_append, List.cons_append, List.toList_toArray, Array.toList_append] at hA); (obtain ⟨hSc, hSf, hSs⟩ := hS.cells; go_simp; exact hK _ hS))); (try simp only [Act.put, List.setIfInBounds_toArray, List.set_cons_zero, List.set_cons_succ])))); refine walkF_nil ?_)
            intro w3 hw3
            replace h0 := hw3.cell1 h0
            replace h0' := hw3.cell1 h0'
            replace hbl := cell_lt h0
            replace hbl' := cell_lt h0'
            go_wp2_with fail
            (refine wp_region_calm (S := fun w' => Ext _ w') (by kernel_rfl) (by kernel_rfl) (Ext.rfl' _).drew' ?_; (try simp only [List.toList_toArray]); (repeat (first | (refine walkF_skip ?_ ?_; (focus rfl); (try simp only [Act.put, List.setIfInBounds_toArray, List.set_cons_zero, List.set_cons_succ])) | (refine walkF_step (v := ?_) rfl ?_ ?_ ?_; rotate_left; (focus rfl); (focus (intro w' hS A hA K hK; (simp only [agrees, Op.operands, Call.operands, Act.eval, Array.getD_eq_getD_getElem?, List.getElem?_toArray, List.getElem?_cons_succ, List.getElem?_cons_zero, Option.getD_some, and_true, true_and, List.append_toArray, List.nil_append, List.cons_append, List.toList_toArray, Array.toList_append] at hA); (obtain ⟨hSc, hSf, hSs⟩ := hS.cells; go_simp; exact hK _ hS))); (try simp only [Act.put, List.setIfInBounds_toArray, List.set_cons_zero, List.set_cons_succ])))); refine walkF_nil ?_)
            intro w4 hw4
            go_wp2_with fail
            go_roundw
            case rel => exact ⟨k + 1, by omega, by omega, by go_num, hn, xE⟩
            case measure => simp [intOf]; omega
        · have hZ0 : cmpZ X Y = 0 := by rw [hZ.out]; exact cmpZ_end (.inr (by omega))
          have := (hkids.out hZ0).2
          omega
      · have hZ0 : cmpZ X Y = 0 := by rw [hZ.out]; exact cmpZ_end (.inl (by omega))
        have hkk := (hkids.out hZ0).1
        have hE2 : Hid (cmpF f g = cmpFs f.kids g.kids) := by show _ = _; rw [hE.out, hZ0]; rfl
        replace hB1 := hB1.keep hxr
        replace hB2 := hB2.keep hxr
        replace hX := hX.then hxr
        clear hR1 hR2 hZ hE hZ0
        obtain ⟨kc, -⟩ := hB1.facts
        obtain ⟨lc, -⟩ := hB2.facts
        have hl2 := hB2.lt
        go_wp2_with fail
        go_loopw [8] (fun i wx => ∃ m : Nat, m ≤ f.kids.length ∧ i = .int .i64 m ∧ Hid (cmpF f g = cmpFs (f.kids.drop m) (g.kids.drop m)) ∧ Ext wr wx) (fun i _ => f.kids.length - (intOf i).toNat)
        case atStart => exact ⟨0, Nat.zero_le _, rfl, hE2, xE⟩
        case round =>
          obtain ⟨m, hm, rfl, hF, hxx⟩ := hrel
          replace hB1 := hB1.keep hxx
          replace hB2 := hB2.keep hxx
          replace hX := hX.then hxx
          clear kc lc hl2
          obtain ⟨kc, -⟩ := hB1.facts
          obtain ⟨lc, -⟩ := hB2.facts
          have hl2 := hB2.lt
          have hl1 := hB1.lt
          by_cases hlt : m < f.kids.length
          · have hlt2 : m < g.kids.length := by omega
            obtain ⟨b, o, p3, e3, p4, e4, rfl, h0, h1, h2, h3, hEa, hbl⟩ := FmsR.at (hk.mono mono_FmR hX.ple) m hlt
            obtain ⟨b', o', q3, f3, q4, f4, rfl, h0', h1', h2', h3', hEb, hbl'⟩ := FmsR.at (gk.mono mono_FmR hX.ple) m hlt2
            have k3 : _ = some (Value.slice (some ⟨b, o, none⟩) f.kids.length c4) := kc 3
            have l3 : _ = some (Value.slice (some ⟨b', o', none⟩) g.kids.length d4) := lc 3
            unfold fmC at hEa hEb
            have ha1 := Fm.kid_le (List.getElem_mem hlt)
            have ha2 := Fm.kid_le (List.getElem_mem hlt2)
            have hd := Lib.hid (cmpFs_drop hlt hlt2)
            have hc := Lib.hid (fun W (hW : Ext wr W) => HI.out _ (List.getElem_mem hlt) g.kids[m] _ _ W (mono_FmR _ _ _ _ (Ext.ple hW) hEa) (mono_FmR _ _ _ _ (Ext.ple hW) hEb) (by omega) (by omega))
            generalize cmpF f.kids[m] g.kids[m] = z at *
            generalize f.kids[m] = x at *
            generalize g.kids[m] = y at *
            clear hk gk hEa hEb kc lc HI
            have hlm : m < f.kids.length := hlt
            go_wp2_with fail
            (refine wp_region_I 12 (by kernel_rfl) (by kernel_rfl) ?_; simp only [List.toList_toArray, List.take_succ_cons, List.take_zero, List.drop_succ_cons, List.drop_zero])
            iterate 10 (refine wiA rfl (by simp) rfl ?_; (try simp only [List.nil_append, List.cons_append]))
            (refine walkI_is (u := ?_) rfl (by simp) rfl ?_ ?_; rotate_left; (focus (intro A w' hS hA K hK; (simp only [List.map_cons, List.map_nil, knows, Is, Op.operands, Call.operands, List.lookup_cons, List.lookup_nil, Nat.reduceBEq, Bool.false_eq_true, if_false, if_true, Act.eval, Array.getD_eq_getD_getElem?, List.getElem?_toArray, List.getElem?_cons_succ, List.getElem?_cons_zero, Option.getD_some, and_true, true_and, List.append_toArray, List.nil_append, List.cons_append, List.toList_toArray, Array.toList_append, Option.toArray, List.append_nil] at hA); first | (go_simp; refine RetV_at (hc.out _ xE) ?_; intro w5 hx5; exact hK _ hx5) | (obtain ⟨hSc, hSf, hSs⟩ := hS.cells; go_simp; exact hK _ xN))); (try simp only [List.nil_append, List.cons_append]))
            (refine wiA rfl (by simp) rfl ?_; (try simp only [List.nil_append, List.cons_append]))
            (refine walkI_nil ?_; simp only [List.nil_append, List.cons_append, fins, Is, forall_eq, Act.put, List.setIfInBounds_toArray, List.set_cons_zero, List.set_cons_succ])
            intro w6 hx6
            by_cases hz : z = 0
            · have b3 : (z == 0) = true := by simpa using hz
              have b4 : (z != 0) = false := by simpa using hz
              have hn : Hid (cmpF f g = cmpFs (f.kids.drop (m + 1)) (g.kids.drop (m + 1))) := by show _ = _; rw [hF.out, hd.out, if_neg (by simpa using hz)]
              clear hd hz
              go_wp2_with fail
              go_roundw
              case rel => exact ⟨m + 1, by omega, by go_num, hn, xE⟩
              case measure => simp [intOf]; omega
            · have b3 : (z == 0) = false := by simpa using hz
              have b4 : (z != 0) = true := by simpa using hz
              have hn : Hid (cmpF f g = z) := by show _ = _; rw [hF.out, hd.out, if_pos hz]
              clear hd
              go_wp2_with fail
              go_ret
              exact ⟨ret_int hn.out.symm, xE⟩
          · have hn : Hid (cmpF f g = 0) := by
              show _ = _
              rw [hF.out, List.drop_eq_nil_of_le (by omega)]
              rfl
            have k3 : _ = some (Value.slice a4 f.kids.length c4) := kc 3
            clear hk gk kc lc
            go_wp2_with fail
            go_ret
            exact ⟨ret_int hn.out.symm, xE⟩
theorem rsame_c (f g : Fm) (cs ds : List Value) (w : World) (hr : FmR (ph w) cs f) (hq : FmR (ph w) ds g) (hb1 : f.bulk ≤ 100000) (hb2 : g.bulk ≤ 100000) :
    Calls Tryz.prog 33 #[.agg cs.toArray, .agg ds.toArray] w (RetV w (.bool (B (f = g)))) := by
  have hr' := hr
  have hq' := hq
  obtain ⟨a3, c3, a4, c4, rfl, -⟩ := hr.form
  obtain ⟨b3, d3, b4, d4, rfl, -⟩ := hq.form
  unfold fmC at *
  have h0 := Lib.hid (cmpF_0 f g)
  go_enter Tryz.func33, Tryz.ntmps33
  go_wp2_with fail
  refine RetV_at (rcmp_c f g _ _ _ (mono_FmR _ _ _ _ (Ext.ple xE) hr') (mono_FmR _ _ _ _ (Ext.ple xE) hq') hb1 hb2) ?_
  intro w1 hx1
  generalize cmpF f g = z at *
  go_wp2_with fail
  go_ret
  refine ⟨ret_B ?_, xE⟩
  rw [← h0.out]; simp
end Go.Proofs.YtabajghokhfmhaaGreat
namespace Go.Proofs.YtabajghokhfmhaaGreat
open Go.RowKit Go.Maps
def heldR (v : Value) : Option (DataW Value × List MemPlace) := some (.held v, [])
theorem keyInt : Keyed Tryz.prog 3 := int_keyed Tryz.underlying3
theorem isKey_int (n : Int) : WideAt.IsKeyLit (.int .i64 n) := trivial
section
variable {w0 w : World} {H0 H : PH} {L : List Chunk}
variable {ops : Array Oper} {rest : List Oper} {o : Oper} {a : Act} {Q : Exit → Act → World → Prop}
end
end Go.Proofs.YtabajghokhfmhaaGreat
namespace Go.Proofs.YtabajghokhfmhaaGreat
open Go.RowKit
theorem setE_len {l : List Itv} (h : setE l = 0) : l.length ≤ 32 := by
  have hE : setE l = if setF none l = false then 1 else if 32 < l.length then 4 else 0 := rfl
  rw [hE] at h
  split at h
  · cases h
  · split at h
    · cases h
    · omega
theorem formed_inn {f : Fm} (h : formed1 f = true) : f.inn.length ≤ 32 := by
  obtain ⟨op, n, inn, kids⟩ := f
  rw [formed1_mk] at h
  simp only [Fm.inn]
  split at h
  · cases h
  · rename_i h1
    by_cases h2 : op = 2
    · subst h2
      simp at h
      exact setE_len h.2
    · have : inn = [] := by
        cases inn with
        | nil => rfl
        | cons x xs => exact absurd (.inl ⟨h2, by simp⟩) h1
      rw [this]; simp
theorem whole_bulk (f : Fm) (h : wholeB f = true) : f.bulk ≤ 33 * f.size := by
  induction f using Fm.ind with
  | h f ih =>
    rw [wholeB_eq, Bool.and_eq_true, List.all_eq_true] at h
    have h1 := formed_inn h.1
    have h2 : sumN Fm.bulk f.kids ≤ 33 * sumN Fm.size f.kids := by
      have : ∀ l : List Fm, (∀ x ∈ l, x.bulk ≤ 33 * x.size) → sumN Fm.bulk l ≤ 33 * sumN Fm.size l := by
        intro l
        induction l with
        | nil => intro _; simp [sumN]
        | cons x xs ih2 =>
          intro hx
          have h3 := hx x (by simp)
          have h4 := ih2 fun y hy => hx y (by simp [hy])
          simp only [sumN]; omega
      exact this _ fun x hx => ih x hx (h.2 x hx)
    rw [Fm.bulk_eq, Fm.size_eq]; omega
theorem valid_bulk {f : Fm} (h : validF f = 0) : f.bulk ≤ 3168 := by
  obtain ⟨h1, h2, h3⟩ := validF_0 h
  have := whole_bulk f h3
  omega
theorem infoFm : (Tryz.prog.info? 30).map (fun i => (i.zero, i.size, i.bytes)) = some (some (.agg #[.int .i64 0, .int .i64 0, .slice none 0 0, .slice none 0 0]), 4, 64) := by kernel_rfl
theorem one_FmR {h : PH} : ∀ cs x, FmR h cs x → ∀ u ∈ cs, u.oneCell' = true := by
  intro cs x hr u hu
  obtain ⟨a3, c3, a4, c4, rfl, -⟩ := hr.form
  simp only [fmC, List.mem_cons, List.not_mem_nil, or_false] at hu
  rcases hu with rfl | rfl | rfl | rfl <;> rfl
abbrev fmV (f : Fm) (a3 : Option Addr) (c3 : Nat) (a4 : Option Addr) (c4 : Nat) : Value := .agg #[.int .i64 f.op, .int .i64 f.n, .slice a3 f.inn.length c3, .slice a4 f.kids.length c4]
abbrev zeroFv : Value := .agg #[.int .i64 0, .int .i64 0, .slice none 0 0, .slice none 0 0]
theorem noF_R (H : PH) : FmR H (fmC noF none 0 none 0) noF := FmR.of (by simp [noF, Fm.op, I64]) (by simp [noF, Fm.n, I64]) (SliceRep.nil _ _ _) (SliceRep.nil _ _ _)
end Go.Proofs.YtabajghokhfmhaaGreat
namespace Go.Proofs.YtabajghokhfmhaaGreat
open Go.RowKit
end Go.Proofs.YtabajghokhfmhaaGreat
namespace Go.Proofs.YtabajghokhfmhaaGreat
open Go.RowKit
theorem Mem.set4 {w0 w : World} {H0 H : PH} {L : List Chunk} (h : Mem w0 H0 L H w) (i : Nat) {b : Nat} {a0 a1 a2 a3 : Value} {T : TypeId} (hi : L[i]? = some (Proofs.YtabajghokhfmhaaGreat.box b #[a0, a1, a2, a3] T)) (p q r s : Value) :
    Mem w0 H0 (L.set i (Proofs.YtabajghokhfmhaaGreat.box b #[p, q, r, s] T)) H ((((w.setCell ⟨b, 0, none⟩ p).setCell ⟨b, 1, none⟩ q).setCell ⟨b, 2, none⟩ r).setCell ⟨b, 3, none⟩ s) := by
  have hil : i < L.length := (List.getElem?_eq_some_iff.1 hi).1
  have h1 := h.set i hi 0 p
  have h2 := h1.set i (List.getElem?_set_self hil) 1 q
  rw [List.set_set] at h2
  have h3 := h2.set i (List.getElem?_set_self hil) 2 r
  rw [List.set_set] at h3
  have h4 := h3.set i (List.getElem?_set_self hil) 3 s
  rw [List.set_set] at h4
  simpa using h4
end Go.Proofs.YtabajghokhfmhaaGreat
namespace Go.Proofs.YtabajghokhfmhaaGreat
open Go.RowKit Go.Shelf
structure Nm where
  attr : Int
  inn : List Itv
  abs : Bool
structure Al where
  yes : List Int
  no : List Int
  nums : List Nm
  has : List Fm
  non : List Fm
def NumR (h : PH) (cs : List Value) (n : Nm) : Prop := ∃ a c, cs = [.int .i64 n.attr, .slice a n.inn.length c, .bool n.abs] ∧ I64 n.attr ∧ ItvsR h (.slice a n.inn.length c) n.inn
abbrev NumsR : PH → Value → List Nm → Prop := SliceRep NumR 3
theorem mono_NumR : Mono NumR := by
  rintro h h' cs n hl ⟨a, c, e, h1, h2⟩
  exact ⟨a, c, e, h1, h2.mono mono_ItvR hl⟩
def AltR (h : PH) (cs : List Value) (x : Al) : Prop := ∃ a1 c1 a2 c2 a3 c3 a4 c4 a5 c5, cs = [.slice a1 x.yes.length c1, .slice a2 x.no.length c2, .slice a3 x.nums.length c3, .slice a4 x.has.length c4, .slice a5 x.non.length c5] ∧
  IntsR h (.slice a1 x.yes.length c1) x.yes ∧ IntsR h (.slice a2 x.no.length c2) x.no ∧ NumsR h (.slice a3 x.nums.length c3) x.nums ∧ FmsR h (.slice a4 x.has.length c4) x.has ∧ FmsR h (.slice a5 x.non.length c5) x.non
abbrev AltsR : PH → Value → List Al → Prop := SliceRep AltR 5
theorem mono_AltR : Mono AltR := by
  rintro h h' cs x hl ⟨a1, c1, a2, c2, a3, c3, a4, c4, a5, c5, e, h1, h2, h3, h4, h5⟩
  exact ⟨a1, c1, a2, c2, a3, c3, a4, c4, a5, c5, e, h1.mono mono_IntR hl, h2.mono mono_IntR hl, h3.mono mono_NumR hl, h4.mono mono_FmR hl, h5.mono mono_FmR hl⟩
theorem one_NumR {h : PH} : ∀ cs x, NumR h cs x → ∀ u ∈ cs, u.oneCell' = true := by
  rintro cs x ⟨a, c, rfl, -⟩ u hu
  simp only [List.mem_cons, List.not_mem_nil, or_false] at hu
  rcases hu with rfl | rfl | rfl <;> rfl
theorem one_AltR {h : PH} : ∀ cs x, AltR h cs x → ∀ u ∈ cs, u.oneCell' = true := by
  rintro cs x ⟨a1, c1, a2, c2, a3, c3, a4, c4, a5, c5, rfl, -⟩ u hu
  simp only [List.mem_cons, List.not_mem_nil, or_false] at hu
  rcases hu with rfl | rfl | rfl | rfl | rfl <;> rfl
theorem NumR.len {h : PH} {cs : List Value} {n : Nm} (hr : NumR h cs n) : cs.length = 3 := by obtain ⟨a, c, rfl, -⟩ := hr; rfl
theorem AltR.len {h : PH} {cs : List Value} {x : Al} (hr : AltR h cs x) : cs.length = 5 := by obtain ⟨a1, c1, a2, c2, a3, c3, a4, c4, a5, c5, rfl, -⟩ := hr; rfl
theorem NumsR.atH {H : PH} {w : World} {a : Option Addr} {n cap : Nat} {xs : List Nm} (hr : NumsR H (.slice a n cap) xs) (hl : PLe H (ph w)) (k : Nat) (hk : k < xs.length) :
    ∃ b o a1 c1, a = some ⟨b, o, none⟩ ∧ w.cell? ⟨b, o + k * 3, none⟩ = some (.int .i64 xs[k].attr) ∧ w.cell? ⟨b, o + k * 3 + 1, none⟩ = some (.slice a1 xs[k].inn.length c1) ∧
      w.cell? ⟨b, o + k * 3 + 2, none⟩ = some (.bool xs[k].abs) ∧ I64 xs[k].attr ∧ ItvsR H (.slice a1 xs[k].inn.length c1) xs[k].inn ∧ b < w.heap.size := by
  obtain ⟨b, o, cs, hx, hcl, hce, a1, c1, rfl, h4, h5⟩ := hr.get k hk
  have h0 : w.cell? ⟨b, o + k * 3, none⟩ = some (.int .i64 xs[k].attr) := by rw [cell_ph]; exact cellAt_mono hl (by simpa using hce 0 (by omega))
  have h1 : w.cell? ⟨b, o + k * 3 + 1, none⟩ = some (.slice a1 xs[k].inn.length c1) := by rw [cell_ph]; exact cellAt_mono hl (by simpa using hce 1 (by omega))
  have h2 : w.cell? ⟨b, o + k * 3 + 2, none⟩ = some (.bool xs[k].abs) := by rw [cell_ph]; exact cellAt_mono hl (by simpa using hce 2 (by omega))
  exact ⟨b, o, a1, c1, hx, h0, h1, h2, h4, h5, cell_lt h0⟩
theorem AltsR.atH {H : PH} {w : World} {a : Option Addr} {n cap : Nat} {xs : List Al} (hr : AltsR H (.slice a n cap) xs) (hl : PLe H (ph w)) (k : Nat) (hk : k < xs.length) :
    ∃ b o a1 c1 a2 c2 a3 c3 a4 c4 a5 c5, a = some ⟨b, o, none⟩ ∧ w.cell? ⟨b, o + k * 5, none⟩ = some (.slice a1 xs[k].yes.length c1) ∧ w.cell? ⟨b, o + k * 5 + 1, none⟩ = some (.slice a2 xs[k].no.length c2) ∧
      w.cell? ⟨b, o + k * 5 + 2, none⟩ = some (.slice a3 xs[k].nums.length c3) ∧ w.cell? ⟨b, o + k * 5 + 3, none⟩ = some (.slice a4 xs[k].has.length c4) ∧ w.cell? ⟨b, o + k * 5 + 4, none⟩ = some (.slice a5 xs[k].non.length c5) ∧
      AltR H [.slice a1 xs[k].yes.length c1, .slice a2 xs[k].no.length c2, .slice a3 xs[k].nums.length c3, .slice a4 xs[k].has.length c4, .slice a5 xs[k].non.length c5] xs[k] ∧ b < w.heap.size := by
  obtain ⟨b, o, cs, hx, hcl, hce, hE⟩ := hr.get k hk
  obtain ⟨a1, c1, a2, c2, a3, c3, a4, c4, a5, c5, rfl, -⟩ := id hE
  have hc : ∀ j, j < 5 → w.cell? ⟨b, o + k * 5 + j, none⟩ = some ([Value.slice a1 xs[k].yes.length c1, .slice a2 xs[k].no.length c2, .slice a3 xs[k].nums.length c3, .slice a4 xs[k].has.length c4, .slice a5 xs[k].non.length c5].getD j undef) := fun j hj => by
    rw [cell_ph]; exact cellAt_mono hl (by simpa [Nat.add_assoc] using hce j hj)
  have h0 := hc 0 (by omega)
  exact ⟨b, o, a1, c1, a2, c2, a3, c3, a4, c4, a5, c5, hx, h0, hc 1 (by omega), hc 2 (by omega), hc 3 (by omega), hc 4 (by omega), hE, cell_lt h0⟩
end Go.Proofs.YtabajghokhfmhaaGreat
namespace Go.Proofs.YtabajghokhfmhaaGreat
open Go.RowKit Go.Maps
def MapD (H : PH) (D : DataW Value) (m : Int → Option Nm) : Prop := IsMap D ∧ (∀ kl, Maps.has D kl = true → ∃ k, kl = .int .i64 k ∧ I64 k) ∧
  ∀ k : Int, Maps.has D (.int .i64 k) = (m k).isSome ∧ ∀ x, m k = some x → x.attr = k ∧ ∃ cs : List Value, NumR H cs x ∧ ∀ z, D.atKey (.int .i64 k) z = .held (.agg cs.toArray)
theorem MapD.nil (H : PH) : MapD H (.map []) fun _ => none := ⟨⟨_, rfl⟩, fun kl h => by simp [Maps.has] at h, fun k => ⟨by simp [Maps.has], fun x h => by cases h⟩⟩
theorem MapD.mono {H H' : PH} {D : DataW Value} {m : Int → Option Nm} (h : MapD H D m) (hl : PLe H H') : MapD H' D m :=
  ⟨h.1, h.2.1, fun k => ⟨(h.2.2 k).1, fun x hx => by
    obtain ⟨h1, cs, h2, h3⟩ := (h.2.2 k).2 x hx
    exact ⟨h1, cs, mono_NumR _ _ _ _ hl h2, h3⟩⟩⟩
theorem MapD.put {H : PH} {D : DataW Value} {m : Int → Option Nm} (h : MapD H D m) {x : Nm} {cs : List Value} (hx : NumR H cs x) : MapD H (D.put (.int .i64 x.attr) (.held (.agg cs.toArray))) fun k => if k = x.attr then some x else m k := by
  have hI : I64 x.attr := by obtain ⟨a, c, -, h1, -⟩ := hx; exact h1
  refine ⟨h.1.put _ _, fun kl hkl => ?_, fun k => ?_⟩
  · by_cases he : kl = .int .i64 x.attr
    · exact ⟨_, he, hI⟩
    · rw [has_put_other he] at hkl; exact h.2.1 kl hkl
  · by_cases hk : k = x.attr
    · subst hk
      dsimp only
      rw [has_put_same h.1 (isKey_int _), if_pos rfl]
      refine ⟨rfl, fun y hy => ?_⟩
      cases hy
      exact ⟨rfl, cs, hx, fun z => atKey_put_same h.1 (isKey_int _) _ _⟩
    · have hne : Lit.int .i64 k ≠ Lit.int .i64 x.attr := by intro e; cases e; exact hk rfl
      dsimp only
      rw [has_put_other hne, if_neg hk]
      refine ⟨(h.2.2 k).1, fun y hy => ?_⟩
      obtain ⟨h1, ds, h2, h3⟩ := (h.2.2 k).2 y hy
      exact ⟨h1, ds, h2, fun z => by rw [atKey_put_other hne]; exact h3 z⟩
theorem MapD.del {H : PH} {D : DataW Value} {m : Int → Option Nm} (h : MapD H D m) (n : Int) : MapD H (D.del (.int .i64 n)) fun k => if k = n then none else m k := by
  refine ⟨h.1.del _, fun kl hkl => ?_, fun k => ?_⟩
  · by_cases he : kl = .int .i64 n
    · subst he; rw [has_del_same] at hkl; cases hkl
    · rw [has_del_other he] at hkl; exact h.2.1 kl hkl
  · by_cases hk : k = n
    · subst hk
      dsimp only
      rw [has_del_same, if_pos rfl]
      exact ⟨rfl, fun y hy => (by cases hy)⟩
    · have hne : Lit.int .i64 k ≠ Lit.int .i64 n := by intro e; cases e; exact hk rfl
      dsimp only
      rw [has_del_other hne, if_neg hk]
      refine ⟨(h.2.2 k).1, fun y hy => ?_⟩
      obtain ⟨h1, ds, h2, h3⟩ := (h.2.2 k).2 y hy
      exact ⟨h1, ds, h2, fun z => by rw [atKey_del_other hne]; exact h3 z⟩
def mapN (b c : Nat) (m : Int → Option Nm) : Chunk where
  foot := some b
  ok := fun H w => ∃ n D, n ≤ c ∧ w.ownsMap Tryz.prog 3 heldR b n D ∧ MapD H D m
  lt := fun h e => by cases e; obtain ⟨n, D, -, h, -⟩ := h; exact h.lt
  loc := fun h e => by
    obtain ⟨n, D, h1, ⟨es, cl, h2, h3⟩, h4⟩ := h
    exact ⟨n, D, h1, ⟨es, cl, by rw [e b rfl]; exact h2, h3⟩, h4⟩
  mono := fun h hl => by
    obtain ⟨n, D, h1, h2, h3⟩ := h
    exact ⟨n, D, h1, h2, h3.mono hl⟩
theorem int_of_key {k : Int} (h : I64 k) : keyOf Tryz.prog 3 (.int .i64 k) = some (.int .i64 k) := keyOf_int_mk Tryz.underlying3 (WalkArith.wf_i64 h)
section
variable {w0 w : World} {H0 H : PH} {L : List Chunk}
theorem Mem.newMapN (h : Mem w0 H0 L H w) : Mem w0 H0 (L ++ [mapN w.heap.size 0 fun _ => none]) H (w.alloc (.map #[] 0)) := by
  refine (h.ext (Ext.new w _)).add _ ⟨0, _, Nat.le_refl _, World.ownsMap_made _ _ _ _, MapD.nil H⟩ fun k hk => ?_
  cases hk
  exact ⟨h.ex.size, fresh_none h.ple (Nat.le_refl _), fun i d hi he => by have := h.lt hi he; omega⟩
variable {ops : Array Oper} {rest : List Oper} {o : Oper} {a : Act} {Q : Exit → Act → World → Prop}
theorem wpList_look_N (i : Nat) (hg : o.guard = none) (m x : Operand) (t e : TypeId) (hop : o.op = Op.lookup t m x true) (ht : Tryz.prog.underlying t = some (.map 3 e)) {z : Value} (hz : (zeroValue e).run Tryz.prog w = .ok z w)
    {b c : Nat} {mm : Int → Option Nm} (hm : a.eval m = .map (some b)) (hS : Mem w0 H0 L H w) (hi : L[i]? = some (mapN b c mm)) {k : Int} (hx : a.eval x = .int .i64 k) (hk : I64 k)
    (hno : mm k = none → wpList Tryz.prog ops Q rest (a.put o.dst (.tuple #[z, .bool false])) w)
    (hyes : ∀ (y : Nm) (cs : List Value), mm k = some y → y.attr = k → NumR H cs y → wpList Tryz.prog ops Q rest (a.put o.dst (.tuple #[.agg cs.toArray, .bool true])) w) : wpList Tryz.prog ops Q (o :: rest) a w := by
  obtain ⟨n, D, h1, h2, h3⟩ := hS.ok i _ hi
  have hh := (h3.2.2 k).1
  refine wpList_plain hg fun K' hK' => ?_
  unfold Oper.wp
  obtain ⟨es, clock, hb, F, _, rfl⟩ := h2
  rcases Maps.fit_look true keyInt ht hz hb F (int_of_key hk) with ⟨hrun, _, hat⟩ | ⟨e0, y, _, _, hrun, hRv, hat, _⟩
  · have h4 := Maps.has_false_of_atKey hat
    rw [h4] at hh
    cases hmk : mm k with
    | some v => rw [hmk] at hh; cases hh
    | none =>
      simp only [execOp, hop, hm, hx, Sem.run_bind, hrun, Result.andThen_ok, Sem.run_pure]
      exact hK' _ _ (hno hmk)
  · have h4 := Maps.has_true_of_atKey hat
    rw [h4] at hh
    cases hmk : mm k with
    | none => rw [hmk] at hh; cases hh
    | some v =>
      obtain ⟨h5, cs, h6, h7⟩ := (h3.2.2 k).2 v hmk
      have h8 := h7 .nil
      rw [hat] at h8
      cases hRv
      injection h8 with h9
      rw [h9] at hrun
      simp only [execOp, hop, hm, hx, Sem.run_bind, hrun, Result.andThen_ok, Sem.run_pure]
      exact hK' _ _ (hyes v cs hmk h5 h6)
theorem wpList_put_N (i : Nat) (hg : o.guard = none) (m x v : Operand) (t e : TypeId) (hop : o.op = Op.mapUpdate t m x v) (ht : Tryz.prog.underlying t = some (.map 3 e))
    {b c : Nat} {mm : Int → Option Nm} (hm : a.eval m = .map (some b)) (hS : Mem w0 H0 L H w) (hi : L[i]? = some (mapN b c mm)) {y : Nm} {cs : List Value} (hx : a.eval x = .int .i64 y.attr) (hc : c < maxLen) (hv : a.eval v = .agg cs.toArray) (hy : NumR H cs y)
    (hK : ∀ w', Mem w0 H0 (L.set i (mapN b (c + 1) fun k => if k = y.attr then some y else mm k)) H w' → wpList Tryz.prog ops Q rest (a.put o.dst undef) w') : wpList Tryz.prog ops Q (o :: rest) a w := by
  obtain ⟨n, D, h1, h2, h3⟩ := hS.ok i _ hi
  have hI : I64 y.attr := by obtain ⟨_, _, -, h1, -⟩ := hy; exact h1
  refine wpList_mapUpdate_own w hg m x v t hop _ e keyInt ht heldR b n D hm h2 (by omega) _ _ _ hx hv (int_of_key hI) (.held (.agg cs.toArray)) [] rfl fun w' h4 h5 => hK w' ?_
  exact hS.put i hi (c' := mapN b (c + 1) _) ⟨n + 1, _, by omega, h4, h3.put hy⟩ (fun k hk => .inl hk) (hS.ex.grown h5 fun k hk => by cases hk; exact (hS.fr i _ hi b rfl).1) fun k hk hne => h5.block k hk fun e => hne e.symm
theorem wpList_del_N (i : Nat) (hg : o.guard = none) (m x : Operand) (t : TypeId) (hop : o.op = Op.call { callee := Callee.builtin Builtin.delete, args := #[m, x], argTypes := #[t, 3] }) (e : TypeId) (ht : Tryz.prog.underlying t = some (.map 3 e))
    {b c : Nat} {mm : Int → Option Nm} (hm : a.eval m = .map (some b)) (hS : Mem w0 H0 L H w) (hi : L[i]? = some (mapN b c mm)) {n : Int} (hx : a.eval x = .int .i64 n) (hn : I64 n)
    (hK : ∀ w', Mem w0 H0 (L.set i (mapN b c fun k => if k = n then none else mm k)) H w' → wpList Tryz.prog ops Q rest (a.put o.dst (.tuple #[])) w') : wpList Tryz.prog ops Q (o :: rest) a w := by
  obtain ⟨n', D, h1, h2, h3⟩ := hS.ok i _ hi
  refine wpList_delete_own w hg m x t 3 hop e keyInt ht heldR b n' D hm h2 _ _ hx (int_of_key hn) fun w' h4 h5 => hK w' ?_
  have h5 := h5.grown
  exact hS.put i hi (c' := mapN b c _) ⟨n', _, h1, h4, h3.del n⟩ (fun k hk => .inl hk) (hS.ex.grown h5 fun k hk => by cases hk; exact (hS.fr i _ hi b rfl).1) fun k hk hne => h5.block k hk fun e => hne e.symm
end
def RngN (H : PH) (b r : Nat) (w : World) (m : Int → Option Nm) (cnt : Nat) : Prop :=
  ∃ n D left mm, w.ranges Tryz.prog 3 heldR b r n D left cnt ∧ MapD H D mm ∧ (∀ kl, left kl = true → Maps.has D kl = true) ∧ ∀ k : Int, m k = if left (.int .i64 k) then mm k else none
theorem RngN.kept {H : PH} {b r cnt : Nat} {w w' : World} {m : Int → Option Nm} (h : RngN H b r w m cnt) (hb : w'.heap[b]? = w.heap[b]?) (hr : w'.heap[r]? = w.heap[r]?) : RngN H b r w' m cnt := by
  obtain ⟨n, D, left, mm, ⟨es, clock, since, seen, c0, h1, h2, h3, h4, h5, h6⟩, h7⟩ := h
  exact ⟨n, D, left, mm, ⟨es, clock, since, seen, c0, hb.trans h1, h2, h3, h4, hr.trans h5, h6⟩, h7⟩
theorem RngN.left {H : PH} {b r cnt : Nat} {w : World} {m : Int → Option Nm} (h : RngN H b r w m cnt) : w.rangeLeft b r = cnt := by
  obtain ⟨n, D, left, mm, h1, -⟩ := h
  exact h1.left_eq
section
variable {w0 w : World} {H0 H : PH} {L : List Chunk}
variable {ops : Array Oper} {rest : List Oper} {o : Oper} {a : Act} {Q : Exit → Act → World → Prop}
theorem wpList_range_N (i : Nat) (hg : o.guard = none) (m : Operand) (t e : TypeId) (hop : o.op = Op.range t m) (ht : Tryz.prog.underlying t = some (.map 3 e))
    {b c : Nat} {mm : Int → Option Nm} (hm : a.eval m = .map (some b)) (hS : Mem w0 H0 L H w) (hi : L[i]? = some (mapN b c mm))
    (hK : ∀ w' om oi cnt, Mem w0 H0 (L.set i (raw b om) ++ [raw w.heap.size oi]) H w' → RngN H b w.heap.size w' mm cnt → cnt ≤ c → wpList Tryz.prog ops Q rest (a.put o.dst (.pointer (some ⟨w.heap.size, 0, none⟩))) w') : wpList Tryz.prog ops Q (o :: rest) a w := by
  obtain ⟨n, D, h1, h2, h3⟩ := hS.ok i _ hi
  refine wpList_range_own w hg m t hop 3 e keyInt ht heldR b n D hm h2 fun w' r1 r2 r3 => ?_
  have hr := id r1
  obtain ⟨es, clock, since, seen, c0, q1, q2, q3, q4, q5, q6⟩ := r1
  have hM := hS.put i hi (c' := raw b (.map es clock)) q1 (fun k hk => .inl hk) (hS.ex.grown r2 fun k hk => by cases hk) fun k hk hne => r2.block k hk (by simp)
  refine hK w' _ _ _ (hM.add (raw w.heap.size _) q5 fun k hk => ?_) ⟨n, D, _, mm, hr, h3, fun kl h => h, fun k => ?_⟩ (Nat.le_trans h2.size_le h1)
  · cases hk
    refine ⟨hS.ex.size, ?_, fun j d hj he => ?_⟩
    · cases hx : H w.heap.size with
      | none => rfl
      | some o => have := ph_lt (hS.ple _ _ hx); omega
    · have hne : d.foot ≠ some w.heap.size := by
        by_cases hji : i = j
        · subst hji
          rw [List.getElem?_set_self (List.getElem?_eq_some_iff.1 hi).1] at hj
          cases hj
          intro e
          have := h2.lt
          cases e; omega
        · rw [List.getElem?_set_ne hji] at hj
          intro e
          have := hS.lt hj e
          omega
      exact hne he
  · rw [(h3.2.2 k).1]
    cases mm k <;> rfl
theorem wpList_next_N (j : Nat) (hg : o.guard = none) (it : Operand) (hop : o.op = Op.next it false)
    {b r cnt : Nat} {oi : Obj} {m : Int → Option Nm} (hit : a.eval it = .pointer (some ⟨r, 0, none⟩)) (hS : Mem w0 H0 L H w) (hj : L[j]? = some (raw r oi)) (hR : RngN H b r w m cnt)
    (hDone : (∀ k, I64 k → m k = none) → wpList Tryz.prog ops Q rest (a.put o.dst (.tuple #[.bool false])) w)
    (hMore : ∀ (x : Nm) (cs : List Value) w' oi' cnt', m x.attr = some x → NumR H cs x → cnt' < cnt → Mem w0 H0 (L.set j (raw r oi')) H w' → RngN H b r w' (fun k => if k = x.attr then none else m k) cnt' →
      (Instr.entry (.pointer (some ⟨r, 0, none⟩))).run Tryz.prog w' = .ok (.tuple #[.int .i64 x.attr, .agg cs.toArray]) w' → wpList Tryz.prog ops Q rest (a.put o.dst (.tuple #[.bool true, .int .i64 x.attr, .agg cs.toArray])) w') : wpList Tryz.prog ops Q (o :: rest) a w := by
  obtain ⟨n, D, left, mm, h1, h2, h3, h4⟩ := hR
  refine wpList_next_ranges w hg it hop 3 keyInt heldR (fun x : Int => Value.int .i64 x) (fun v : Value => v) (fun key kl hkey => by obtain ⟨x, rfl, _⟩ := Maps.keyOf_int_inv Tryz.underlying3 hkey; exact ⟨x, rfl⟩) (fun v y _ => ⟨v, rfl⟩) b r n D left cnt hit h1
    (fun _ hn => hDone fun k hk => by rw [h4, hn]; rfl) fun x c kl y w' cnt' hkey hlk hv hat hrg hlt hgr hsz hen => ?_
  obtain ⟨x', e1, rfl, hw⟩ := Maps.keyOf_int_inv Tryz.underlying3 hkey
  cases e1
  have hh := (h2.2.2 x).1
  rw [h3 _ hlk] at hh
  cases hmx : mm x with
  | none => rw [hmx] at hh; cases hh
  | some z =>
    obtain ⟨k1, cs, k2, k3⟩ := (h2.2.2 x).2 z hmx
    subst k1
    have h8 := k3 .nil
    rw [hat] at h8
    cases hv
    injection h8 with h9
    rw [h9] at hen ⊢
    have hr := id hrg
    obtain ⟨es, clock, since, seen, c0, q1, q2, q3, q4, q5, q6⟩ := hrg
    refine hMore z cs w' _ cnt' (by rw [h4, hlk]; exact hmx) k2 hlt (hS.put j hj (c' := raw r _) q5 (fun k hk => .inl hk) (hS.ex.grown hgr fun k hk => by cases hk; exact (hS.fr j _ hj r rfl).1) fun k hk hne => hgr.block k hk fun e => hne e.symm)
      ⟨n, D, _, mm, hr, h2, fun kl h => h3 kl (by simp only [Bool.and_eq_true] at h; exact h.1), fun k => ?_⟩ hen
    by_cases hk : k = z.attr
    · subst hk
      dsimp only
      rw [if_pos rfl, WideAt.sameKey_self (isKey_int _)]
      simp
    · dsimp only
      rw [if_neg hk, h4]
      have hne : (Lit.int .i64 k).sameKey (Lit.int .i64 z.attr) = false := Maps.sameKey_ne (by intro e; cases e; exact hk rfl)
      rw [hne]; simp
end
end Go.Proofs.YtabajghokhfmhaaGreat
namespace Go.Proofs.YtabajghokhfmhaaGreat
open Go.Shelf
def sSortNm_ren : Go.Shelf.Ren := ⟨fun | 6 => 199 | 15 => 232 | 14 => 231 | 28 => 251 | 29 => 252 | 20 => 243 | 21 => 244 | 22 => 245 | 23 => 246 | 24 => 247 | 25 => 248 | 26 => 249 | 27 => 250 | 46 => 265 | 47 => 266 | 48 => 267 | 49 => 268 | 50 => 269 | 57 => 275 | n => n, fun | 22 => 51 | 24 => 106 | 25 => 204 | 3 => 3 | 39 => 163 | 0 => 0 | 53 => 267 | 55 => 247 | 4 => 4 | 46 => 260 | 45 => 259 | 50 => 264 | 5 => 5 | 9 => 9 | 66 => 278 | 70 => 282 | 76 => 286 | 77 => 287 | n => n, fun | n => n⟩
theorem sSortNm : Go.Proofs.SlLaysF0.n6 Tryz.prog sSortNm_ren := {
  mixed := by kernel_rfl
  f6 := ⟨Tryz.f199.name, by decide, Tryz.func199.trans (congrArg some (by kernel_rfl))⟩
  f14 := ⟨Tryz.f231.name, by decide, Tryz.func231.trans (congrArg some (by kernel_rfl))⟩
  f15 := Tryz.func232.trans (congrArg some (by kernel_rfl))
  f20 := ⟨Tryz.f243.name, by decide, Tryz.func243.trans (congrArg some (by kernel_rfl))⟩
  f21 := ⟨Tryz.f244.name, by decide, Tryz.func244.trans (congrArg some (by kernel_rfl))⟩
  f22 := ⟨Tryz.f245.name, by decide, Tryz.func245.trans (congrArg some (by kernel_rfl))⟩
  f23 := ⟨Tryz.f246.name, by decide, Tryz.func246.trans (congrArg some (by kernel_rfl))⟩
  f24 := ⟨Tryz.f247.name, by decide, Tryz.func247.trans (congrArg some (by kernel_rfl))⟩
  f25 := ⟨Tryz.f248.name, by decide, Tryz.func248.trans (congrArg some (by kernel_rfl))⟩
  f26 := ⟨Tryz.f249.name, by decide, Tryz.func249.trans (congrArg some (by kernel_rfl))⟩
  f27 := ⟨Tryz.f250.name, by decide, Tryz.func250.trans (congrArg some (by kernel_rfl))⟩
  f28 := Tryz.func251.trans (congrArg some (by kernel_rfl))
  f29 := Tryz.func252.trans (congrArg some (by kernel_rfl))
  f46 := ⟨Tryz.f265.name, by decide, Tryz.func265.trans (congrArg some (by kernel_rfl))⟩
  f47 := Tryz.func266.trans (congrArg some (by kernel_rfl))
  f48 := Tryz.func267.trans (congrArg some (by kernel_rfl))
  f49 := ⟨Tryz.f268.name, by decide, Tryz.func268.trans (congrArg some (by kernel_rfl))⟩
  f50 := ⟨Tryz.f269.name, by decide, Tryz.func269.trans (congrArg some (by kernel_rfl))⟩
  f57 := ⟨Tryz.f275.name, by decide, Tryz.func275.trans (congrArg some (by kernel_rfl))⟩
  t0 := Tryz.underlying0
  a0 := Tryz.isAgg0
  z0 := Tryz.sizeOf0
  v0 := Tryz.zeroValue0
  t3 := Tryz.underlying3
  a3 := Tryz.isAgg3
  z3 := Tryz.sizeOf3
  v3 := Tryz.zeroValue3
  t4 := Tryz.underlying4
  a4 := Tryz.isAgg4
  z4 := Tryz.sizeOf4
  v4 := Tryz.zeroValue4
  t5 := Tryz.underlying5
  a5 := Tryz.isAgg5
  z5 := Tryz.sizeOf5
  v5 := Tryz.zeroValue5
  t9 := Tryz.underlying9
  a9 := Tryz.isAgg9
  z9 := Tryz.sizeOf9
  v9 := Tryz.zeroValue9
  t22 := Tryz.underlying51
  a22 := Tryz.isAgg51
  z22 := Tryz.sizeOf51
  v22 := Tryz.zeroValue51
  t25 := Tryz.underlying204
  a25 := Tryz.isAgg204
  z25 := Tryz.sizeOf204
  v25 := Tryz.zeroValue204
  t39 := Tryz.underlying163
  a39 := Tryz.isAgg163
  z39 := Tryz.sizeOf163
  v39 := Tryz.zeroValue163
  t45 := Tryz.underlying259
  a45 := Tryz.isAgg259
  z45 := Tryz.sizeOf259
  v45 := Tryz.zeroValue259
  t46 := Tryz.underlying260
  a46 := Tryz.isAgg260
  z46 := Tryz.sizeOf260
  v46 := Tryz.zeroValue260
  t50 := Tryz.underlying264
  a50 := Tryz.isAgg264
  z50 := Tryz.sizeOf264
  v50 := Tryz.zeroValue264
  t53 := Tryz.underlying267
  a53 := Tryz.isAgg267
  z53 := Tryz.sizeOf267
  v53 := Tryz.zeroValue267
  t55 := Tryz.underlying247
  a55 := Tryz.isAgg247
  z55 := Tryz.sizeOf247
  v55 := Tryz.zeroValue247
  t66 := Tryz.underlying278
  a66 := Tryz.isAgg278
  z66 := Tryz.sizeOf278
  v66 := Tryz.zeroValue278
  t70 := Tryz.underlying282
  a70 := Tryz.isAgg282
  z70 := Tryz.sizeOf282
  v70 := Tryz.zeroValue282
  t76 := Tryz.underlying286
  a76 := Tryz.isAgg286
  z76 := Tryz.sizeOf286
  v76 := Tryz.zeroValue286
  t77 := Tryz.underlying287
  a77 := Tryz.isAgg287
  z77 := Tryz.sizeOf287
  v77 := Tryz.zeroValue287 }
end Go.Proofs.YtabajghokhfmhaaGreat
