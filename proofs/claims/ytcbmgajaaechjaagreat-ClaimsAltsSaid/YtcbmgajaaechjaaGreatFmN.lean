/- package formula: the iterator over the nodes of a formula. -/
import Derived.Test.YtcbmgajaaechjaaGreatFmI
namespace Go.Proofs.YtcbmgajaaechjaaGreat
open Go.RowKit Go.Shelf
set_option linter.unusedSimpArgs false
set_option linter.unusedVariables false
attribute [local go_sem] Oper.semAt_some
theorem nodes_p (f : Fm) (cs : List Value) (w : World) (hr : FmR (ph w) cs f) : Calls Tryz.prog 38 #[.agg cs.toArray] w fun e w' => e = .returned (.func (.func 65) #[] #[.pointer (some ⟨w.heap.size, 0, none⟩)]) ∧ w' = w.alloc (.cells cs.toArray 39) := by
  obtain ⟨a3, c3, a4, c4, rfl, -⟩ := hr.form
  unfold fmC
  go_enter Tryz.func38, Tryz.ntmps38
  go_wp2_with fail
  go_ret
  exact ⟨rfl, rfl⟩
section
variable {H : PH} {n l N n₀ Bo B1 B2 : Nat} {J Jx : List (FmA H) → World → Prop} {tot : List Fm}
/-- the frames' own blocks: the function that yields, the function that goes down -/
def DownM (Bo l B1 B2 : Nat) (W : World) : Prop := Held Bo W B1 #[.func (.yield l) #[] #[]] 91 ∧
  Held Bo W B2 #[.func (.func 66) #[] #[.pointer (some ⟨B1, 0, none⟩), .pointer (some ⟨B2, 0, none⟩)]] 91
theorem DownM.kx {W W' : World} (h : DownM Bo l B1 B2 W) (k : Kx n₀ Bo W W') : DownM Bo l B1 B2 W' := ⟨h.1.kx k, h.2.kx k⟩
/-- what stands at each step -/
structure StepM (H : PH) (n₀ Bo l B1 B2 : Nat) (W : World) : Prop where
  sz : n₀ ≤ W.heap.size
  good : Good Bo W
  le : PLe H (ph W)
  m : DownM Bo l B1 B2 W
theorem StepM.kx {W W' : World} (hlow : ∀ k o, H k = some o → k < n₀) (h : StepM H n₀ Bo l B1 B2 W) (k : Kx n₀ Bo W W') : StepM H n₀ Bo l B1 B2 W' := by
  refine ⟨Nat.le_trans h.sz k.2.1, h.good.kx k, fun i o hi => ?_, h.m.kx k⟩
  show W'.heap[i]? = some o
  rw [k.1.block i (hlow i o hi)]
  exact h.le i o hi
theorem StepM.ext {W W' : World} (hlow : ∀ k o, H k = some o → k < n₀) (h : StepM H n₀ Bo l B1 B2 W) (e : Ext W W') : StepM H n₀ Bo l B1 B2 W' := h.kx hlow (Kx.ext e h.good.1 h.sz)
/-- the function at a kid -/
theorem node1_c (cs : List Value) (x : Fm) (W : World) (pre : List (FmA H)) (hx : FmR H cs x) (hM : StepM H n₀ Bo l B1 B2 W) (hlow : ∀ k o, H k = some o → k < n₀) (hJ : J pre W) (hJa : ∀ pre W o, J pre W → J pre (W.alloc o))
    (ih : ∀ W, StepM H n₀ Bo l B1 B2 W → J pre W → Calls Tryz.prog 66 #[.agg cs.toArray, .pointer (some ⟨B1, 0, none⟩), .pointer (some ⟨B2, 0, none⟩)] W (ItP tot pre x.pre J Jx n₀ Bo W)) :
    Calls Tryz.prog 68 #[.agg cs.toArray, .pointer (some ⟨B2, 0, none⟩)] W fun e W' => (e = .returned (.bool false) ∧ ∃ ys, fmsOf ys = x.pre ∧ J (pre ++ ys) W' ∧ Kx n₀ Bo W W') ∨ (e = .returned (.bool true) ∧ ∃ p, fmsOf p <+: tot ∧ Jx p W') := by
  obtain ⟨a3, c3, a4, c4, rfl, -⟩ := hx.form
  unfold fmC at *
  have hM1 := hM.ext hlow (Ext.new W (.cells #[.int .i64 x.op, .int .i64 x.n, .slice a3 x.inn.length c3, .slice a4 x.kids.length c4] 39))
  have hJ1 := hJa _ _ (.cells #[.int .i64 x.op, .int .i64 x.n, .slice a3 x.inn.length c3, .slice a4 x.kids.length c4] 39) hJ
  have hk1 : Kx n₀ Bo W (W.alloc (.cells #[.int .i64 x.op, .int .i64 x.n, .slice a3 x.inn.length c3, .slice a4 x.kids.length c4] 39)) := Kx.ext (Ext.new _ _) hM.good.1 hM.sz
  obtain ⟨f1, -⟩ := hM1.m.2.1.facts
  have f2 := f1 0
  simp only [List.getElem?_toArray, List.getElem?_cons_zero] at f2
  have HI := Lib.hid ih; clear ih f1
  go_enter Tryz.func68, Tryz.ntmps68
  go_wp2_with fail
  refine (HI.out _ hM1 hJ1).mono ?_
  rintro e w1 (⟨rfl, ys, h1, h2, h3⟩ | ⟨rfl, p, h1, h2⟩)
  · go_wp2_with fail
    go_ret
    exact .inl ⟨rfl, ys, h1, h2, hk1.then h3⟩
  · go_wp2_with fail
    go_ret
    exact .inr ⟨rfl, p, h1, h2⟩
/-- down: the node itself, then its kids -/
theorem node_c (hn : 2 ≤ n) (hlow : ∀ k o, H k = some o → k < n₀) (hJa : ∀ pre W o, J pre W → J pre (W.alloc o)) (hY : YieldOk n l N n₀ Bo J Jx) (htot : tot.length ≤ N) (f : Fm) : ∀ (cs : List Value) (pre : List (FmA H)) (W : World),
    FmR H cs f → StepM H n₀ Bo l B1 B2 W → J pre W → fmsOf pre ++ f.pre <+: tot →
    Calls Tryz.prog 66 #[.agg cs.toArray, .pointer (some ⟨B1, 0, none⟩), .pointer (some ⟨B2, 0, none⟩)] W (ItP tot pre f.pre J Jx n₀ Bo W) := by
  induction f using Fm.ind with
  | h f ih =>
    intro cs pre W hr hM hJ ht
    have hlen : pre.length < N := by
      have := ht.length_le
      rw [List.length_append, fmsOf_len, Fm.pre_len] at this
      have := f.size_pos
      omega
    have hr' := hr
    obtain ⟨a3, c3, a4, c4, rfl, -, -, -, hkl, -, hk⟩ := hr.form
    unfold fmC at *
    have hM1 := hM.ext hlow (Ext.new W (.cells #[.int .i64 f.op, .int .i64 f.n, .slice a3 f.inn.length c3, .slice a4 f.kids.length c4] 39))
    have hJ1 := hJa _ _ (.cells #[.int .i64 f.op, .int .i64 f.n, .slice a3 f.inn.length c3, .slice a4 f.kids.length c4] 39) hJ
    have hk1 : Kx n₀ Bo W (W.alloc (.cells #[.int .i64 f.op, .int .i64 f.n, .slice a3 f.inn.length c3, .slice a4 f.kids.length c4] 39)) := Kx.ext (Ext.new _ _) hM.good.1 hM.sz
    have hB3 := Held.new hM.good (Ext.new W (.cells #[.int .i64 f.op, .int .i64 f.n, .slice a3 f.inn.length c3, .slice a4 f.kids.length c4] 39)) (Nat.le_refl _) (Own.new W _ _)
    obtain ⟨f1, -⟩ := hM1.m.1.1.facts
    have f2 := f1 0
    simp only [List.getElem?_toArray, List.getElem?_cons_zero] at f2
    obtain ⟨fn, tmps, assign, body, hy, hYR⟩ := hY _ ⟨(_, f), hr'⟩ _ hJ1 hlen
    dsimp only at hy
    have HI := Lib.hid ih; clear ih f1
    have hn1 : 1 ≤ n := by omega
    refine (callsIn_wide (n := n)).1 ?_
    refine callsIn_of_wp Tryz.func66 rfl trivial ?_ rfl
    simp only [Tryz.ntmps66, List.size_toArray, List.length_cons, List.length_nil, Nat.reduceAdd, Nat.reduceSub, Array.replicate_succ, Array.replicate_zero, List.push_toArray, List.append_toArray, List.nil_append, List.cons_append]
    gi_wp2
    refine hYR.mono ?_
    rintro e W3 (⟨rfl, hJ3, hk3⟩ | ⟨rfl, hJx3⟩)
    · have hM3 := hM1.kx hlow hk3
      have hB4 := hB3.kx hk3
      obtain ⟨f3, -⟩ := hB4.1.facts
      have f4 := f3 3
      simp only [List.getElem?_toArray, List.getElem?_cons_zero, List.getElem?_cons_succ] at f4
      clear f3
      gi_wp2
      refine ⟨trivial, callsIn_wide.2 ((containsFunc_J 68 #[.pointer (some ⟨B2, 0, none⟩)] _ f.kids hk
        (fun k wr => ∃ ys, fmsOf ys = (f.kids.take k).flatMap Fm.pre ∧ J (pre ++ [⟨(_, f), hr'⟩] ++ ys) wr ∧ Kx n₀ Bo W wr ∧ StepM H n₀ Bo l B1 B2 wr) (fun wr => ∃ p, fmsOf p <+: tot ∧ Jx p wr) _
        (fun args w => enterFn Tryz.func68 rfl rfl args w) ?_ (fun k wr h => h.choose_spec.2.2.2.le) ⟨[], rfl, by rw [List.append_nil]; exact hJ3, hk1.then hk3, hM3⟩).mono ?_)⟩
      · rintro k hkk wr cs ⟨ys, g1, g2, g3, g4⟩ hE
        have e : (f.kids.take (k + 1)).flatMap Fm.pre = (f.kids.take k).flatMap Fm.pre ++ f.kids[k].pre := by
          rw [List.take_succ_eq_append_getElem hkk, List.flatMap_append]; simp
        have ht2 : fmsOf (pre ++ [⟨(_, f), hr'⟩] ++ ys) ++ f.kids[k].pre <+: tot := by
          refine List.IsPrefix.trans ?_ ht
          rw [fmsOf_app, fmsOf_app, g1, Fm.pre_eq f]
          have e2 : fmsOf [(⟨(_, f), hr'⟩ : FmA H)] = [f] := rfl
          rw [e2, List.append_assoc, List.append_assoc, ← e]
          refine List.prefix_append_right_inj _ |>.2 ?_
          refine List.cons_prefix_cons.2 ⟨rfl, ?_⟩
          have e3 : f.kids.flatMap Fm.pre = (f.kids.take (k + 1)).flatMap Fm.pre ++ (f.kids.drop (k + 1)).flatMap Fm.pre := by rw [← List.flatMap_append, List.take_append_drop]
          rw [e3]
          exact List.prefix_append _ _
        refine (node1_c cs f.kids[k] wr _ hE g4 hlow g2 hJa fun W' hM' hJ' => HI.out _ (List.getElem_mem hkk) cs _ W' hE hM' hJ' ht2).mono ?_
        rintro e' w' (⟨rfl, zs, q1, q2, q3⟩ | ⟨rfl, p, q1, q2⟩)
        · refine .inl ⟨rfl, ys ++ zs, by rw [fmsOf_app, g1, q1, e], by rw [← List.append_assoc]; exact q2, g3.then q3, g4.kx hlow q3⟩
        · exact .inr ⟨rfl, p, q1, q2⟩
      · rintro e w4 (⟨rfl, ys, g1, g2, g3, g4⟩ | ⟨rfl, p, g1, g2⟩)
        · gi_wp2
          go_ret
          refine .inl ⟨rfl, ⟨(_, f), hr'⟩ :: ys, ?_, ?_, g3⟩
          · rw [Fm.pre_eq]
            rw [List.take_length] at g1
            show f :: fmsOf ys = _
            rw [g1]
          · rw [List.append_assoc] at g2; exact g2
        · gi_wp2
          go_ret
          exact .inr ⟨rfl, p, g1, g2⟩
    · gi_wp2
      refine ⟨trivial, ?_⟩
      gi_wp2
      go_ret
      refine .inr ⟨rfl, _, ?_, hJx3⟩
      refine List.IsPrefix.trans ?_ ht
      rw [fmsOf_app, Fm.pre_eq]
      exact (List.prefix_append_right_inj _).2 (List.cons_prefix_cons.2 ⟨rfl, List.nil_prefix⟩)
end
end Go.Proofs.YtcbmgajaaechjaaGreat
