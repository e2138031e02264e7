/- priorartlaw06.things: four things of bounded bulk. -/
import Derived.Test.YtebhdjeognpljaaSpoilt
import Derived.Test.YtebhdjeognpljaaMem2
namespace Go.Proofs.Ytebhdjeognpljaa
open Go.RowKit
set_option linter.unusedSimpArgs false
set_option linter.unusedVariables false
def ThingsP (w : World) (e : Ending) (w' : World) : Prop := ∃ (H' : PH) (v : Value) (xs : List Thing), e = .returned v ∧ OwnS w.heap.size H' w' ThingR 3 29 v xs ∧ PLe H' (up noH w w') ∧ xs.length = 4 ∧ (∀ x ∈ xs, x.bulk ≤ 100000) ∧ Ext w w'
set_option maxRecDepth 100000 in
set_option maxHeartbeats 2000000 in
theorem things_c (vl vm : Value) (l m : List Int) (at_ how by_ : Int) (w : World) (hl : IntsR (ph w) vl l) (hm : IntsR (ph w) vm m) (hll : l.length ≤ 140737488355328) (hml : m.length ≤ 140737488355328) (hat : I64 at_) (hhow : I64 how) (hby : I64 by_) :
    Calls Try.prog 8 #[vl, vm, .int .i64 at_, .int .i64 how, .int .i64 by_] w (ThingsP w) := by
  obtain ⟨a, c, rfl, -, hl⟩ := hl.form
  obtain ⟨a', c', rfl, -, hm⟩ := hm.form
  have hw3 := wrap_tdiv (k := 3) (by omega) hat
  have hw9 := wrap_tdiv (k := 9) (by omega) hhow
  replace hw3 := Lib.hid hw3
  replace hw9 := Lib.hid hw9
  have hS := Mem.start w noH (noH_le _)
  go_enter Try.func8, Try.ntmps8
  go_wp2_with fail
  refine (someT_c l _ 64 4 _ hll (by omega) (hl.mono mono_IntR (Ext.ple (by repeat (first | (with_reducible assumption) | (with_reducible exact Ext.rfl' _) | (with_reducible exact Ext.new _ _) | (with_reducible refine Ext.alloc' ?_ _) | (with_reducible refine Ext.drew' ?_) | (with_reducible refine Ext.drewN' ?_ _) | (with_reducible refine Ext.set' ?_ ?_ _; rotate_left; (focus (first | omega | (simp; done) | (simp; omega)))) | (with_reducible refine Ext.then (b := ?_) ?_ ?_; rotate_left; rotate_left; (with_reducible assumption)))))) (by omega) (by omega)).mono ?_
  rintro e w1 ⟨cs, rfl, ⟨ta, hTa, hba⟩, hb1⟩
  replace hS := hS.up hb1
  obtain ⟨x1, y1, x2, y2, x3, y3, rfl, -⟩ := hTa.form
  replace hS := hS.new #[.slice x1 ta.cls.length y1, .slice x2 ta.vals.length y2, .slice x3 ta.parts.length y3] 29
  have e1 : Ext w w1 := (by repeat (first | (with_reducible assumption) | (with_reducible exact Ext.rfl' _) | (with_reducible exact Ext.new _ _) | (with_reducible refine Ext.alloc' ?_ _) | (with_reducible refine Ext.drew' ?_) | (with_reducible refine Ext.drewN' ?_ _) | (with_reducible refine Ext.set' ?_ ?_ _; rotate_left; (focus (first | omega | (simp; done) | (simp; omega)))) | (with_reducible refine Ext.then (b := ?_) ?_ ?_; rotate_left; rotate_left; (with_reducible assumption))))
  generalize up noH w w1 = H1 at *
  clear hb1
  go_wp2_with fail
  refine (someT_c m _ 6 3 _ hml (by omega) (hm.mono mono_IntR (Ext.ple (by repeat (first | (with_reducible assumption) | (with_reducible exact Ext.rfl' _) | (with_reducible exact Ext.new _ _) | (with_reducible refine Ext.alloc' ?_ _) | (with_reducible refine Ext.drew' ?_) | (with_reducible refine Ext.drewN' ?_ _) | (with_reducible refine Ext.set' ?_ ?_ _; rotate_left; (focus (first | omega | (simp; done) | (simp; omega)))) | (with_reducible refine Ext.then (b := ?_) ?_ ?_; rotate_left; rotate_left; (with_reducible assumption)))))) (by omega) (by omega)).mono ?_
  rintro e w2 ⟨cs, rfl, ⟨tb, hTb, hbb⟩, hb2⟩
  obtain ⟨z1, v1, z2, v2, z3, v3, rfl, -⟩ := hTb.form
  replace hTb := mono_ThingR _ _ _ _ (up_noH (H := H1)) hTb
  replace hTa := mono_ThingR _ _ _ _ (ple_up hS.ple (w' := w2)) hTa
  replace hS := (hS.up hb2).new #[.slice z1 tb.cls.length v1, .slice z2 tb.vals.length v2, .slice z3 tb.parts.length v3] 29
  generalize up H1 _ w2 = H2 at *
  clear hb2
  obtain ⟨q1, q2⟩ := (hS.box 0 rfl).facts
  have q3 := (hS.box 0 rfl).lt
  go_wp2_with fail
  refine (spoilt_c ta H2 _ at_ how by_ _ hS.ple hTa hat hhow hby (by omega)).mono ?_
  rintro e w3 ⟨cs, tc, rfl, hTc, hbc, hb3⟩
  obtain ⟨s1, u1, s2, u2, s3, u3, rfl, -⟩ := hTc.form
  replace hTa := mono_ThingR _ _ _ _ (ple_up hS.ple (w' := w3)) hTa
  replace hTb := mono_ThingR _ _ _ _ (ple_up hS.ple (w' := w3)) hTb
  replace hS := (hS.up hb3).new #[.slice s1 tc.cls.length u1, .slice s2 tc.vals.length u2, .slice s3 tc.parts.length u3] 29
  generalize up H2 _ w3 = H3 at *
  clear hb3 q1 q2 q3
  obtain ⟨q1, q2⟩ := (hS.box 0 rfl).facts
  have q3 := (hS.box 0 rfl).lt
  obtain ⟨r1, r2⟩ := (hS.box 1 rfl).facts
  have r3 := (hS.box 1 rfl).lt
  obtain ⟨o1, o2⟩ := (hS.box 2 rfl).facts
  have o3 := (hS.box 2 rfl).lt
  go_wp2_with fail
  generalize hW : w3.alloc _ = W at *
  clear hW
  obtain ⟨hz0, hz1⟩ := aroundV_range (n := by_) (m := 7) hby (by omega)
  replace hw3 := hw3.out
  replace hw9 := hw9.out
  have hwz : IntKind.i64.wrap (aroundV by_ 7 - 1) = aroundV by_ 7 - 1 := by rw [IntKind.wrap_i64]; omega
  (refine wp_region_I 12 (by kernel_rfl) (by kernel_rfl) ?_; simp only [List.toList_toArray, List.take_succ_cons, List.take_zero, List.drop_succ_cons, List.drop_zero])
  repeat ((refine walkI_is (u := ?_) rfl (by simp) rfl ?_ ?_; rotate_left; (focus (intro A w' hS hA K hK; (simp only [List.map_cons, List.map_nil, knows, Is, Op.operands, Call.operands, List.lookup_cons, List.lookup_nil, Nat.reduceBEq, Bool.false_eq_true, if_false, if_true, Act.eval, Array.getD_eq_getD_getElem?, List.getElem?_toArray, List.getElem?_cons_succ, List.getElem?_cons_zero, Option.getD_some, and_true, true_and, List.append_toArray, List.nil_append, List.cons_append, List.toList_toArray, Array.toList_append] at hA); first | fail | (obtain ⟨hSc, hSf, hSs⟩ := hS.cells; go_simp; exact hK _ (by repeat (first | (with_reducible assumption) | (with_reducible exact Ext.rfl' _) | (with_reducible exact Ext.new _ _) | (with_reducible refine Ext.alloc' ?_ _) | (with_reducible refine Ext.drew' ?_) | (with_reducible refine Ext.drewN' ?_ _) | (with_reducible refine Ext.set' ?_ ?_ _; rotate_left; (focus (first | omega | (simp; done) | (simp; omega)))) | (with_reducible refine Ext.then (b := ?_) ?_ ?_; rotate_left; rotate_left; (with_reducible assumption))))))); (try simp only [List.nil_append, List.cons_append])))
  (refine walkI_is (u := ?_) rfl (by simp) rfl ?_ ?_; rotate_left; (focus (intro A w' hS hA K hK; (simp only [List.map_cons, List.map_nil, knows, Is, Op.operands, Call.operands, List.lookup_cons, List.lookup_nil, Nat.reduceBEq, Bool.false_eq_true, if_false, if_true, Act.eval, Array.getD_eq_getD_getElem?, List.getElem?_toArray, List.getElem?_cons_succ, List.getElem?_cons_zero, Option.getD_some, and_true, true_and, List.append_toArray, List.nil_append, List.cons_append, List.toList_toArray, Array.toList_append] at hA); first | (go_simp; refine (around_c by_ 7 _ hby (by omega) (by omega)).mono ?_; rintro e w'' ⟨rfl, hbx⟩; exact hK _ hbx) | (obtain ⟨hSc, hSf, hSs⟩ := hS.cells; go_simp; exact hK _ (by repeat (first | (with_reducible assumption) | (with_reducible exact Ext.rfl' _) | (with_reducible exact Ext.new _ _) | (with_reducible refine Ext.alloc' ?_ _) | (with_reducible refine Ext.drew' ?_) | (with_reducible refine Ext.drewN' ?_ _) | (with_reducible refine Ext.set' ?_ ?_ _; rotate_left; (focus (first | omega | (simp; done) | (simp; omega)))) | (with_reducible refine Ext.then (b := ?_) ?_ ?_; rotate_left; rotate_left; (with_reducible assumption))))))); (try simp only [List.nil_append, List.cons_append]))
  repeat ((refine walkI_is (u := ?_) rfl (by simp) rfl ?_ ?_; rotate_left; (focus (intro A w' hS hA K hK; (simp only [List.map_cons, List.map_nil, knows, Is, Op.operands, Call.operands, List.lookup_cons, List.lookup_nil, Nat.reduceBEq, Bool.false_eq_true, if_false, if_true, Act.eval, Array.getD_eq_getD_getElem?, List.getElem?_toArray, List.getElem?_cons_succ, List.getElem?_cons_zero, Option.getD_some, and_true, true_and, List.append_toArray, List.nil_append, List.cons_append, List.toList_toArray, Array.toList_append] at hA); first | fail | (obtain ⟨hSc, hSf, hSs⟩ := hS.cells; go_simp; exact hK _ (by repeat (first | (with_reducible assumption) | (with_reducible exact Ext.rfl' _) | (with_reducible exact Ext.new _ _) | (with_reducible refine Ext.alloc' ?_ _) | (with_reducible refine Ext.drew' ?_) | (with_reducible refine Ext.drewN' ?_ _) | (with_reducible refine Ext.set' ?_ ?_ _; rotate_left; (focus (first | omega | (simp; done) | (simp; omega)))) | (with_reducible refine Ext.then (b := ?_) ?_ ?_; rotate_left; rotate_left; (with_reducible assumption))))))); (try simp only [List.nil_append, List.cons_append])))
  refine walkI_step (fun v w' => ∃ (cs : List Value) (t' : Thing), v = .agg cs.toArray ∧ ThingR (up H3 W w') cs t' ∧ t'.bulk ≤ 2 * tc.bulk + 200) rfl (by simp) rfl ?_ ?_ ?_
  · rintro v w1 w2 hx ⟨cs, t', rfl, h1, h2⟩ hy
    exact ⟨cs, t', rfl, mono_ThingR _ _ _ _ (up_then hx hy) h1, h2⟩
  · intro A w' hx hA K hK
    (simp only [List.map_cons, List.map_nil, knows, Is, Op.operands, Call.operands, List.lookup_cons, List.lookup_nil, Nat.reduceBEq, Bool.false_eq_true, if_false, if_true, Act.eval, Array.getD_eq_getD_getElem?, List.getElem?_toArray, List.getElem?_cons_succ, List.getElem?_cons_zero, Option.getD_some, and_true, true_and, List.append_toArray, List.nil_append, List.cons_append, List.toList_toArray, Array.toList_append] at hA)
    go_simp
    refine (spoilt_c tc H3 _ _ _ _ _ (hS.ple.trans hx.ple) hTc (i64_tdiv (by omega) hat) (i64_tdiv (by omega) hhow) (by unfold I64; omega) (by omega)).mono ?_
    rintro e w6 ⟨cs, t', rfl, h4, h5, h6⟩
    exact hK _ _ h6 ⟨cs, t', rfl, mono_ThingR _ _ _ _ (up_sub hS.ple hx) h4, h5⟩
  (refine walkI_nil ?_; simp only [List.nil_append, List.cons_append, fins, Is, forall_eq, Act.put, List.setIfInBounds_toArray, List.set_cons_zero, List.set_cons_succ])
  rintro w4 hb4 v ⟨cs, td, rfl, hTd, hbd⟩
  obtain ⟨g1, k1, g2, k2, g3, k3, rfl, -⟩ := hTd.form
  replace hTa := mono_ThingR _ _ _ _ (ple_up hS.ple (w' := w4)) hTa
  replace hTb := mono_ThingR _ _ _ _ (ple_up hS.ple (w' := w4)) hTb
  replace hTc := mono_ThingR _ _ _ _ (ple_up hS.ple (w' := w4)) hTc
  replace hS := (hS.up hb4).new #[.slice x1 ta.cls.length y1, .slice x2 ta.vals.length y2, .slice x3 ta.parts.length y3, .slice z1 tb.cls.length v1, .slice z2 tb.vals.length v2, .slice z3 tb.parts.length v3, .slice s1 tc.cls.length u1, .slice s2 tc.vals.length u2, .slice s3 tc.parts.length u3, .slice g1 td.cls.length k1, .slice g2 td.vals.length k2, .slice g3 td.parts.length k3] 29
  generalize up H3 _ w4 = H4 at *
  have hO := (hS.asOwn 3 (xs := [ta, tb, tc, td]) (n := 4) (sz := 3) rfl mono_ThingR (by simp) (by simp [maxLen]) rfl ⟨_, _, rfl, rfl, hTa, _, _, rfl, rfl, hTb, _, _, rfl, rfl, hTc, _, [], rfl, rfl, hTd, rfl⟩).ownS 3 rfl
  have hub := hS.ub
  have hex := hS.ex
  replace hO := Lib.hid hO
  clear hS q1 q2 q3 r1 r2 r3 o1 o2 o3 hw3 hw9 hwz
  go_wp2_with fail
  go_ret
  exact ⟨_, _, _, rfl, hO.out, hub, rfl, fun x hx => (by simp only [List.mem_cons, List.not_mem_nil, or_false] at hx; rcases hx with rfl | rfl | rfl | rfl <;> omega), hex⟩
end Go.Proofs.Ytebhdjeognpljaa
