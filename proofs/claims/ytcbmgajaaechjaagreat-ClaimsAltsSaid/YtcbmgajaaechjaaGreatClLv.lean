/- the documented example of claims: class, of, lives. -/
import Derived.Test.YtcbmgajaaechjaaGreatClBA
import Derived.Test.YtcbmgajaaechjaaGreatFmP
namespace Go.Proofs.YtcbmgajaaechjaaGreat
open Go.RowKit Go.Shelf
set_option linter.unusedSimpArgs false
set_option linter.unusedVariables false
def clsF (n : Int) : Fm := .mk 1 n [] []
theorem clsF_R (H : PH) {n : Int} (hn : I64 n) : FmR H (fmC (clsF n) none 0 none 0) (clsF n) := FmR.of (by simp [clsF, Fm.op, I64]) (by simpa [clsF, Fm.n] using hn) (SliceRep.nil _ _ _) (SliceRep.nil _ _ _)
theorem class_c (n : Int) (w : World) : Calls Tryz.prog 43 #[.int .i64 n] w (RetV w (.agg #[.int .i64 1, .int .i64 n, .slice none 0 0, .slice none 0 0])) := by
  go_enter Tryz.func43, Tryz.ntmps43
  go_wp2_with fail
  have ho := Own.new w #[.int .i64 1, .int .i64 n, .slice none 0 0, .slice none 0 0] 39
  have hx := Ext.new w (.cells #[.int .i64 1, .int .i64 n, .slice none 0 0, .slice none 0 0] 39)
  generalize w.alloc _ = w9 at *
  obtain ⟨q, -⟩ := ho.facts
  have q0 : _ = some (Value.int .i64 1) := q 0
  have q1 : _ = some (Value.int .i64 n) := q 1
  have q2 : _ = some (Value.slice none 0 0) := q 2
  have q3 : _ = some (Value.slice none 0 0) := q 3
  refine bodyPost_ret (v := .agg #[.int .i64 1, .int .i64 n, .slice none 0 0, .slice none 0 0]) (by simp [results, Tryz.results43, go_sem, q0, q1, q2, q3]) rfl ?_
  exact ⟨rfl, hx⟩
/-- a formula of two kids, in memory of its own -/
theorem of2_c {H : PH} (op : Int) (f g : Fm) (a3 : Option Addr) (c3 : Nat) (a4 : Option Addr) (c4 : Nat) (b3 : Option Addr) (d3 : Nat) (b4 : Option Addr) (d4 : Nat) (w : World) (ho : I64 op) (hl : PLe H (ph w)) (hf : FmR H (fmC f a3 c3 a4 c4) f) (hg : FmR H (fmC g b3 d3 b4 d4) g) :
    Calls Tryz.prog 42 #[.int .i64 op, fmV f a3 c3 a4 c4, fmV g b3 d3 b4 d4] w fun e w' => ∃ b, e = .returned (.agg #[.int .i64 op, .int .i64 0, .slice none 0 0, .slice (some ⟨b, 0, none⟩) 2 2]) ∧ Ext w w' ∧ FmsR (up H w w') (.slice (some ⟨b, 0, none⟩) 2 2) [f, g] := by
  unfold fmC at hf hg
  go_enter Tryz.func42, Tryz.ntmps42
  go_wp2_with fail
  have hM := (((((Mem.start w H hl).ext (Ext.new w (.cells #[.int .i64 f.op, .int .i64 f.n, .slice a3 f.inn.length c3, .slice a4 f.kids.length c4] 39))).ext (Ext.new _ (.cells #[.int .i64 g.op, .int .i64 g.n, .slice b3 g.inn.length d3, .slice b4 g.kids.length d4] 39))).ext (Ext.new _ (.cells #[.int .i64 op, .int .i64 0, .slice none 0 0, .slice (some ⟨w.heap.size + 1 + 1 + 1, 0, none⟩) 2 2] 39))).new' #[.int .i64 f.op, .int .i64 f.n, .slice a3 f.inn.length c3, .slice a4 f.kids.length c4, .int .i64 g.op, .int .i64 g.n, .slice b3 g.inn.length d3, .slice b4 g.kids.length d4] 39 (n := w.heap.size + 1 + 1 + 1) (by simp)).asOwn 0 rfl mono_FmR (sz := 4) (xs := [f, g]) (n := 2) (by simp) (by simp [maxLen]) rfl ⟨_, _, rfl, rfl, hf, _, [], rfl, rfl, hg, rfl⟩
  have hk := hM.repUp 0 rfl
  have hx := hM.ex
  have ho2 : Own ((((w.alloc (.cells #[.int .i64 f.op, .int .i64 f.n, .slice a3 f.inn.length c3, .slice a4 f.kids.length c4] 39)).alloc (.cells #[.int .i64 g.op, .int .i64 g.n, .slice b3 g.inn.length d3, .slice b4 g.kids.length d4] 39)).alloc (.cells #[.int .i64 op, .int .i64 0, .slice none 0 0, .slice (some ⟨w.heap.size + 1 + 1 + 1, 0, none⟩) 2 2] 39)).alloc (.cells #[.int .i64 f.op, .int .i64 f.n, .slice a3 f.inn.length c3, .slice a4 f.kids.length c4, .int .i64 g.op, .int .i64 g.n, .slice b3 g.inn.length d3, .slice b4 g.kids.length d4] 39)) (w.heap.size + 1 + 1) #[.int .i64 op, .int .i64 0, .slice none 0 0, .slice (some ⟨w.heap.size + 1 + 1 + 1, 0, none⟩) 2 2] 39 := (by repeat (first | (with_reducible assumption) | (with_reducible exact Own.new _ _ _) | (with_reducible refine Own.new' _ _ _ ?_; (focus (simp; done))) | (with_reducible refine Own.alloc ?_ _) | (with_reducible refine Own.drew ?_) | (with_reducible refine Own.drewN ?_ _) | (with_reducible refine Own.keep (w := ?_) ?_ ?_; rotate_left; (with_reducible assumption); (exact (by repeat (first | (with_reducible assumption) | (with_reducible exact Ext.rfl' _) | (with_reducible exact Ext.new _ _) | (with_reducible refine Ext.alloc' ?_ _) | (with_reducible refine Ext.drew' ?_) | (with_reducible refine Ext.drewN' ?_ _) | (with_reducible refine Ext.set' ?_ ?_ _; rotate_left; (focus (first | omega | (simp; done) | (simp; omega)))) | (with_reducible refine Ext.then (b := ?_) ?_ ?_; rotate_left; rotate_left; (with_reducible assumption)))))) | (with_reducible refine Own.keep (w := ?_) ?_ ?_; rotate_left; rotate_left; (with_reducible assumption))))
  clear hM
  generalize World.alloc _ _ = w9 at *
  obtain ⟨q, -⟩ := ho2.facts
  have q0 : _ = some (Value.int .i64 op) := q 0
  have q1 : _ = some (Value.int .i64 0) := q 1
  have q2 : _ = some (Value.slice none 0 0) := q 2
  have q3 : _ = some (Value.slice (some ⟨w.heap.size + 1 + 1 + 1, 0, none⟩) 2 2) := q 3
  refine bodyPost_ret (v := .agg #[.int .i64 op, .int .i64 0, .slice none 0 0, .slice (some ⟨w.heap.size + 1 + 1 + 1, 0, none⟩) 2 2]) (by simp [results, Tryz.results42, go_sem, q0, q1, q2, q3]) rfl ?_
  exact ⟨w.heap.size + 1 + 1 + 1, rfl, hx, hk⟩
def orF : Fm := .mk 5 0 [] [clsF 0, clsF 1]
def LV : List Cl := [⟨[], orF⟩, ⟨[0], clsF 2⟩]
def or1 : Fm := .mk 5 0 [] [orF]
def wantF : Fm := .mk 4 0 [] [clsF 2, or1]
def wantA : List Fm := [.mk 4 0 [] [clsF 0, clsF 2], .mk 4 0 [] [clsF 1, clsF 2]]
theorem lv_mean : meaningE LV 1 = (wantF, 0) := by kernel_rfl
theorem lv_alts : altsE LV 1 = (wantA, 0) := by kernel_rfl
theorem ints1 {w : World} {g : Nat} {x : Int} {T : TypeId} (ho : Own w g #[.int .i64 x] T) (hx : I64 x) : IntsR (ph w) (.slice (some ⟨g, 0, none⟩) 1 1) [x] := by
  refine ⟨_, 1, rfl, Nat.le_refl _, by simp [maxLen], .inr ⟨g, 0, rfl, ⟨[.int .i64 x], rfl, fun j hj => ?_, rfl, hx⟩, trivial⟩⟩
  obtain rfl : j = 0 := by omega
  rw [← cell_ph]
  exact ho.facts.1 0
theorem orF_R {H : PH} {b : Nat} (h : FmsR H (.slice (some ⟨b, 0, none⟩) 2 2) [clsF 0, clsF 1]) : FmR H [.int .i64 5, .int .i64 0, .slice none 0 0, .slice (some ⟨b, 0, none⟩) 2 2] orF :=
  FmR.of (f := orF) (a3 := none) (c3 := 0) (a4 := some ⟨b, 0, none⟩) (c4 := 2) (by simp [orF, Fm.op, I64]) (by simp [orF, Fm.n, I64]) (SliceRep.nil _ _ _) h
theorem lv_bulk : ∀ c ∈ LV, c.body.bulk ≤ 900000 := by
  intro c hc
  simp only [LV, List.mem_cons, List.not_mem_nil, or_false] at hc
  rcases hc with rfl | rfl <;> simp [orF, clsF, Fm.bulk, fbulks]
/-- the state of the region that makes the formula wanted -/
def LvJ (w : World) : Pj.Inv := fun dn s wx => ∃ (H : PH) (b : Nat), Mem w (ph w) [if dn 5 then box b zeroFc 39 else nop] H wx ∧ (dn 5 = true → s 7 = .pointer (some ⟨b, 0, none⟩)) ∧
  (dn 0 = true → s 27 = .agg #[.int .i64 1, .int .i64 2, .slice none 0 0, .slice none 0 0]) ∧
  (dn 2 = true → ∃ g, s 29 = .slice (some ⟨g, 0, none⟩) 1 1 ∧ FmsR H (.slice (some ⟨g, 0, none⟩) 1 1) [orF]) ∧
  (dn 3 = true → ∃ g, s 30 = .agg #[.int .i64 5, .int .i64 0, .slice none 0 0, .slice (some ⟨g, 0, none⟩) 1 1] ∧ FmsR H (.slice (some ⟨g, 0, none⟩) 1 1) [orF]) ∧
  (dn 4 = true → ∃ g, s 31 = .agg #[.int .i64 4, .int .i64 0, .slice none 0 0, .slice (some ⟨g, 0, none⟩) 2 2] ∧ FmsR H (.slice (some ⟨g, 0, none⟩) 2 2) [clsF 2, or1])
set_option maxRecDepth 100000 in
set_option maxHeartbeats 4000000 in
theorem lives_c (w : World) : Calls Tryz.prog 14 #[] w (RetV w (.bool true)) := by
  have i5 : I64 5 := by simp [I64]
  have i4 : I64 4 := by simp [I64]
  go_enter Tryz.func14, Tryz.ntmps14
  go_wp2_with fail
  refine RetV_at (class_c 0 _) ?_
  intro w1 hx1
  go_wp2_with fail
  refine RetV_at (class_c 1 _) ?_
  intro w2 hx2
  go_wp2_with fail
  refine (of2_c (H := noH) 5 (clsF 0) (clsF 1) none 0 none 0 none 0 none 0 w2 i5 (noH_le _) (clsF_R _ (by simp [I64])) (clsF_R _ (by simp [I64]))).mono ?_
  rintro e w3 ⟨b, rfl, hx3, hk⟩
  have hM := ((((Mem.start w noH (noH_le _)).ext hx1).ext hx2).up hx3).new' #[.int .i64 5, .int .i64 0, .slice none 0 0, .slice (some ⟨b, 0, none⟩) 2 2] 39 (n := w3.heap.size) rfl
  simp only [List.nil_append] at hM
  have hOr := orF_R hk
  generalize up noH w2 w3 = H3 at *
  clear hx1 hx2 hx3 hk
  go_upto_region 2 with (fail)
  generalize w3.alloc _ = W at *
  generalize w3.heap.size = B1 at *
  obtain ⟨uc, -⟩ := (hM.box 0 rfl).facts
  have u0 : _ = some (Value.int .i64 5) := uc 0
  have u1 : _ = some (Value.int .i64 0) := uc 1
  have u2 : _ = some (Value.slice none 0 0) := uc 2
  have u3 : _ = some (Value.slice (some ⟨b, 0, none⟩) 2 2) := uc 3
  have ul := (hM.box 0 rfl).lt
  have hlW := hM.ple
  clear uc
  (refine wp_region_I 7 (by kernel_rfl) (by kernel_rfl) ?_; simp only [List.toList_toArray, List.take_succ_cons, List.take_zero, List.drop_succ_cons, List.drop_zero])
  (refine walkI_is (u := ?_) rfl (by simp) rfl ?_ ?_; rotate_left; (focus (intro A w' hS hA K hK; (simp only [List.map_cons, List.map_nil, knows, Is, Op.operands, Call.operands, List.lookup_cons, List.lookup_nil, Nat.reduceBEq, Bool.false_eq_true, if_false, if_true, Act.eval, Array.getD_eq_getD_getElem?, List.getElem?_toArray, List.getElem?_cons_succ, List.getElem?_cons_zero, Option.getD_some, and_true, true_and, List.append_toArray, List.nil_append, List.cons_append, List.toList_toArray, Array.toList_append, Option.toArray, List.append_nil] at hA); first | fail | (obtain ⟨hSc, hSf, hSs⟩ := hS.cells; go_simp; exact hK _ (by first | exact Ext.rfl' _ | exact Ext.new _ _ | assumption)))); (try simp only [List.nil_append, List.cons_append]))
  (refine walkI_is (u := ?_) rfl (by simp) rfl ?_ ?_; rotate_left; (focus (intro A w' hS hA K hK; (simp only [List.map_cons, List.map_nil, knows, Is, Op.operands, Call.operands, List.lookup_cons, List.lookup_nil, Nat.reduceBEq, Bool.false_eq_true, if_false, if_true, Act.eval, Array.getD_eq_getD_getElem?, List.getElem?_toArray, List.getElem?_cons_succ, List.getElem?_cons_zero, Option.getD_some, and_true, true_and, List.append_toArray, List.nil_append, List.cons_append, List.toList_toArray, Array.toList_append, Option.toArray, List.append_nil] at hA); first | fail | (obtain ⟨hSc, hSf, hSs⟩ := hS.cells; go_simp; exact hK _ (by first | exact Ext.rfl' _ | exact Ext.new _ _ | assumption)))); (try simp only [List.nil_append, List.cons_append]))
  (refine walkI_step (NewSl W #[.int .i64 0] 3 1) rfl (by simp) rfl (stab_NewSl _ _ _ _) ?_ ?_; (focus (intro A w' hS hA K hK; (simp only [List.map_cons, List.map_nil, knows, Is, Op.operands, Call.operands, List.lookup_cons, List.lookup_nil, Nat.reduceBEq, Bool.false_eq_true, if_false, if_true, Act.eval, Array.getD_eq_getD_getElem?, List.getElem?_toArray, List.getElem?_cons_succ, List.getElem?_cons_zero, Option.getD_some, and_true, true_and, List.append_toArray, List.nil_append, List.cons_append, List.toList_toArray, Array.toList_append, Option.toArray, List.append_nil] at hA); (have hs' := hS.size; go_simp; exact hK _ _ (Ext.new _ _) ⟨_, rfl, Own.new _ _ _, by omega⟩))); (try simp only [List.nil_append, List.cons_append]))
  (refine walkI_is (u := ?_) rfl (by simp) rfl ?_ ?_; rotate_left; (focus (intro A w' hS hA K hK; (simp only [List.map_cons, List.map_nil, knows, Is, Op.operands, Call.operands, List.lookup_cons, List.lookup_nil, Nat.reduceBEq, Bool.false_eq_true, if_false, if_true, Act.eval, Array.getD_eq_getD_getElem?, List.getElem?_toArray, List.getElem?_cons_succ, List.getElem?_cons_zero, Option.getD_some, and_true, true_and, List.append_toArray, List.nil_append, List.cons_append, List.toList_toArray, Array.toList_append, Option.toArray, List.append_nil] at hA); first | (go_simp; refine RetV_at (class_c 2 _) ?_; intro w'' hx''; exact hK _ hx'') | (obtain ⟨hSc, hSf, hSs⟩ := hS.cells; go_simp; exact hK _ (by first | exact Ext.rfl' _ | exact Ext.new _ _ | assumption)))); (try simp only [List.nil_append, List.cons_append]))
  (refine walkI_step ((fun v w' => ∃ g, v = .agg #[.slice (some ⟨g, 0, none⟩) 1 1, .int .i64 1, .int .i64 2, .slice none 0 0, .slice none 0 0] ∧ Own w' g #[.int .i64 0] 3)) rfl (by simp) rfl ((fun v w w' _ ⟨g, h1, h2⟩ e => ⟨g, h1, h2.keep e⟩)) ?_ ?_; (focus (intro A w' hS hA K hK; (simp only [List.map_cons, List.map_nil, knows, Is, Op.operands, Call.operands, List.lookup_cons, List.lookup_nil, Nat.reduceBEq, Bool.false_eq_true, if_false, if_true, Act.eval, Array.getD_eq_getD_getElem?, List.getElem?_toArray, List.getElem?_cons_succ, List.getElem?_cons_zero, Option.getD_some, and_true, true_and, List.append_toArray, List.nil_append, List.cons_append, List.toList_toArray, Array.toList_append, Option.toArray, List.append_nil] at hA); (obtain ⟨⟨g, hA1, hA2, -⟩, hA4⟩ := hA; go_simp; exact hK _ _ (Ext.rfl' _) ⟨g, rfl, hA2⟩))); (try simp only [List.nil_append, List.cons_append]))
  (refine walkI_step ((fun v w' => ClsR (ph w') v LV)) rfl (by simp) rfl ((fun v w w' _ h e => h.mono mono_ClR e.ple)) ?_ ?_; (focus (intro A w' hS hA K hK; (simp only [List.map_cons, List.map_nil, knows, Is, Op.operands, Call.operands, List.lookup_cons, List.lookup_nil, Nat.reduceBEq, Bool.false_eq_true, if_false, if_true, Act.eval, Array.getD_eq_getD_getElem?, List.getElem?_toArray, List.getElem?_cons_succ, List.getElem?_cons_zero, Option.getD_some, and_true, true_and, List.append_toArray, List.nil_append, List.cons_append, List.toList_toArray, Array.toList_append, Option.toArray, List.append_nil] at hA); (obtain ⟨hA4, g, hA1, hA2⟩ := hA; have hm := ((Mem.start w' (ph w') (fun _ _ h => h)).new' #[.slice none 0 0, .int .i64 5, .int .i64 0, .slice none 0 0, .slice (some ⟨b, 0, none⟩) 2 2, .slice (some ⟨g, 0, none⟩) 1 1, .int .i64 1, .int .i64 2, .slice none 0 0, .slice none 0 0] 49 (n := w'.heap.size) rfl).asOwn 0 rfl mono_ClR (sz := 5) (xs := LV) (n := 2) (by simp [LV]) (by simp [maxLen]) rfl ⟨_, _, rfl, rfl, ⟨_, _, rfl, SliceRep.nil _ _ _, mono_FmR _ _ _ _ (hlW.trans hS.ple) hOr⟩, _, [], rfl, rfl, ⟨_, _, rfl, ints1 hA2 (by simp [I64]), clsF_R _ (by simp [I64])⟩, rfl⟩; go_simp; exact hK _ _ (Ext.new _ _) (hm.rep 0 rfl)))); (try simp only [List.nil_append, List.cons_append]))
  (refine walkI_step ((fun v w' => ClsR (ph w') v LV)) rfl (by simp) rfl ((fun v w w' _ h e => h.mono mono_ClR e.ple)) ?_ ?_; (focus (intro A w' hS hA K hK; (simp only [List.map_cons, List.map_nil, knows, Is, Op.operands, Call.operands, List.lookup_cons, List.lookup_nil, Nat.reduceBEq, Bool.false_eq_true, if_false, if_true, Act.eval, Array.getD_eq_getD_getElem?, List.getElem?_toArray, List.getElem?_cons_succ, List.getElem?_cons_zero, Option.getD_some, and_true, true_and, List.append_toArray, List.nil_append, List.cons_append, List.toList_toArray, Array.toList_append, Option.toArray, List.append_nil] at hA); (go_simp; exact hK _ _ (Ext.rfl' _) hA))); (try simp only [List.nil_append, List.cons_append]))
  (refine walkI_nil ?_; simp only [List.nil_append, List.cons_append, fins, Is, forall_eq, Act.put, List.setIfInBounds_toArray, List.set_cons_zero, List.set_cons_succ])
  rintro w4 hx4 v13 - v15 - v16 - v2 hcl
  replace hM := hM.ext hx4
  clear u0 u1 u2 u3 ul hx4
  go_wp2_with fail
  refine (meaning_c _ LV 1 _ hcl lv_bulk).mono ?_
  rintro e w5 ⟨b3, d3, b4, d4, rfl, hx5, hF5⟩
  rw [lv_mean] at hF5 ⊢
  dsimp only at hF5 ⊢
  have o1 := (hM.box 0 rfl).keep hx5
  have hxw := hM.ex.then hx5
  replace hcl := hcl.mono mono_ClR hx5.ple
  have hO5 := mono_FmR _ _ _ _ (hM.ple.trans hx5.ple) hOr
  clear hM hOr hlW
  go_upto_region 4 with (fail)
  have e5 := Ext.new w5 (.cells #[.int .i64 wantF.op, .int .i64 wantF.n, .slice b3 wantF.inn.length d3, .slice b4 wantF.kids.length d4] 39)
  have o3 := Own.new w5 #[.int .i64 wantF.op, .int .i64 wantF.n, .slice b3 wantF.inn.length d3, .slice b4 wantF.kids.length d4] 39
  replace o1 := o1.keep e5
  replace hxw := hxw.then e5
  replace hcl := hcl.mono mono_ClR e5.ple
  replace hO5 := mono_FmR _ _ _ _ e5.ple hO5
  replace hF5 := mono_FmR _ _ _ _ e5.ple hF5
  generalize w5.alloc _ = w6 at *
  generalize w5.heap.size = B3 at *
  clear e5 hx5
  go_wp2_with fail
  refine (alts_c _ LV 1 _ hcl lv_bulk).mono ?_
  rintro e w7 ⟨v5, rfl, hx7, hA⟩
  rw [lv_alts] at hA ⊢
  dsimp only at hA ⊢
  replace o1 := o1.keep hx7
  replace o3 := o3.keep hx7
  replace hxw := hxw.then hx7
  replace hO5 := mono_FmR _ _ _ _ hx7.ple hO5
  replace hF5 := mono_FmR _ _ _ _ hx7.ple hF5
  clear hcl hx7
  go_upto_region 5 with (fail)
  obtain ⟨uc, -⟩ := o1.facts
  have u0 : _ = some (Value.int .i64 5) := uc 0
  have u1 : _ = some (Value.int .i64 0) := uc 1
  have u2 : _ = some (Value.slice none 0 0) := uc 2
  have u3 : _ = some (Value.slice (some ⟨b, 0, none⟩) 2 2) := uc 3
  have ul := o1.lt
  clear uc
  (refine Pj.wp_region_J 6 (LvJ w7) (by kernel_rfl) (by kernel_rfl) (⟨ph w7, 0, ((Mem.start w7 (ph w7) (fun _ _ h => h)).ext (Ext.rfl' w7).drew').pick [0] (by decide), by simp, by simp, by simp, by simp, by simp⟩) ?_; simp only [List.toList_toArray, List.take_succ_cons, List.take_zero, List.drop_succ_cons, List.drop_zero])
  (refine Pj.walkI_step rfl (by simp) rfl ?_ ?_; (focus (intro A w' dn hS hJ hd0 hdn hA K hK; (try simp only [List.map_cons, List.map_nil, Pj.knows, Pj.Is, Pj.Any, Op.operands, Call.operands, List.lookup_cons, List.lookup_nil, Nat.reduceBEq, Bool.false_eq_true, if_false, if_true, Act.eval, Array.getD_eq_getD_getElem?, List.getElem?_toArray, List.getElem?_cons_succ, List.getElem?_cons_zero, Option.getD_some, and_true, true_and, List.append_toArray, List.nil_append, List.cons_append, List.toList_toArray, Array.toList_append, Option.toArray, List.append_nil] at hA); (obtain ⟨H, b', i2, i7, j0, j2, j3, j4⟩ := hJ; go_simp; refine RetV_at (class_c 2 _) ?_; intro w'' hx''; exact hK _ _ (hS.then hx'') ⟨H, b', i2.ext hx'', i7, fun _ => rfl, j2, j3, j4⟩))); (try simp only [List.nil_append, List.cons_append]))
  (refine Pj.walkI_is (u := ?_) rfl (by simp) rfl (fun dn s w h => h) ?_ ?_; rotate_left; (focus (intro A w' dn hS hJ hdn hA K hK; (try simp only [List.map_cons, List.map_nil, Pj.knows, Pj.Is, Pj.Any, Op.operands, Call.operands, List.lookup_cons, List.lookup_nil, Nat.reduceBEq, Bool.false_eq_true, if_false, if_true, Act.eval, Array.getD_eq_getD_getElem?, List.getElem?_toArray, List.getElem?_cons_succ, List.getElem?_cons_zero, Option.getD_some, and_true, true_and, List.append_toArray, List.nil_append, List.cons_append, List.toList_toArray, Array.toList_append, Option.toArray, List.append_nil] at hA); first | fail | (obtain ⟨hSc, hSf, hSs⟩ := hS.cells; go_simp; exact hK))); (try simp only [List.nil_append, List.cons_append]))
  (refine Pj.walkI_step rfl (by simp) rfl ?_ ?_; (focus (intro A w' dn hS hJ hd0 hdn hA K hK; (try simp only [List.map_cons, List.map_nil, Pj.knows, Pj.Is, Pj.Any, Op.operands, Call.operands, List.lookup_cons, List.lookup_nil, Nat.reduceBEq, Bool.false_eq_true, if_false, if_true, Act.eval, Array.getD_eq_getD_getElem?, List.getElem?_toArray, List.getElem?_cons_succ, List.getElem?_cons_zero, Option.getD_some, and_true, true_and, List.append_toArray, List.nil_append, List.cons_append, List.toList_toArray, Array.toList_append, Option.toArray, List.append_nil] at hA); (obtain ⟨H, b', i2, i7, j0, j2, j3, j4⟩ := hJ; have hu := ple_up (w' := w'.alloc (.cells #[.int .i64 5, .int .i64 0, .slice none 0 0, .slice (some ⟨b, 0, none⟩) 2 2] 39)) i2.ple; have hm := ((Mem.start w' H i2.ple).new' #[.int .i64 5, .int .i64 0, .slice none 0 0, .slice (some ⟨b, 0, none⟩) 2 2] 39 (n := w'.heap.size) rfl).asOwn 0 rfl mono_FmR (sz := 4) (xs := [orF]) (n := 1) (by simp) (by simp [maxLen]) rfl ⟨_, [], rfl, rfl, mono_FmR _ _ _ _ i2.le hO5, rfl⟩; have hr := hm.repUp 0 rfl; go_simp; exact hK _ _ (hS.alloc' _) ⟨_, b', i2.up (Ext.new _ _), i7, j0, fun _ => ⟨_, rfl, hr⟩, fun h => (j3 h).imp fun g h => ⟨h.1, h.2.mono mono_FmR hu⟩, fun h => (j4 h).imp fun g h => ⟨h.1, h.2.mono mono_FmR hu⟩⟩))); (try simp only [List.nil_append, List.cons_append]))
  (refine Pj.walkI_step rfl (by simp) rfl ?_ ?_; (focus (intro A w' dn hS hJ hd0 hdn hA K hK; (try simp only [List.map_cons, List.map_nil, Pj.knows, Pj.Is, Pj.Any, Op.operands, Call.operands, List.lookup_cons, List.lookup_nil, Nat.reduceBEq, Bool.false_eq_true, if_false, if_true, Act.eval, Array.getD_eq_getD_getElem?, List.getElem?_toArray, List.getElem?_cons_succ, List.getElem?_cons_zero, Option.getD_some, and_true, true_and, List.append_toArray, List.nil_append, List.cons_append, List.toList_toArray, Array.toList_append, Option.toArray, List.append_nil] at hA); (obtain ⟨H, b', i2, i7, j0, j2, j3, j4⟩ := hJ; obtain ⟨g, e2, k2⟩ := j2 (hdn 2 (List.contains_iff_mem.1 (by kernel_rfl))); unfold Pj.sl at e2; simp only [Array.getD_eq_getD_getElem?] at e2; go_simp; exact hK _ _ hS ⟨H, b', i2, i7, j0, j2, fun _ => ⟨g, rfl, k2⟩, j4⟩))); (try simp only [List.nil_append, List.cons_append]))
  (refine Pj.walkI_step rfl (by simp) rfl ?_ ?_; (focus (intro A w' dn hS hJ hd0 hdn hA K hK; (try simp only [List.map_cons, List.map_nil, Pj.knows, Pj.Is, Pj.Any, Op.operands, Call.operands, List.lookup_cons, List.lookup_nil, Nat.reduceBEq, Bool.false_eq_true, if_false, if_true, Act.eval, Array.getD_eq_getD_getElem?, List.getElem?_toArray, List.getElem?_cons_succ, List.getElem?_cons_zero, Option.getD_some, and_true, true_and, List.append_toArray, List.nil_append, List.cons_append, List.toList_toArray, Array.toList_append, Option.toArray, List.append_nil] at hA); (obtain ⟨H, b', i2, i7, j0, j2, j3, j4⟩ := hJ; obtain ⟨g, e2, k2⟩ := j3 (hdn 3 (List.contains_iff_mem.1 (by kernel_rfl))); have e0 := j0 (hdn 0 (List.contains_iff_mem.1 (by kernel_rfl))); unfold Pj.sl at e2 e0; simp only [Array.getD_eq_getD_getElem?] at e2 e0; go_simp; refine (of2_c (H := H) 4 (clsF 2) or1 none 0 none 0 none 0 (some ⟨g, 0, none⟩) 1 w' i4 i2.ple (clsF_R _ (by simp [I64])) (FmR.of (by simp [or1, Fm.op, I64]) (by simp [or1, Fm.n, I64]) (SliceRep.nil _ _ _) k2)).mono ?_; rintro e w'' ⟨g2, rfl, hx'', hr''⟩; have hu := ple_up (w' := w'') i2.ple; exact hK _ _ (hS.then hx'') ⟨_, b', i2.up hx'', i7, j0, fun h => (j2 h).imp fun g h => ⟨h.1, h.2.mono mono_FmR hu⟩, fun h => (j3 h).imp fun g h => ⟨h.1, h.2.mono mono_FmR hu⟩, fun _ => ⟨g2, rfl, hr''⟩⟩))); (try simp only [List.nil_append, List.cons_append]))
  (refine Pj.walkI_step rfl (by simp) rfl ?_ ?_; (focus (intro A w' dn hS hJ hd0 hdn hA K hK; (try simp only [List.map_cons, List.map_nil, Pj.knows, Pj.Is, Pj.Any, Op.operands, Call.operands, List.lookup_cons, List.lookup_nil, Nat.reduceBEq, Bool.false_eq_true, if_false, if_true, Act.eval, Array.getD_eq_getD_getElem?, List.getElem?_toArray, List.getElem?_cons_succ, List.getElem?_cons_zero, Option.getD_some, and_true, true_and, List.append_toArray, List.nil_append, List.cons_append, List.toList_toArray, Array.toList_append, Option.toArray, List.append_nil] at hA); (obtain ⟨H, b', i2, i7, j0, j2, j3, j4⟩ := hJ; have hd5 : dn 5 = false := hd0; rw [hd5] at i2; have i3 := i2.fillNop 0 rfl (Ext.new w' (.cells zeroFc 39)) (Own.new w' zeroFc 39) (Nat.le_refl _); go_simp; exact hK _ _ (hS.alloc' _) ⟨H, w'.heap.size, i3, fun _ => rfl, j0, j2, j3, j4⟩))); (try simp only [List.nil_append, List.cons_append]))
  (refine Pj.walkI_nil ?_; simp only [List.nil_append, List.cons_append, Pj.fins, Pj.Is, Pj.Any, forall_eq, true_implies, Act.put, List.setIfInBounds_toArray, List.set_cons_zero, List.set_cons_succ])
  intro w8 hx8 v27 v29 v30 v31 v7 hJ
  obtain ⟨H, b7, i2, i7, -, -, -, j4⟩ := hJ
  have e7 : v7 = .pointer (some ⟨b7, 0, none⟩) := i7 rfl
  obtain ⟨g4, e31, hR⟩ := j4 rfl
  have e31' : v31 = .agg #[.int .i64 4, .int .i64 0, .slice none 0 0, .slice (some ⟨g4, 0, none⟩) 2 2] := e31
  have hM : Mem w7 (ph w7) [box b7 zeroFc 39] H w8 := i2
  clear i2 i7 j4 e31 u0 u1 u2 u3 ul
  subst e7 e31'
  obtain ⟨va, vc, rfl, -, hA⟩ := hA.form
  obtain ⟨uc, uf⟩ := (hM.box 0 rfl).facts
  have u0 : _ = some (Value.int .i64 0) := uc 0
  have u1 : _ = some (Value.int .i64 0) := uc 1
  have u2 : _ = some (Value.slice none 0 0) := uc 2
  have u3 : _ = some (Value.slice none 0 0) := uc 3
  have ul := (hM.box 0 rfl).lt
  have hM9 := hM.set4 0 rfl (.int .i64 4) (.int .i64 0) (.slice none 0 0) (.slice (some ⟨g4, 0, none⟩) 2 2)
  simp only [List.set_cons_zero] at hM9
  clear uc hM
  go_upto_region 6 with (fail)
  generalize ((((w8.setCell _ _).setCell _ _).setCell _ _).setCell _ _) = w9 at *
  have hx9 := hM9.ex
  have hW9 : FmR (ph w9) [.int .i64 4, .int .i64 0, .slice none 0 0, .slice (some ⟨g4, 0, none⟩) 2 2] wantF := mono_FmR _ _ _ _ hM9.ple (FmR.of (f := wantF) (a3 := none) (c3 := 0) (a4 := some ⟨g4, 0, none⟩) (c4 := 2) (by simp [wantF, Fm.op, I64]) (by simp [wantF, Fm.n, I64]) (SliceRep.nil _ _ _) hR)
  replace hF5 := mono_FmR _ _ _ _ hx9.ple hF5
  replace hA := hA.mono mono_FmR hx9.ple
  replace o3 := o3.keep hx9
  replace hxw := hxw.then hx9
  clear u0 u1 u2 u3 ul uf
  obtain ⟨uc, -⟩ := o3.facts
  have u0 : _ = some (Value.int .i64 wantF.op) := uc 0
  have u1 : _ = some (Value.int .i64 wantF.n) := uc 1
  have u2 : _ = some (Value.slice b3 wantF.inn.length d3) := uc 2
  have u3 : _ = some (Value.slice b4 wantF.kids.length d4) := uc 3
  have ul := o3.lt
  obtain ⟨tc, -⟩ := (hM9.box 0 rfl).facts
  have t0 : _ = some (Value.int .i64 4) := tc 0
  have t1 : _ = some (Value.int .i64 0) := tc 1
  have t2 : _ = some (Value.slice none 0 0) := tc 2
  have t3 : _ = some (Value.slice (some ⟨g4, 0, none⟩) 2 2) := tc 3
  have tl := (hM9.box 0 rfl).lt
  have hwb : wantF.bulk ≤ 100000 := by simp [wantF, or1, orF, clsF, Fm.bulk, fbulks]
  clear uc tc hM9 hR
  go_wp2_with fail
  refine RetV_at (rsame_c wantF wantF _ _ _ hF5 hW9 hwb hwb) ?_
  intro wa hxa
  rw [show B (wantF = wantF) = true from B_iff.2 rfl]
  replace hA := hA.mono mono_FmR hxa.ple
  replace hxw := hxw.then hxa
  clear hF5 hW9 o3 hxa u0 u1 u2 u3 ul t0 t1 t2 t3 tl
  go_wp2_with fail
  refine RetV_at (class_c 0 _) ?_
  intro wb hxb
  go_wp2_with fail
  refine RetV_at (class_c 2 _) ?_
  intro wc hxc
  go_wp2_with fail
  refine (of2_c (H := noH) 4 (clsF 0) (clsF 2) none 0 none 0 none 0 none 0 wc i4 (noH_le _) (clsF_R _ (by simp [I64])) (clsF_R _ (by simp [I64]))).mono ?_
  rintro e wd ⟨gd, rfl, hxd, hkd⟩
  go_wp2_with fail
  refine RetV_at (class_c 1 _) ?_
  intro we hxe
  go_wp2_with fail
  refine RetV_at (class_c 2 _) ?_
  intro wf hxf
  go_wp2_with fail
  refine (of2_c (H := noH) 4 (clsF 1) (clsF 2) none 0 none 0 none 0 none 0 wf i4 (noH_le _) (clsF_R _ (by simp [I64])) (clsF_R _ (by simp [I64]))).mono ?_
  rintro e wg ⟨gg, rfl, hxg, hkg⟩
  have hxx := ((hxb.then hxc).then hxd).then ((hxe.then hxf).then hxg)
  have hk1 : FmsR (ph wg) (.slice (some ⟨gd, 0, none⟩) 2 2) [clsF 0, clsF 2] := (hkd.mono mono_FmR (fun k o hk => by
    unfold up at hk; split at hk
    · cases hk
    · exact hk)).mono mono_FmR ((hxe.then hxf).then hxg).ple
  have hk2 : FmsR (ph wg) (.slice (some ⟨gg, 0, none⟩) 2 2) [clsF 1, clsF 2] := hkg.mono mono_FmR (fun k o hk => by
    unfold up at hk; split at hk
    · cases hk
    · exact hk)
  have f1 : FmR (ph wg) [.int .i64 4, .int .i64 0, .slice none 0 0, .slice (some ⟨gd, 0, none⟩) 2 2] (.mk 4 0 [] [clsF 0, clsF 2]) := FmR.of (f := .mk 4 0 [] [clsF 0, clsF 2]) (a3 := none) (c3 := 0) (a4 := some ⟨gd, 0, none⟩) (c4 := 2) (by simp [Fm.op, I64]) (by simp [Fm.n, I64]) (SliceRep.nil _ _ _) hk1
  have f2 : FmR (ph wg) [.int .i64 4, .int .i64 0, .slice none 0 0, .slice (some ⟨gg, 0, none⟩) 2 2] (.mk 4 0 [] [clsF 1, clsF 2]) := FmR.of (f := .mk 4 0 [] [clsF 1, clsF 2]) (a3 := none) (c3 := 0) (a4 := some ⟨gg, 0, none⟩) (c4 := 2) (by simp [Fm.op, I64]) (by simp [Fm.n, I64]) (SliceRep.nil _ _ _) hk2
  have hm := ((Mem.start wg (ph wg) (fun _ _ h => h)).new' #[.int .i64 4, .int .i64 0, .slice none 0 0, .slice (some ⟨gd, 0, none⟩) 2 2, .int .i64 4, .int .i64 0, .slice none 0 0, .slice (some ⟨gg, 0, none⟩) 2 2] 39 (n := wg.heap.size) rfl).asOwn 0 rfl mono_FmR (sz := 4) (xs := wantA) (n := 2) (by simp [wantA]) (by simp [maxLen]) rfl ⟨_, _, rfl, rfl, f1, _, [], rfl, rfl, f2, rfl⟩
  have hr := hm.rep 0 rfl
  have hA2 := hA.mono mono_FmR (hxx.then hm.ex).ple
  have hsl := Lib.hid (fun W (e : Ext _ W) => samelist_c wantA wantA _ _ W (hA2.mono mono_FmR e.ple) (hr.mono mono_FmR e.ple) (by simp [wantA, clsF, sumN, Fm.bulk, fbulks]) (by simp [wantA, clsF, sumN, Fm.bulk, fbulks]))
  replace hxw := hxw.then (hxx.then hm.ex)
  clear hm hr hA2 hA hk1 hk2 f1 f2 hkd hkg hxb hxc hxd hxe hxf hxg hxx
  go_wp2_with fail
  refine RetV_at (hsl.out _ (Ext.rfl' _)) ?_
  intro wh hxh
  rw [show B True = true from B_iff.2 trivial]
  go_wp2_with fail
  go_ret
  exact ⟨rfl, hxw.then hxh⟩
end Go.Proofs.YtcbmgajaaechjaaGreat
