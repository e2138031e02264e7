/- Lemmas for CB, part 17: the documented example of claims: class, of, lives, and more. -/
import Derived.Test.YtnpnjcaomakehaaGreatRows
import Derived.ProofKit
import Derived.OpenShut
import Derived.Carry
import Derived.SizedLaws
import Derived.Test.YtnpnjcaomakehaaGreatCB00
import Derived.Test.YtnpnjcaomakehaaGreatCB04
import Derived.Test.YtnpnjcaomakehaaGreatCB09
import Derived.Test.YtnpnjcaomakehaaGreatCB11
import Derived.Test.YtnpnjcaomakehaaGreatCB13
import Derived.Test.YtnpnjcaomakehaaGreatCB14
import Derived.Test.YtnpnjcaomakehaaGreatCB15
set_option linter.unusedSimpArgs false
set_option linter.unusedVariables false
namespace Go.Proofs.YtnpnjcaomakehaaGreat
open Go.RowKit Go.Shelf
def clsF (n : Int) : Fm := .mk 1 n [] []
theorem clsF_R (H : PH) {n : Int} (hn : I64 n) : FmR H (fmC (clsF n) none 0 none 0) (clsF n) := FmR.of (by simp [clsF, Fm.op, I64]) (by simpa [clsF, Fm.n] using hn) (SliceRep.nil _ _ _) (SliceRep.nil _ _ _)
theorem class_c (n : Int) (w : World) : Calls Tryz.prog 48 #[.int .i64 n] w (RetV w (.agg #[.int .i64 1, .int .i64 n, .slice none 0 0, .slice none 0 0])) := by
  go_enter Tryz.func48, Tryz.ntmps48
  go_wp2_with fail
  have ho := Own.new w #[.int .i64 1, .int .i64 n, .slice none 0 0, .slice none 0 0] 50
  have hx := Ext.new w (.cells #[.int .i64 1, .int .i64 n, .slice none 0 0, .slice none 0 0] 50)
  generalize w.alloc _ = w9 at *
  obtain ⟨q, -⟩ := ho.facts
  have q0 : _ = some (Value.int .i64 1) := q 0
  have q1 : _ = some (Value.int .i64 n) := q 1
  have q2 : _ = some (Value.slice none 0 0) := q 2
  have q3 : _ = some (Value.slice none 0 0) := q 3
  refine bodyPost_ret (v := .agg #[.int .i64 1, .int .i64 n, .slice none 0 0, .slice none 0 0]) (by simp [results, Tryz.results48, go_sem, q0, q1, q2, q3]) rfl ?_
  exact ⟨rfl, hx⟩
theorem of2_c {H : PH} (op : Int) (f g : Fm) (a3 : Option Addr) (c3 : Nat) (a4 : Option Addr) (c4 : Nat) (b3 : Option Addr) (d3 : Nat) (b4 : Option Addr) (d4 : Nat) (w : World) (ho : I64 op) (hl : PLe H (ph w)) (hf : FmR H (fmC f a3 c3 a4 c4) f) (hg : FmR H (fmC g b3 d3 b4 d4) g) :
    Calls Tryz.prog 47 #[.int .i64 op, fmV f a3 c3 a4 c4, fmV g b3 d3 b4 d4] w fun e w' => ∃ b, e = .returned (.agg #[.int .i64 op, .int .i64 0, .slice none 0 0, .slice (some ⟨b, 0, none⟩) 2 2]) ∧ Ext w w' ∧ FmsR (up H w w') (.slice (some ⟨b, 0, none⟩) 2 2) [f, g] := by
  unfold fmC at hf hg
  go_enter Tryz.func47, Tryz.ntmps47
  go_wp2_with fail
  have hM := (((((Mem.start w H hl).ext (Ext.new w (.cells #[.int .i64 f.op, .int .i64 f.n, .slice a3 f.inn.length c3, .slice a4 f.kids.length c4] 50))).ext (Ext.new _ (.cells #[.int .i64 g.op, .int .i64 g.n, .slice b3 g.inn.length d3, .slice b4 g.kids.length d4] 50))).ext (Ext.new _ (.cells #[.int .i64 op, .int .i64 0, .slice none 0 0, .slice (some ⟨w.heap.size + 1 + 1 + 1, 0, none⟩) 2 2] 50))).new' #[.int .i64 f.op, .int .i64 f.n, .slice a3 f.inn.length c3, .slice a4 f.kids.length c4, .int .i64 g.op, .int .i64 g.n, .slice b3 g.inn.length d3, .slice b4 g.kids.length d4] 50 (n := w.heap.size + 1 + 1 + 1) (by simp)).asOwn 0 rfl mono_FmR (sz := 4) (xs := [f, g]) (n := 2) (by simp) (by simp [maxLen]) rfl ⟨_, _, rfl, rfl, hf, _, [], rfl, rfl, hg, rfl⟩
  have hk := hM.repUp 0 rfl
  have hx := hM.ex
  have ho2 : Own ((((w.alloc (.cells #[.int .i64 f.op, .int .i64 f.n, .slice a3 f.inn.length c3, .slice a4 f.kids.length c4] 50)).alloc (.cells #[.int .i64 g.op, .int .i64 g.n, .slice b3 g.inn.length d3, .slice b4 g.kids.length d4] 50)).alloc (.cells #[.int .i64 op, .int .i64 0, .slice none 0 0, .slice (some ⟨w.heap.size + 1 + 1 + 1, 0, none⟩) 2 2] 50)).alloc (.cells #[.int .i64 f.op, .int .i64 f.n, .slice a3 f.inn.length c3, .slice a4 f.kids.length c4, .int .i64 g.op, .int .i64 g.n, .slice b3 g.inn.length d3, .slice b4 g.kids.length d4] 50)) (w.heap.size + 1 + 1) #[.int .i64 op, .int .i64 0, .slice none 0 0, .slice (some ⟨w.heap.size + 1 + 1 + 1, 0, none⟩) 2 2] 50 := oE
  clear hM
  generalize World.alloc _ _ = w9 at *
  obtain ⟨q, -⟩ := ho2.facts
  have q0 : _ = some (Value.int .i64 op) := q 0
  have q1 : _ = some (Value.int .i64 0) := q 1
  have q2 : _ = some (Value.slice none 0 0) := q 2
  have q3 : _ = some (Value.slice (some ⟨w.heap.size + 1 + 1 + 1, 0, none⟩) 2 2) := q 3
  refine bodyPost_ret (v := .agg #[.int .i64 op, .int .i64 0, .slice none 0 0, .slice (some ⟨w.heap.size + 1 + 1 + 1, 0, none⟩) 2 2]) (by simp [results, Tryz.results47, go_sem, q0, q1, q2, q3]) rfl ?_
  exact ⟨w.heap.size + 1 + 1 + 1, rfl, hx, hk⟩
def orF : Fm := .mk 5 0 [] [clsF 0, clsF 1]
def LV : List Cl := [⟨[], orF⟩, ⟨[0], clsF 2⟩]
def or1 : Fm := .mk 5 0 [] [orF]
def wantF : Fm := .mk 4 0 [] [clsF 2, or1]
def wantA : List Fm := [.mk 4 0 [] [clsF 0, clsF 2], .mk 4 0 [] [clsF 1, clsF 2]]
theorem lv_mean : meaningE LV 1 = (wantF, 0) := by kernel_rfl
theorem lv_alts : altsE LV 1 = (wantA, 0) := by kernel_rfl
theorem ints1 {w : World} {g : Nat} {x : Int} {T : TypeId} (ho : Own w g #[.int .i64 x] T) (hx : I64 x) : IntsR (ph w) (.slice (some ⟨g, 0, none⟩) 1 1) [x] := by
  refine ⟨_, 1, rfl, Nat.le_refl _, by simp [maxLen], .inr ⟨g, 0, rfl, ⟨[.int .i64 x], rfl, fun j hj => ?_, rfl, hx⟩, trivial⟩⟩
  obtain rfl : j = 0 := by omega
  rw [← cell_ph]
  exact ho.facts.1 0
theorem orF_R {H : PH} {b : Nat} (h : FmsR H (.slice (some ⟨b, 0, none⟩) 2 2) [clsF 0, clsF 1]) : FmR H [.int .i64 5, .int .i64 0, .slice none 0 0, .slice (some ⟨b, 0, none⟩) 2 2] orF :=
  FmR.of (f := orF) (a3 := none) (c3 := 0) (a4 := some ⟨b, 0, none⟩) (c4 := 2) (by simp [orF, Fm.op, I64]) (by simp [orF, Fm.n, I64]) (SliceRep.nil _ _ _) h
theorem lv_bulk : ∀ c ∈ LV, c.body.bulk ≤ 900000 := by
  intro c hc
  simp only [LV, List.mem_cons, List.not_mem_nil, or_false] at hc
  rcases hc with rfl | rfl <;> simp [orF, clsF, Fm.bulk, fbulks]
def LvJ (w : World) : Pj.Inv := fun dn s wx => ∃ (H : PH) (b : Nat), Mem w (ph w) [if dn 5 then box b zeroFc 50 else nop] H wx ∧ (dn 5 = true → s 7 = .pointer (some ⟨b, 0, none⟩)) ∧
  (dn 0 = true → s 27 = .agg #[.int .i64 1, .int .i64 2, .slice none 0 0, .slice none 0 0]) ∧
  (dn 2 = true → ∃ g, s 29 = .slice (some ⟨g, 0, none⟩) 1 1 ∧ FmsR H (.slice (some ⟨g, 0, none⟩) 1 1) [orF]) ∧
  (dn 3 = true → ∃ g, s 30 = .agg #[.int .i64 5, .int .i64 0, .slice none 0 0, .slice (some ⟨g, 0, none⟩) 1 1] ∧ FmsR H (.slice (some ⟨g, 0, none⟩) 1 1) [orF]) ∧
  (dn 4 = true → ∃ g, s 31 = .agg #[.int .i64 4, .int .i64 0, .slice none 0 0, .slice (some ⟨g, 0, none⟩) 2 2] ∧ FmsR H (.slice (some ⟨g, 0, none⟩) 2 2) [clsF 2, or1])
set_option maxRecDepth 100000 in
set_option maxHeartbeats 4000000 in
theorem lives_c (w : World) : Calls Tryz.prog 18 #[] w (RetV w (.bool true)) := by
  have i5 : I64 5 := by simp [I64]
  have i4 : I64 4 := by simp [I64]
  go_enter Tryz.func18, Tryz.ntmps18
  go_wp2_with fail
  refine RetV_at (class_c 0 _) ?_
  intro w1 hx1
  go_wp2_with fail
  refine RetV_at (class_c 1 _) ?_
  intro w2 hx2
  go_wp2_with fail
  refine (of2_c (H := noH) 5 (clsF 0) (clsF 1) none 0 none 0 none 0 none 0 w2 i5 (noH_le _) (clsF_R _ (by simp [I64])) (clsF_R _ (by simp [I64]))).mono ?_
  rintro e w3 ⟨b, rfl, hx3, hk⟩
  have hM := ((((Mem.start w noH (noH_le _)).ext hx1).ext hx2).up hx3).new' #[.int .i64 5, .int .i64 0, .slice none 0 0, .slice (some ⟨b, 0, none⟩) 2 2] 50 (n := w3.heap.size) rfl
  simp only [List.nil_append] at hM
  have hOr := orF_R hk
  generalize up noH w2 w3 = H3 at *
  clear hx1 hx2 hx3 hk
  go_upto_region 2 with (fail)
  generalize w3.alloc _ = W at *
  generalize w3.heap.size = B1 at *
  obtain ⟨uc, -⟩ := (hM.box 0 rfl).facts
  have u0 : _ = some (Value.int .i64 5) := uc 0
  have u1 : _ = some (Value.int .i64 0) := uc 1
  have u2 : _ = some (Value.slice none 0 0) := uc 2
  have u3 : _ = some (Value.slice (some ⟨b, 0, none⟩) 2 2) := uc 3
  have ul := (hM.box 0 rfl).lt
  have hlW := hM.ple
  clear uc
  (refine wp_region_I 7 (by kernel_rfl) (by kernel_rfl) ?_; simp only [List.toList_toArray, List.take_succ_cons, List.take_zero, List.drop_succ_cons, List.drop_zero])
  iterate 2 (refine wiA rfl (by simp) rfl ?_; (try simp only [List.nil_append, List.cons_append]))
  (refine walkI_step (NewSl W #[.int .i64 0] 3 1) rfl (by simp) rfl (stab_NewSl _ _ _ _) ?_ ?_; (focus (intro A w' hS hA K hK; (simp only [List.map_cons, List.map_nil, knows, Is, Op.operands, Call.operands, List.lookup_cons, List.lookup_nil, Nat.reduceBEq, Bool.false_eq_true, if_false, if_true, Act.eval, Array.getD_eq_getD_getElem?, List.getElem?_toArray, List.getElem?_cons_succ, List.getElem?_cons_zero, Option.getD_some, and_true, true_and, List.append_toArray, List.nil_append, List.cons_append, List.toList_toArray, Array.toList_append, Option.toArray, List.append_nil] at hA); (have hs' := hS.size; go_simp; exact hK _ _ (Ext.new _ _) ⟨_, rfl, Own.new _ _ _, by omega⟩))); (try simp only [List.nil_append, List.cons_append]))
  (refine walkI_is (u := ?_) rfl (by simp) rfl ?_ ?_; rotate_left; (focus (intro A w' hS hA K hK; (simp only [List.map_cons, List.map_nil, knows, Is, Op.operands, Call.operands, List.lookup_cons, List.lookup_nil, Nat.reduceBEq, Bool.false_eq_true, if_false, if_true, Act.eval, Array.getD_eq_getD_getElem?, List.getElem?_toArray, List.getElem?_cons_succ, List.getElem?_cons_zero, Option.getD_some, and_true, true_and, List.append_toArray, List.nil_append, List.cons_append, List.toList_toArray, Array.toList_append, Option.toArray, List.append_nil] at hA); first | (go_simp; refine RetV_at (class_c 2 _) ?_; intro w'' hx''; exact hK _ hx'') | (obtain ⟨hSc, hSf, hSs⟩ := hS.cells; go_simp; exact hK _ xN))); (try simp only [List.nil_append, List.cons_append]))
  (refine walkI_step ((fun v w' => ∃ g, v = .agg #[.slice (some ⟨g, 0, none⟩) 1 1, .int .i64 1, .int .i64 2, .slice none 0 0, .slice none 0 0] ∧ Own w' g #[.int .i64 0] 3)) rfl (by simp) rfl ((fun v w w' _ ⟨g, h1, h2⟩ e => ⟨g, h1, h2.keep e⟩)) ?_ ?_; (focus (intro A w' hS hA K hK; (simp only [List.map_cons, List.map_nil, knows, Is, Op.operands, Call.operands, List.lookup_cons, List.lookup_nil, Nat.reduceBEq, Bool.false_eq_true, if_false, if_true, Act.eval, Array.getD_eq_getD_getElem?, List.getElem?_toArray, List.getElem?_cons_succ, List.getElem?_cons_zero, Option.getD_some, and_true, true_and, List.append_toArray, List.nil_append, List.cons_append, List.toList_toArray, Array.toList_append, Option.toArray, List.append_nil] at hA); (obtain ⟨⟨g, hA1, hA2, -⟩, hA4⟩ := hA; go_simp; exact hK _ _ (Ext.rfl' _) ⟨g, rfl, hA2⟩))); (try simp only [List.nil_append, List.cons_append]))
  (refine walkI_step ((fun v w' => ClsR (ph w') v LV)) rfl (by simp) rfl ((fun v w w' _ h e => h.mono mono_ClR e.ple)) ?_ ?_; (focus (intro A w' hS hA K hK; (simp only [List.map_cons, List.map_nil, knows, Is, Op.operands, Call.operands, List.lookup_cons, List.lookup_nil, Nat.reduceBEq, Bool.false_eq_true, if_false, if_true, Act.eval, Array.getD_eq_getD_getElem?, List.getElem?_toArray, List.getElem?_cons_succ, List.getElem?_cons_zero, Option.getD_some, and_true, true_and, List.append_toArray, List.nil_append, List.cons_append, List.toList_toArray, Array.toList_append, Option.toArray, List.append_nil] at hA); (obtain ⟨hA4, g, hA1, hA2⟩ := hA; have hm := ((Mem.start w' (ph w') (fun _ _ h => h)).new' #[.slice none 0 0, .int .i64 5, .int .i64 0, .slice none 0 0, .slice (some ⟨b, 0, none⟩) 2 2, .slice (some ⟨g, 0, none⟩) 1 1, .int .i64 1, .int .i64 2, .slice none 0 0, .slice none 0 0] 58 (n := w'.heap.size) rfl).asOwn 0 rfl mono_ClR (sz := 5) (xs := LV) (n := 2) (by simp [LV]) (by simp [maxLen]) rfl ⟨_, _, rfl, rfl, ⟨_, _, rfl, SliceRep.nil _ _ _, mono_FmR _ _ _ _ (hlW.trans hS.ple) hOr⟩, _, [], rfl, rfl, ⟨_, _, rfl, ints1 hA2 (by simp [I64]), clsF_R _ (by simp [I64])⟩, rfl⟩; go_simp; exact hK _ _ (Ext.new _ _) (hm.rep 0 rfl)))); (try simp only [List.nil_append, List.cons_append]))
  (refine walkI_step ((fun v w' => ClsR (ph w') v LV)) rfl (by simp) rfl ((fun v w w' _ h e => h.mono mono_ClR e.ple)) ?_ ?_; (focus (intro A w' hS hA K hK; (simp only [List.map_cons, List.map_nil, knows, Is, Op.operands, Call.operands, List.lookup_cons, List.lookup_nil, Nat.reduceBEq, Bool.false_eq_true, if_false, if_true, Act.eval, Array.getD_eq_getD_getElem?, List.getElem?_toArray, List.getElem?_cons_succ, List.getElem?_cons_zero, Option.getD_some, and_true, true_and, List.append_toArray, List.nil_append, List.cons_append, List.toList_toArray, Array.toList_append, Option.toArray, List.append_nil] at hA); (go_simp; exact hK _ _ (Ext.rfl' _) hA))); (try simp only [List.nil_append, List.cons_append]))
  (refine walkI_nil ?_; simp only [List.nil_append, List.cons_append, fins, Is, forall_eq, Act.put, List.setIfInBounds_toArray, List.set_cons_zero, List.set_cons_succ])
  rintro w4 hx4 v13 - v15 - v16 - v2 hcl
  replace hM := hM.ext hx4
  clear u0 u1 u2 u3 ul hx4
  go_wp2_with fail
  refine (meaning_c _ LV 1 _ hcl lv_bulk).mono ?_
  rintro e w5 ⟨b3, d3, b4, d4, rfl, hx5, hF5⟩
  rw [lv_mean] at hF5 ⊢
  dsimp only at hF5 ⊢
  have o1 := (hM.box 0 rfl).keep hx5
  have hxw := hM.ex.then hx5
  replace hcl := hcl.mono mono_ClR hx5.ple
  have hO5 := mono_FmR _ _ _ _ (hM.ple.trans hx5.ple) hOr
  clear hM hOr hlW
  go_upto_region 4 with (fail)
  have e5 := Ext.new w5 (.cells #[.int .i64 wantF.op, .int .i64 wantF.n, .slice b3 wantF.inn.length d3, .slice b4 wantF.kids.length d4] 50)
  have o3 := Own.new w5 #[.int .i64 wantF.op, .int .i64 wantF.n, .slice b3 wantF.inn.length d3, .slice b4 wantF.kids.length d4] 50
  replace o1 := o1.keep e5
  replace hxw := hxw.then e5
  replace hcl := hcl.mono mono_ClR e5.ple
  replace hO5 := mono_FmR _ _ _ _ e5.ple hO5
  replace hF5 := mono_FmR _ _ _ _ e5.ple hF5
  generalize w5.alloc _ = w6 at *
  generalize w5.heap.size = B3 at *
  clear e5 hx5
  go_wp2_with fail
  refine (alts_c _ LV 1 _ hcl lv_bulk).mono ?_
  rintro e w7 ⟨v5, rfl, hx7, hA⟩
  rw [lv_alts] at hA ⊢
  dsimp only at hA ⊢
  replace o1 := o1.keep hx7
  replace o3 := o3.keep hx7
  replace hxw := hxw.then hx7
  replace hO5 := mono_FmR _ _ _ _ hx7.ple hO5
  replace hF5 := mono_FmR _ _ _ _ hx7.ple hF5
  clear hcl hx7
  go_upto_region 5 with (fail)
  obtain ⟨uc, -⟩ := o1.facts
  have u0 : _ = some (Value.int .i64 5) := uc 0
  have u1 : _ = some (Value.int .i64 0) := uc 1
  have u2 : _ = some (Value.slice none 0 0) := uc 2
  have u3 : _ = some (Value.slice (some ⟨b, 0, none⟩) 2 2) := uc 3
  have ul := o1.lt
  clear uc
  (refine Pj.wp_region_J 6 (LvJ w7) (by kernel_rfl) (by kernel_rfl) (⟨ph w7, 0, ((Mem.start w7 (ph w7) (fun _ _ h => h)).ext (Ext.rfl' w7).drew').pick [0] (by decide), by simp, by simp, by simp, by simp, by simp⟩) ?_; simp only [List.toList_toArray, List.take_succ_cons, List.take_zero, List.drop_succ_cons, List.drop_zero])
  (refine Pj.walkI_step rfl (by simp) rfl ?_ ?_; (focus (intro A w' dn hS hJ hd0 hdn hA K hK; (try simp only [List.map_cons, List.map_nil, Pj.knows, Pj.Is, Pj.Any, Op.operands, Call.operands, List.lookup_cons, List.lookup_nil, Nat.reduceBEq, Bool.false_eq_true, if_false, if_true, Act.eval, Array.getD_eq_getD_getElem?, List.getElem?_toArray, List.getElem?_cons_succ, List.getElem?_cons_zero, Option.getD_some, and_true, true_and, List.append_toArray, List.nil_append, List.cons_append, List.toList_toArray, Array.toList_append, Option.toArray, List.append_nil] at hA); (obtain ⟨H, b', i2, i7, j0, j2, j3, j4⟩ := hJ; go_simp; refine RetV_at (class_c 2 _) ?_; intro w'' hx''; exact hK _ _ (hS.then hx'') ⟨H, b', i2.ext hx'', i7, fun _ => rfl, j2, j3, j4⟩))); (try simp only [List.nil_append, List.cons_append]))
  (refine Pj.walkI_is (u := ?_) rfl (by simp) rfl (fun dn s w h => h) ?_ ?_; rotate_left; (focus (intro A w' dn hS hJ hdn hA K hK; (try simp only [List.map_cons, List.map_nil, Pj.knows, Pj.Is, Pj.Any, Op.operands, Call.operands, List.lookup_cons, List.lookup_nil, Nat.reduceBEq, Bool.false_eq_true, if_false, if_true, Act.eval, Array.getD_eq_getD_getElem?, List.getElem?_toArray, List.getElem?_cons_succ, List.getElem?_cons_zero, Option.getD_some, and_true, true_and, List.append_toArray, List.nil_append, List.cons_append, List.toList_toArray, Array.toList_append, Option.toArray, List.append_nil] at hA); (obtain ⟨hSc, hSf, hSs⟩ := hS.cells; go_simp; exact hK))); (try simp only [List.nil_append, List.cons_append]))
  (refine Pj.walkI_step rfl (by simp) rfl ?_ ?_; (focus (intro A w' dn hS hJ hd0 hdn hA K hK; (try simp only [List.map_cons, List.map_nil, Pj.knows, Pj.Is, Pj.Any, Op.operands, Call.operands, List.lookup_cons, List.lookup_nil, Nat.reduceBEq, Bool.false_eq_true, if_false, if_true, Act.eval, Array.getD_eq_getD_getElem?, List.getElem?_toArray, List.getElem?_cons_succ, List.getElem?_cons_zero, Option.getD_some, and_true, true_and, List.append_toArray, List.nil_append, List.cons_append, List.toList_toArray, Array.toList_append, Option.toArray, List.append_nil] at hA); (obtain ⟨H, b', i2, i7, j0, j2, j3, j4⟩ := hJ; have hu := ple_up (w' := w'.alloc (.cells #[.int .i64 5, .int .i64 0, .slice none 0 0, .slice (some ⟨b, 0, none⟩) 2 2] 50)) i2.ple; have hm := ((Mem.start w' H i2.ple).new' #[.int .i64 5, .int .i64 0, .slice none 0 0, .slice (some ⟨b, 0, none⟩) 2 2] 50 (n := w'.heap.size) rfl).asOwn 0 rfl mono_FmR (sz := 4) (xs := [orF]) (n := 1) (by simp) (by simp [maxLen]) rfl ⟨_, [], rfl, rfl, mono_FmR _ _ _ _ i2.le hO5, rfl⟩; have hr := hm.repUp 0 rfl; go_simp; exact hK _ _ (hS.alloc' _) ⟨_, b', i2.up (Ext.new _ _), i7, j0, fun _ => ⟨_, rfl, hr⟩, fun h => (j3 h).imp fun g h => ⟨h.1, h.2.mono mono_FmR hu⟩, fun h => (j4 h).imp fun g h => ⟨h.1, h.2.mono mono_FmR hu⟩⟩))); (try simp only [List.nil_append, List.cons_append]))
  (refine Pj.walkI_step rfl (by simp) rfl ?_ ?_; (focus (intro A w' dn hS hJ hd0 hdn hA K hK; (try simp only [List.map_cons, List.map_nil, Pj.knows, Pj.Is, Pj.Any, Op.operands, Call.operands, List.lookup_cons, List.lookup_nil, Nat.reduceBEq, Bool.false_eq_true, if_false, if_true, Act.eval, Array.getD_eq_getD_getElem?, List.getElem?_toArray, List.getElem?_cons_succ, List.getElem?_cons_zero, Option.getD_some, and_true, true_and, List.append_toArray, List.nil_append, List.cons_append, List.toList_toArray, Array.toList_append, Option.toArray, List.append_nil] at hA); (obtain ⟨H, b', i2, i7, j0, j2, j3, j4⟩ := hJ; obtain ⟨g, e2, k2⟩ := j2 (hdn 2 (List.contains_iff_mem.1 (by kernel_rfl))); unfold Pj.sl at e2; simp only [Array.getD_eq_getD_getElem?] at e2; go_simp; exact hK _ _ hS ⟨H, b', i2, i7, j0, j2, fun _ => ⟨g, rfl, k2⟩, j4⟩))); (try simp only [List.nil_append, List.cons_append]))
  (refine Pj.walkI_step rfl (by simp) rfl ?_ ?_; (focus (intro A w' dn hS hJ hd0 hdn hA K hK; (try simp only [List.map_cons, List.map_nil, Pj.knows, Pj.Is, Pj.Any, Op.operands, Call.operands, List.lookup_cons, List.lookup_nil, Nat.reduceBEq, Bool.false_eq_true, if_false, if_true, Act.eval, Array.getD_eq_getD_getElem?, List.getElem?_toArray, List.getElem?_cons_succ, List.getElem?_cons_zero, Option.getD_some, and_true, true_and, List.append_toArray, List.nil_append, List.cons_append, List.toList_toArray, Array.toList_append, Option.toArray, List.append_nil] at hA); (obtain ⟨H, b', i2, i7, j0, j2, j3, j4⟩ := hJ; obtain ⟨g, e2, k2⟩ := j3 (hdn 3 (List.contains_iff_mem.1 (by kernel_rfl))); have e0 := j0 (hdn 0 (List.contains_iff_mem.1 (by kernel_rfl))); unfold Pj.sl at e2 e0; simp only [Array.getD_eq_getD_getElem?] at e2 e0; go_simp; refine (of2_c (H := H) 4 (clsF 2) or1 none 0 none 0 none 0 (some ⟨g, 0, none⟩) 1 w' i4 i2.ple (clsF_R _ (by simp [I64])) (FmR.of (by simp [or1, Fm.op, I64]) (by simp [or1, Fm.n, I64]) (SliceRep.nil _ _ _) k2)).mono ?_; rintro e w'' ⟨g2, rfl, hx'', hr''⟩; have hu := ple_up (w' := w'') i2.ple; exact hK _ _ (hS.then hx'') ⟨_, b', i2.up hx'', i7, j0, fun h => (j2 h).imp fun g h => ⟨h.1, h.2.mono mono_FmR hu⟩, fun h => (j3 h).imp fun g h => ⟨h.1, h.2.mono mono_FmR hu⟩, fun _ => ⟨g2, rfl, hr''⟩⟩))); (try simp only [List.nil_append, List.cons_append]))
  (refine Pj.walkI_step rfl (by simp) rfl ?_ ?_; (focus (intro A w' dn hS hJ hd0 hdn hA K hK; (try simp only [List.map_cons, List.map_nil, Pj.knows, Pj.Is, Pj.Any, Op.operands, Call.operands, List.lookup_cons, List.lookup_nil, Nat.reduceBEq, Bool.false_eq_true, if_false, if_true, Act.eval, Array.getD_eq_getD_getElem?, List.getElem?_toArray, List.getElem?_cons_succ, List.getElem?_cons_zero, Option.getD_some, and_true, true_and, List.append_toArray, List.nil_append, List.cons_append, List.toList_toArray, Array.toList_append, Option.toArray, List.append_nil] at hA); (obtain ⟨H, b', i2, i7, j0, j2, j3, j4⟩ := hJ; have hd5 : dn 5 = false := hd0; rw [hd5] at i2; have i3 := i2.fillNop 0 rfl (Ext.new w' (.cells zeroFc 50)) (Own.new w' zeroFc 50) (Nat.le_refl _); go_simp; exact hK _ _ (hS.alloc' _) ⟨H, w'.heap.size, i3, fun _ => rfl, j0, j2, j3, j4⟩))); (try simp only [List.nil_append, List.cons_append]))
  (refine Pj.walkI_nil ?_; simp only [List.nil_append, List.cons_append, Pj.fins, Pj.Is, Pj.Any, forall_eq, true_implies, Act.put, List.setIfInBounds_toArray, List.set_cons_zero, List.set_cons_succ])
  intro w8 hx8 v27 v29 v30 v31 v7 hJ
  obtain ⟨H, b7, i2, i7, -, -, -, j4⟩ := hJ
  have e7 : v7 = .pointer (some ⟨b7, 0, none⟩) := i7 rfl
  obtain ⟨g4, e31, hR⟩ := j4 rfl
  have e31' : v31 = .agg #[.int .i64 4, .int .i64 0, .slice none 0 0, .slice (some ⟨g4, 0, none⟩) 2 2] := e31
  have hM : Mem w7 (ph w7) [box b7 zeroFc 50] H w8 := i2
  clear i2 i7 j4 e31 u0 u1 u2 u3 ul
  subst e7 e31'
  obtain ⟨va, vc, rfl, -, hA⟩ := hA.form
  obtain ⟨uc, uf⟩ := (hM.box 0 rfl).facts
  have u0 : _ = some (Value.int .i64 0) := uc 0
  have u1 : _ = some (Value.int .i64 0) := uc 1
  have u2 : _ = some (Value.slice none 0 0) := uc 2
  have u3 : _ = some (Value.slice none 0 0) := uc 3
  have ul := (hM.box 0 rfl).lt
  have hM9 := hM.set4 0 rfl (.int .i64 4) (.int .i64 0) (.slice none 0 0) (.slice (some ⟨g4, 0, none⟩) 2 2)
  simp only [List.set_cons_zero] at hM9
  clear uc hM
  go_upto_region 6 with (fail)
  generalize ((((w8.setCell _ _).setCell _ _).setCell _ _).setCell _ _) = w9 at *
  have hx9 := hM9.ex
  have hW9 : FmR (ph w9) [.int .i64 4, .int .i64 0, .slice none 0 0, .slice (some ⟨g4, 0, none⟩) 2 2] wantF := mono_FmR _ _ _ _ hM9.ple (FmR.of (f := wantF) (a3 := none) (c3 := 0) (a4 := some ⟨g4, 0, none⟩) (c4 := 2) (by simp [wantF, Fm.op, I64]) (by simp [wantF, Fm.n, I64]) (SliceRep.nil _ _ _) hR)
  replace hF5 := mono_FmR _ _ _ _ hx9.ple hF5
  replace hA := hA.mono mono_FmR hx9.ple
  replace o3 := o3.keep hx9
  replace hxw := hxw.then hx9
  clear u0 u1 u2 u3 ul uf
  obtain ⟨uc, -⟩ := o3.facts
  have u0 : _ = some (Value.int .i64 wantF.op) := uc 0
  have u1 : _ = some (Value.int .i64 wantF.n) := uc 1
  have u2 : _ = some (Value.slice b3 wantF.inn.length d3) := uc 2
  have u3 : _ = some (Value.slice b4 wantF.kids.length d4) := uc 3
  have ul := o3.lt
  obtain ⟨tc, -⟩ := (hM9.box 0 rfl).facts
  have t0 : _ = some (Value.int .i64 4) := tc 0
  have t1 : _ = some (Value.int .i64 0) := tc 1
  have t2 : _ = some (Value.slice none 0 0) := tc 2
  have t3 : _ = some (Value.slice (some ⟨g4, 0, none⟩) 2 2) := tc 3
  have tl := (hM9.box 0 rfl).lt
  have hwb : wantF.bulk ≤ 100000 := by simp [wantF, or1, orF, clsF, Fm.bulk, fbulks]
  clear uc tc hM9 hR
  go_wp2_with fail
  refine RetV_at (rsame_c wantF wantF _ _ _ hF5 hW9 hwb hwb) ?_
  intro wa hxa
  rw [show B (wantF = wantF) = true from B_iff.2 rfl]
  replace hA := hA.mono mono_FmR hxa.ple
  replace hxw := hxw.then hxa
  clear hF5 hW9 o3 hxa u0 u1 u2 u3 ul t0 t1 t2 t3 tl
  go_wp2_with fail
  refine RetV_at (class_c 0 _) ?_
  intro wb hxb
  go_wp2_with fail
  refine RetV_at (class_c 2 _) ?_
  intro wc hxc
  go_wp2_with fail
  refine (of2_c (H := noH) 4 (clsF 0) (clsF 2) none 0 none 0 none 0 none 0 wc i4 (noH_le _) (clsF_R _ (by simp [I64])) (clsF_R _ (by simp [I64]))).mono ?_
  rintro e wd ⟨gd, rfl, hxd, hkd⟩
  go_wp2_with fail
  refine RetV_at (class_c 1 _) ?_
  intro we hxe
  go_wp2_with fail
  refine RetV_at (class_c 2 _) ?_
  intro wf hxf
  go_wp2_with fail
  refine (of2_c (H := noH) 4 (clsF 1) (clsF 2) none 0 none 0 none 0 none 0 wf i4 (noH_le _) (clsF_R _ (by simp [I64])) (clsF_R _ (by simp [I64]))).mono ?_
  rintro e wg ⟨gg, rfl, hxg, hkg⟩
  have hxx := ((hxb.then hxc).then hxd).then ((hxe.then hxf).then hxg)
  have hk1 : FmsR (ph wg) (.slice (some ⟨gd, 0, none⟩) 2 2) [clsF 0, clsF 2] := (hkd.mono mono_FmR (fun k o hk => by
    unfold up at hk; split at hk
    · cases hk
    · exact hk)).mono mono_FmR ((hxe.then hxf).then hxg).ple
  have hk2 : FmsR (ph wg) (.slice (some ⟨gg, 0, none⟩) 2 2) [clsF 1, clsF 2] := hkg.mono mono_FmR (fun k o hk => by
    unfold up at hk; split at hk
    · cases hk
    · exact hk)
  have f1 : FmR (ph wg) [.int .i64 4, .int .i64 0, .slice none 0 0, .slice (some ⟨gd, 0, none⟩) 2 2] (.mk 4 0 [] [clsF 0, clsF 2]) := FmR.of (f := .mk 4 0 [] [clsF 0, clsF 2]) (a3 := none) (c3 := 0) (a4 := some ⟨gd, 0, none⟩) (c4 := 2) (by simp [Fm.op, I64]) (by simp [Fm.n, I64]) (SliceRep.nil _ _ _) hk1
  have f2 : FmR (ph wg) [.int .i64 4, .int .i64 0, .slice none 0 0, .slice (some ⟨gg, 0, none⟩) 2 2] (.mk 4 0 [] [clsF 1, clsF 2]) := FmR.of (f := .mk 4 0 [] [clsF 1, clsF 2]) (a3 := none) (c3 := 0) (a4 := some ⟨gg, 0, none⟩) (c4 := 2) (by simp [Fm.op, I64]) (by simp [Fm.n, I64]) (SliceRep.nil _ _ _) hk2
  have hm := ((Mem.start wg (ph wg) (fun _ _ h => h)).new' #[.int .i64 4, .int .i64 0, .slice none 0 0, .slice (some ⟨gd, 0, none⟩) 2 2, .int .i64 4, .int .i64 0, .slice none 0 0, .slice (some ⟨gg, 0, none⟩) 2 2] 50 (n := wg.heap.size) rfl).asOwn 0 rfl mono_FmR (sz := 4) (xs := wantA) (n := 2) (by simp [wantA]) (by simp [maxLen]) rfl ⟨_, _, rfl, rfl, f1, _, [], rfl, rfl, f2, rfl⟩
  have hr := hm.rep 0 rfl
  have hA2 := hA.mono mono_FmR (hxx.then hm.ex).ple
  have hsl := Lib.hid (fun W (e : Ext _ W) => samelist_c wantA wantA _ _ W (hA2.mono mono_FmR e.ple) (hr.mono mono_FmR e.ple) (by simp [wantA, clsF, sumN, Fm.bulk, fbulks]) (by simp [wantA, clsF, sumN, Fm.bulk, fbulks]))
  replace hxw := hxw.then (hxx.then hm.ex)
  clear hm hr hA2 hA hk1 hk2 f1 f2 hkd hkg hxb hxc hxd hxe hxf hxg hxx
  go_wp2_with fail
  refine RetV_at (hsl.out _ (Ext.rfl' _)) ?_
  intro wh hxh
  rw [show B True = true from B_iff.2 trivial]
  go_wp2_with fail
  go_ret
  exact ⟨rfl, hxw.then hxh⟩
def CllY (h : PH) (cs : List Value) (xs : List Cl) : Prop := ∃ v, cs = [v] ∧ ClsR h v xs
theorem mono_CllY : Mono CllY := by
  rintro h h' cs xs hle ⟨v, e, hr⟩
  exact ⟨v, e, hr.mono mono_ClR hle⟩
theorem CllY.at {H : PH} {w : World} {a : Option Addr} {n cap : Nat} {xss : List (List Cl)} (hr : SliceRep CllY 1 H (.slice a n cap) xss) (hl : PLe H (ph w)) (k : Nat) (hk : k < xss.length) :
    ∃ b o a4 c4, a = some ⟨b, o, none⟩ ∧ w.cell? ⟨b, o + k, none⟩ = some (.slice a4 xss[k].length c4) ∧ ClsR H (.slice a4 xss[k].length c4) xss[k] ∧ b < w.heap.size := by
  obtain ⟨b, o, cs, h1, h2, h3, v, rfl, h4⟩ := hr.get k hk
  obtain ⟨a4, c4, rfl, -, h4⟩ := h4.form
  have := cellAt_mono hl (h3 0 (by omega))
  rw [← cell_ph] at this
  exact ⟨b, o, a4, c4, h1, by simpa using this, h4, cell_lt (by simpa using this)⟩
theorem some_validY {l : List Cl} (hl : l.length ≤ 8) (h : ∀ i x, l[i]? = some x → SomeCl i x) : validC l = 0 := by
  refine validC_of (by omega) fun i hi => ?_
  obtain ⟨h1, h2, h3, h4, h5, h6⟩ := h i l[i] (List.getElem?_eq_getElem hi)
  unfold SzP at h2
  exact ⟨by omega, refsB_of (fun r hr => by have := h4 r hr; omega) h5, validF_of (by omega) (by omega) h1⟩
theorem some_bulkY {i : Nat} {c : Cl} (h : SomeCl i c) (hi : i ≤ 5) : c.body.bulk ≤ 10000 ∧ c.refs.length ≤ 100 := by
  obtain ⟨h1, h2, h3, h4, h5, h6⟩ := h
  have h7 := whole_bulk _ h1
  unfold SzP at h2
  omega
theorem upOutY {w w' : World} {v : Value} {L : List Cl} (h : ClsR (up (ph w) w w') v L) (hx : Ext w w') : ClsR (ph w') v L := h.mono mono_ClR (fun k o hk => by
    unfold up at hk
    split at hk
    · exact hx.ple k o hk
    · exact hk)
theorem upOut0 {w w' : World} {v : Value} {L : List Cl} (h : ClsR (up noH w w') v L) (hx : Ext w w') : ClsR (ph w') v L := h.mono mono_ClR (up_ple (noH_le _) hx)
theorem ClsR.iAll {w : World} {v : Value} {l : List Cl} (hr : ClsR (ph w) v l) : ∀ c ∈ l, ClI c := by
  obtain ⟨a, n, rfl, -, hr⟩ := hr.form
  intro c hc
  obtain ⟨k, hk, rfl⟩ := List.getElem_of_mem hc
  obtain ⟨b, o, a1, c1, a3, c3, a4, c4, rfl, z0, z1, z2, z3, z4, zl, -, hI, hF⟩ := ClsR.atH hr (fun _ _ h => h) k hk
  exact ⟨IntsR.all hI, FmR.i _ _ hF⟩
theorem validC_small {l : List Cl} (h : validC l = 0) : l.length ≤ 32 ∧ ∀ c ∈ l, c.body.bulk ≤ 3168 ∧ c.refs.length ≤ 8 := by
  obtain ⟨h1, h2⟩ := validC_0 h
  refine ⟨h1, fun c hc => ?_⟩
  obtain ⟨k, hk, rfl⟩ := List.getElem_of_mem hc
  obtain ⟨h3, -, h4⟩ := h2 k hk
  exact ⟨valid_bulk h4, h3⟩
theorem claimE_len {c : Cl} (hi : ClI c) {B R : Nat} (hB : c.body.bulk ≤ B) (hR : c.refs.length ≤ R) (hB2 : B ≤ 100000) (hR2 : R ≤ 1000) : (claimE c).length ≤ 100 * B + 10 * R + 20 := by
  have k1 := encInts_le hi.1 (by omega)
  have k2 := bytes_len c.body hi.2
  have k3 := uvar_len10 (n := (bytesF c.body).length) (by omega)
  unfold claimE rawE
  simp only [List.length_append]; omega
theorem claimEs_len {l : List Cl} {B : Nat} (h : ∀ c ∈ l, (claimE c).length ≤ B) : (l.flatMap claimE).length ≤ B * l.length := by
  induction l with
  | nil => simp
  | cons x l ih =>
    have h1 := ih fun c hc => h c (List.mem_cons_of_mem _ hc)
    have h2 := h x (by simp)
    rw [List.flatMap_cons, List.length_append, List.length_cons, Nat.mul_add]; omega
theorem bytesC_len {l : List Cl} (hi : ∀ c ∈ l, ClI c) (B R : Nat) (hs : ∀ c ∈ l, c.body.bulk ≤ B ∧ c.refs.length ≤ R) (hB2 : B ≤ 100000) (hR2 : R ≤ 1000) (hl : l.length ≤ 1000) : (bytesC l).length ≤ 10 + (100 * B + 10 * R + 20) * l.length := by
  have h1 := claimEs_len (B := 100 * B + 10 * R + 20) (l := l) fun c hc => claimE_len (hi c hc) (hs c hc).1 (hs c hc).2 hB2 hR2
  have h2 := encI_len (n := (l.length : Int)) (by unfold I64; omega)
  unfold bytesC; rw [List.length_append]; omega
theorem bytesC_pos (l : List Cl) : 1 ≤ (bytesC l).length := by
  have := encI_pos (l.length : Int)
  unfold bytesC; rw [List.length_append]; omega
theorem int_bytesC {l : List Cl} (hl : l.length ≤ 1000) : (intS (some (bytesC l))).1 = (l.length : Int) := by
  have h1 : intS (some (bytesC l)) = ((l.length : Int), some (l.flatMap claimE)) := intS_some.2 ⟨rfl, by unfold I64; omega⟩
  rw [h1]
theorem decC_any (b : List UInt8) : ((decC b).2 = 0 ∧ validC (decC b).1 = 0 ∧ bytesC (decC b).1 = b) ∨ decC b = ([], 2) := by
  by_cases h : ∃ l, validC l = 0 ∧ (∀ c ∈ l, ClI c) ∧ bytesC l = b
  · obtain ⟨l, h1, h2, h3⟩ := h
    left
    rw [decC_ok h1 h2 h3]
    exact ⟨rfl, h1, h3⟩
  · right
    exact decC_no fun l h1 h2 h3 => h ⟨l, h1, h2, h3⟩
theorem dec_encC {l : List Cl} (hi : ∀ c ∈ l, ClI c) (hl : l.length ≤ 1000) : (validC l = 0 ∧ decC (bytesC l) = (l, 0)) ∨ (validC l ≠ 0 ∧ decC (bytesC l) = ([], 2)) := by
  by_cases h : validC l = 0
  · exact .inl ⟨h, decC_ok h hi rfl⟩
  · exact .inr ⟨h, decC_bad (by omega) h hi⟩
set_option maxHeartbeats 400000 in
theorem fewC_c (vs : Value) (xs : List UInt8) (m : Nat) (w : World) (hs : BytesR (ph w) vs xs) (hm : m ≤ 100000000) :
    Calls Tryz.prog 15 #[vs, .int .i64 m] w (FreshB w (xs.take m)) := by
  obtain ⟨a, c, rfl, hl, hs⟩ := hs.form
  have hcl : xs.length ≤ c := by obtain ⟨_, _, e, h1, -⟩ := hs; cases e; exact h1
  have hM := MB.start w
  have hS : Src w noH ByteR 1 (.slice a (min (xs.length : Int) m).toNat c) (xs.take m) := by
    have h := (Src.ofRep (hs.pre (min xs.length m) (by omega)) (PLe.refl _)).noB
    rw [show (min (xs.length : Int) m).toNat = min xs.length m by omega]
    have e : xs.take (min xs.length m) = xs.take m := by
      rcases Nat.le_total xs.length m with h1 | h1
      · rw [Nat.min_eq_left h1, List.take_of_length_le h1, List.take_length]
      · rw [Nat.min_eq_right h1]
    rwa [e] at h
  have hlk : (xs.take m).length ≤ m := by rw [List.length_take]; omega
  go_enter Tryz.func15, Tryz.ntmps15
  go_wp2_with (at_builtin; refine wpList_append_B rfl _ _ 23 rfl Tryz.underlying23 infoByte rfl rfl rfl rfl (hM.keep xE) (hS.keep xE) ?c1 ?c2)
  case c1 => simp only [List.length_nil]; omega
  case c2 =>
    intro v' w2 hM2
    obtain ⟨a', c', rfl, -⟩ := hM2.form
    have hf := Lib.hid hM2.fresh
    clear hM hM2 hS hs
    go_wp2_with fail
    go_ret
    exact hf.out
set_option maxRecDepth 100000 in
set_option maxHeartbeats 16000000 in
theorem claimsBytes_c (vl : Value) (l : List Int) (at' how by' : Int) (vr : Value) (raw : List UInt8) (x : UInt8) (w : World) (hr : IntsR (ph w) vl l) (ia : I64 at') (ihw : I64 how) (ib : I64 by') (hraw : BytesR (ph w) vr raw) :
    Calls Tryz.prog 3 #[vl, .int .i64 at', .int .i64 how, .int .i64 by', vr, .int .u8 x.toNat] w (RetV w (.bool true)) := by
  have hr0 := hr
  obtain ⟨xa, xc, rfl, -, hr⟩ := hr.form
  obtain ⟨ra, rc, rfl, hrl2, hraw⟩ := hraw.form
  go_enter Tryz.func3, Tryz.ntmps3
  go_wp2_with fail
  refine (some11_c l _ 5 w hr0 (by omega) (by omega)).mono ?_
  rintro e w1 ⟨v1, L1, rfl, hL1, hl5, hall, hx1⟩
  have hv1 := Lib.hid (some_validY (by omega) hall)
  have hbl1 : ∀ c ∈ L1, c.body.bulk ≤ 10000 ∧ c.refs.length ≤ 100 := fun c hc => by
    obtain ⟨j, hj, e⟩ := List.getElem_of_mem hc
    exact some_bulkY (hall j c (by rw [List.getElem?_eq_getElem hj, e])) (by omega)
  go_wp2_with fail
  refine (spoilt11_b (H0 := ph w1) 5 100 10000 (by omega) (by omega) (by omega) v1 L1 at' how by' w1 (fun _ _ h => h) hL1 ia ihw ib (by omega) hbl1).mono ?_
  rintro e w2 ⟨v2, L2, rfl, hL2, hbl2, hn2, hx2⟩
  replace hL2 := upOutY hL2 hx2
  replace hL1 := hL1.mono mono_ClR hx2.ple
  have hx0 := hx1.then hx2
  have hI1 := ClsR.iAll hL1
  have hI2 := ClsR.iAll hL2
  obtain ⟨p1, q1, rfl, -, hL1⟩ := hL1.form
  obtain ⟨p2, q2, rfl, -, hL2⟩ := hL2.form
  have hm := ((Mem.start w2 (ph w2) (fun _ _ h => h)).new' #[.slice p1 L1.length q1, .slice p2 L2.length q2] 24 (n := w2.heap.size) rfl).asOwn 0 rfl mono_CllY (sz := 1) (xs := [L1, L2]) (n := 2) (by simp) (by simp [maxLen]) rfl ⟨[_], [_], rfl, rfl, ⟨_, rfl, hL1⟩, [_], [], rfl, rfl, ⟨_, rfl, hL2⟩, rfl⟩
  have hLL := hm.rep 0 rfl
  have hbl : Hid (∀ A ∈ [L1, L2], (∀ c ∈ A, c.body.bulk ≤ 40000 ∧ c.refs.length ≤ 1000) ∧ A.length ≤ 85 ∧ ∀ c ∈ A, ClI c) := by
    intro A hA
    simp only [List.mem_cons, List.not_mem_nil, or_false] at hA
    rcases hA with rfl | rfl
    · exact ⟨fun c hc => by have := hbl1 c hc; omega, by omega, hI1⟩
    · exact ⟨fun c hc => by have := hbl2 c hc; omega, by omega, hI2⟩
  replace hx0 := hx0.then hm.ex
  replace hL1 := hL1.mono mono_ClR hm.ex.ple
  have hl2 : [L1, L2].length = 2 := rfl
  clear hm hL2 hall hx1 hx2 hbl1 hbl2 hr hr0 hI2
  go_upto_region 3 with (fail)
  generalize w2.alloc _ = w4 at *
  generalize [L1, L2] = LL at *
  generalize w2.heap.size = B2 at *
  replace hl2 := Lib.hid hl2
  go_upto_block 0 with (fail)
  go_cut [] (fun wx => Ext w4 wx)
  case first =>
    clear hL1 hI1 hv1
    go_wp2_with fail
    go_loopw [15] (fun vi wr => ∃ k : Nat, k ≤ 2 ∧ vi = .int .i64 k ∧ Ext w4 wr) (fun vi _ => 2 - (intOf vi).toNat)
    case atStart => exact ⟨0, by omega, rfl, Ext.rfl' _⟩
    case round =>
      obtain ⟨k, hk, rfl, hx⟩ := hrel
      by_cases hlt : k < 2
      · have b2 : decide ((k : Int) < 2) = true := by simp; omega
        have b2' : (k : Int) < 2 := by omega
        have hkl : k < LL.length := by rw [hl2.out]; exact hlt
        obtain ⟨b, o, a4, c4, e0, g0, hLA, gl⟩ := CllY.at (hLL.mono mono_CllY hx.ple) (fun _ _ h => h) k hkl
        cases e0
        rw [Nat.zero_add] at g0
        obtain ⟨hbA, hLn, hIA⟩ := hbl.out _ (List.getElem_mem hkl)
        generalize LL[k] = LA at *
        have hbA9 : ∀ c ∈ LA, c.body.bulk ≤ 400000 := fun c hc => by have := hbA c hc; omega
        have hlen := bytesC_len hIA 40000 1000 hbA (by omega) (by omega) (by omega)
        have hde := Lib.hid (dec_encC hIA (by omega))
        replace hIA := Lib.hid hIA
        clear hbl hLL
        go_wp2_with fail
        refine (cencode_c _ LA _ hLA (fun c hc => by have := hbA9 c hc; omega)).mono ?_
        rintro e w5 ⟨vb, rfl, ho5, hx5⟩
        have hb5 := ho5.rep mono_ByteR (noH_le _)
        obtain ⟨pb, qb, rfl, -, hb5⟩ := hb5.form
        replace hx := hx.then hx5
        replace g0 := hx5.cell1 g0
        replace gl := cell_lt g0
        replace hLA := hLA.mono mono_ClR hx5.ple
        clear hx5 ho5
        go_wp2_with fail
        refine (rcencode_c _ LA _ hLA hbA).mono ?_
        rintro e w6 ⟨vc, rfl, ho6, hx6⟩
        have hb6 := ho6.rep mono_ByteR (noH_le _)
        obtain ⟨pc, qc, rfl, -, hb6⟩ := hb6.form
        replace hx := hx.then hx6
        replace g0 := hx6.cell1 g0
        replace gl := cell_lt g0
        replace hLA := hLA.mono mono_ClR hx6.ple
        replace hb5 := hb5.mono mono_ByteR hx6.ple
        clear hx6 ho6
        go_wp2_with fail
        refine (rcbytes_c _ LA _ hLA (by omega) hbA).mono ?_
        rintro e w7 ⟨vd, rfl, ho7, hx7⟩
        have hb7 := ho7.rep mono_ByteR (noH_le _)
        replace hx := hx.then hx7
        replace g0 := hx7.cell1 g0
        replace gl := cell_lt g0
        replace hLA := hLA.mono mono_ClR hx7.ple
        replace hb5 := hb5.mono mono_ByteR hx7.ple
        replace hb6 := hb6.mono mono_ByteR hx7.ple
        clear hx7
        obtain ⟨pd, qd, rfl, -⟩ := ho7.form
        clear ho7
        go_wp2_with fail
        refine (cdecode_c _ _ _ hb7 (by omega)).mono ?_
        rintro e w8 ⟨vD, rfl, hx8, hD⟩
        replace hD := upOut0 hD hx8
        replace hx := hx.then hx8
        replace g0 := hx8.cell1 g0
        replace gl := cell_lt g0
        replace hLA := hLA.mono mono_ClR hx8.ple
        replace hb5 := hb5.mono mono_ByteR hx8.ple
        replace hb6 := hb6.mono mono_ByteR hx8.ple
        clear hx8 hb7 hlen
        have hsb := Lib.hid (fun W (e : Ext w8 W) => sameBytes_c _ _ (encC LA) (encC LA) W (hb5.mono mono_ByteR e.ple) (hb6.mono mono_ByteR e.ple))
        rw [show B (encC LA = encC LA) = true from B_iff.2 rfl] at hsb
        generalize decC (bytesC LA) = DD at *
        obtain ⟨D, ed⟩ := DD
        dsimp only at *
        rcases hde.out with ⟨h1, h2⟩ | ⟨h1, h2⟩
        · cases h2
          have hsm := Lib.hid (fun W (e : Ext w8 W) => csame_c _ _ LA LA W (hD.mono mono_ClR e.ple) (hLA.mono mono_ClR e.ple) hbA9 hbA9)
          rw [show B (LA = LA) = true from B_iff.2 rfl] at hsm
          obtain ⟨pD, qD, rfl, -⟩ := hD.form
          rw [h1]
          clear hde h1
          go_wp2_with fail
          refine RetV_at (hsb.out _ (Ext.rfl' _)) ?_
          intro w9 hx9
          replace g0 := hx9.cell1 g0
          replace gl := cell_lt g0
          go_wp2_with fail
          refine RetV_at (hsm.out _ hx9) ?_
          intro w10 hx10
          go_wp2_with fail
          go_roundw
          case rel => exact ⟨k + 1, by omega, by go_num, hx.then (hx9.then hx10)⟩
          case measure => simp [intOf]; omega
        · cases h2
          have h1b : (validC LA == 0) = false := by simpa using h1
          have h1c : (validC LA != 0) = true := by simpa using h1
          have h1d : (validC LA != validC LA) = false := by simp
          obtain ⟨pD, qD, rfl, -⟩ := hD.form
          generalize validC LA = er at *
          replace h1 := Lib.hid h1
          clear hde
          go_wp2_with fail
          refine RetV_at (hsb.out _ (Ext.rfl' _)) ?_
          intro w9 hx9
          go_wp2_with fail
          go_roundw
          case rel => exact ⟨k + 1, by omega, by go_num, hx.then hx9⟩
          case measure => simp [intOf]; omega
      · obtain rfl : k = 2 := by omega
        go_wp2_with fail
        go_meet
        case rel => exact hx
  case rest =>
    replace hx0 := hx0.then hcut
    replace hL1 := hL1.mono mono_ClR hcut.ple
    have hrawX := hraw.mono mono_ByteR hx0.ple
    have hvs := (validC_small hv1.out).2
    have hEi := Lib.hid (int_bytesC (l := L1) (by omega))
    have hEp := bytesC_pos L1
    have hEl := bytesC_len hI1 3168 8 hvs (by omega) (by omega) (by omega)
    have hEm : Hid ((bytesC L1).length ≤ 2000000) := by
      show _ ≤ _
      have h5 : (100 * 3168 + 10 * 8 + 20) * L1.length ≤ (100 * 3168 + 10 * 8 + 20) * 5 := Nat.mul_le_mul_left _ hl5
      omega
    have hE : encC L1 = bytesC L1 := by unfold encC; rw [if_pos hv1.out]
    have hce := cencode_c _ L1 _ hL1 (fun c hc => by have := hvs c hc; omega)
    unfold EncCQ at hce
    rw [hE, hv1.out] at hce
    clear hcut hLL hbl hl2 hraw hE hvs hEl hI1
    replace hce := Lib.hid hce
    generalize bytesC L1 = E at *
    generalize hN : L1.length = N at *
    replace hN := Lib.hid hN
    go_wp2_with fail
    refine hce.out.mono ?_
    rintro e w12 ⟨vb, rfl, ho, hx12⟩
    have hB := ho.rep mono_ByteR (noH_le _)
    replace hx0 := hx0.then hx12
    replace hrawX := hrawX.mono mono_ByteR hx12.ple
    clear ho hx12 hL1 hce
    obtain ⟨ab, cb, rfl, -, hB⟩ := hB.form
    obtain ⟨L, hL⟩ : ∃ L, E.length = L := ⟨_, rfl⟩
    rw [hL] at hEp hB hEm ⊢
    replace hEm := hEm.out
    replace hL := Lib.hid hL
    obtain ⟨bb, ob, rfl⟩ : ∃ bb ob, ab = some ⟨bb, ob, none⟩ := by
      obtain ⟨b, o, e, -, -⟩ := BytesR.at hB 0 (by rw [hL.out]; omega)
      exact ⟨b, o, e⟩
    have hcl : L ≤ cb := by obtain ⟨_, _, e, h1, -⟩ := hB; cases e; rw [hL.out] at h1; exact h1
    have hrd := rread_c _ E _ hB (by rw [hL.out]; omega)
    go_wp2_with fail
    refine hrd.mono ?_
    rintro e w13 ⟨HR, g, rfl, hg, hR, hx13⟩
    have hg3 := hR.lt
    have hri := rint_c g (some E) _ hR
    rw [hEi.out] at hri
    have hLz : (L == 0) = false := by simp; omega
    clear hrd
    go_wp2_with fail
    refine hri.mono ?_
    rintro e w14 ⟨rfl, -, hX14⟩
    have hx14 : Ext w12 w14 := hX14.toExt hx13 hg (fun i hi => by cases hi)
    replace hx0 := hx0.then hx14
    replace hrawX := hrawX.mono mono_ByteR hx14.ple
    replace hB := hB.mono mono_ByteR hx14.ple
    clear hri hR hX14 hx14 hx13 hg hg3
    have hfe := fewC_c _ E L w14 hB (by omega)
    rw [List.take_of_length_le (by rw [hL.out]; exact Nat.le_refl _)] at hfe
    go_wp2_with fail
    refine hfe.mono ?_
    rintro e w16 ⟨v16, rfl, ho16, hx16⟩
    have hA16 := AnyB.ofOwn ho16
    rw [hL.out] at hA16
    clear hfe ho16
    obtain ⟨a16, c16, rfl⟩ := hA16.form
    obtain ⟨hn0, hn1⟩ := aroundV_range (n := at') (m := (L : Int)) ia (by omega)
    have har := around_c at' (L : Int) w16 ia (by omega) (by omega)
    obtain ⟨q, hq⟩ : ∃ q : Nat, aroundV at' (L : Int) = q := ⟨_, (Int.toNat_of_nonneg hn0).symm⟩
    rw [hq] at hn0 hn1 har
    clear hq
    go_wp2_with fail
    refine RetV_at har ?_
    intro w17 hx17
    replace hA16 := hA16.keep (Lb.ofExt hx17)
    replace hx16 := hx16.then hx17
    clear hx17 har
    obtain ⟨g16, rfl, hg1, hg2, ⟨u16, hu16⟩, hf16, hA17⟩ := hA16.set q (by omega) x
    have hxW2 : Ext w14 (w17.setCell ⟨g16, q, none⟩ (byteV x)) := hx16.set' hg1 _
    clear hA16
    unfold byteV at hA17 hxW2
    have hqL : (q : Int) < L := hn1
    have hqL2 : q < L := by omega
    go_upto_region 17 with (fail)
    generalize w17.setCell _ _ = W2 at *
    replace hB := hB.mono mono_ByteR hxW2.ple
    replace hrawX := hrawX.mono mono_ByteR hxW2.ple
    replace hx0 := hx0.then hxW2
    clear hu16 hf16 hg2 hx16
    obtain ⟨i0, hi0, hz0, hz1, hz2⟩ := infoB'
    have hwL : IntKind.i64.wrap ((L : Int) - 1) = ((L - 1 : Nat) : Int) := by rw [IntKind.wrap_i64]; omega
    have hwL2 : IntKind.i64.wrap ((L : Int) + -1) = ((L - 1 : Nat) : Int) := by rw [IntKind.wrap_i64]; omega
    have hL1c : (((L - 1 : Nat) : Int) ≤ (cb : Int)) = True := by simp; omega
    have hTk : BytesR (ph W2) (.slice (some ⟨bb, ob, none⟩) (L - 1) cb) (E.take (L - 1)) := hB.pre (L - 1) (by rw [hL.out]; omega)
    have hTl : (E.take (L - 1)).length = L - 1 := by rw [List.length_take, hL.out]; omega
    obtain ⟨m40, hm40⟩ : ∃ m, m = (raw.take 40).length := ⟨_, rfl⟩
    have hm2 : m40 ≤ 40 := by rw [hm40, List.length_take]; omega
    have hfr := Lib.hid (fun W (e : Ext W2 W) => fewC_c _ raw 40 W (hrawX.mono mono_ByteR e.ple) (by omega))
    have hfE := Lib.hid (fun W (e : Ext W2 W) => fewC_c _ E L W (hB.mono mono_ByteR e.ple) (by omega))
    rw [List.take_of_length_le (by rw [hL.out]; exact Nat.le_refl _)] at hfE
    replace hTk := Lib.hid hTk
    replace hTl := Lib.hid hTl
    replace hm40 := Lib.hid hm40
    (refine Ph.wp_region_I 15 (S := byteSys W2) ?h0 (by kernel_rfl) (by kernel_rfl) (by kernel_rfl) ?_; (case h0 => (exact Ext.drew' (Ext.rfl' _))); simp only [List.toList_toArray, List.take_succ_cons, List.take_zero, List.drop_succ_cons, List.drop_zero])
    (refine Ph.walkI_is (u := ?_) rfl (by simp) rfl ?_ ?_ (by simp) (by simp [byteSys]); rotate_left; (focus (intro A w' cc hG hA K hK; (simp only [List.map_cons, List.map_nil, knows, Is, Op.operands, Call.operands, List.lookup_cons, List.lookup_nil, Nat.reduceBEq, Bool.false_eq_true, if_false, if_true, Act.eval, Array.getD_eq_getD_getElem?, List.getElem?_toArray, List.getElem?_cons_succ, List.getElem?_cons_zero, Option.getD_some, and_true, true_and, List.append_toArray, List.nil_append, List.cons_append, List.toList_toArray, Array.toList_append, Option.toArray, List.append_nil] at hA); first | fail | (go_simp; exact hK _ xE))); (try simp only [List.nil_append, List.cons_append]))
    (refine Ph.walkI_step (fun v w' => AnyB W2.heap.size m40 v w') rfl (by simp) rfl (fun c v a b _ q1 hL => q1.keep hL) ?_ ?_ (by simp) (by simp [byteSys]); (focus (intro A w' cc hG hA K hK; (simp only [List.map_cons, List.map_nil, knows, Is, Op.operands, Call.operands, List.lookup_cons, List.lookup_nil, Nat.reduceBEq, Bool.false_eq_true, if_false, if_true, Act.eval, Array.getD_eq_getD_getElem?, List.getElem?_toArray, List.getElem?_cons_succ, List.getElem?_cons_zero, Option.getD_some, and_true, true_and, List.append_toArray, List.nil_append, List.cons_append, List.toList_toArray, Array.toList_append, Option.toArray, List.append_nil] at hA); (have hG' : Ext W2 w' := hG; go_simp; refine (hfr.out w' hG').mono ?_; rintro e w5 ⟨v, rfl, ho, hx⟩; exact hK _ _ hx (by rw [hm40.out]; exact AnyB.ofOwn (ho.base hG'.size))))); (try simp only [List.nil_append, List.cons_append]))
    iterate 9 (refine Ph.walkI_is (u := ?_) rfl (by simp) rfl ?_ ?_ (by simp) (by simp [byteSys]); rotate_left; (focus (intro A w' cc hG hA K hK; (simp only [List.map_cons, List.map_nil, knows, Is, Op.operands, Call.operands, List.lookup_cons, List.lookup_nil, Nat.reduceBEq, Bool.false_eq_true, if_false, if_true, Act.eval, Array.getD_eq_getD_getElem?, List.getElem?_toArray, List.getElem?_cons_succ, List.getElem?_cons_zero, Option.getD_some, and_true, true_and, List.append_toArray, List.nil_append, List.cons_append, List.toList_toArray, Array.toList_append, Option.toArray, List.append_nil] at hA); first | fail | (go_simp; exact hK _ xE))); (try simp only [List.nil_append, List.cons_append]))
    (refine Ph.walkI_step (fun v w' => AnyB W2.heap.size L v w') rfl (by simp) rfl (fun c v a b _ q1 hL => q1.keep hL) ?_ ?_ (by simp) (by simp [byteSys]); (focus (intro A w' cc hG hA K hK; (simp only [List.map_cons, List.map_nil, knows, Is, Op.operands, Call.operands, List.lookup_cons, List.lookup_nil, Nat.reduceBEq, Bool.false_eq_true, if_false, if_true, Act.eval, Array.getD_eq_getD_getElem?, List.getElem?_toArray, List.getElem?_cons_succ, List.getElem?_cons_zero, Option.getD_some, and_true, true_and, List.append_toArray, List.nil_append, List.cons_append, List.toList_toArray, Array.toList_append, Option.toArray, List.append_nil] at hA); (have hG' : Ext W2 w' := hG; go_simp; refine (hfE.out w' hG').mono ?_; rintro e w5 ⟨v, rfl, ho, hx⟩; exact hK _ _ hx (by have h9 := AnyB.ofOwn (ho.base hG'.size); rw [hL.out] at h9; exact h9)))); (try simp only [List.nil_append, List.cons_append]))
    (refine Ph.walkI_is (u := ?_) rfl (by simp) rfl ?_ ?_ (by simp) (by simp [byteSys]); rotate_left; (focus (intro A w' cc hG hA K hK; (simp only [List.map_cons, List.map_nil, knows, Is, Op.operands, Call.operands, List.lookup_cons, List.lookup_nil, Nat.reduceBEq, Bool.false_eq_true, if_false, if_true, Act.eval, Array.getD_eq_getD_getElem?, List.getElem?_toArray, List.getElem?_cons_succ, List.getElem?_cons_zero, Option.getD_some, and_true, true_and, List.append_toArray, List.nil_append, List.cons_append, List.toList_toArray, Array.toList_append, Option.toArray, List.append_nil] at hA); first | fail | (go_simp; exact hK _ xE))); (try simp only [List.nil_append, List.cons_append]))
    (refine Ph.walkI_step (fun v w' => ∃ g, v = .slice (some ⟨g, 0, none⟩) 1 1 ∧ AnyB W2.heap.size 1 v w') rfl (by simp) rfl (fun c v a b _ ⟨g, q1, q2⟩ hL => ⟨g, q1, q2.keep hL⟩) ?_ ?_ (by simp) (by simp [byteSys]); (focus (intro A w' cc hG hA K hK; (simp only [List.map_cons, List.map_nil, knows, Is, Op.operands, Call.operands, List.lookup_cons, List.lookup_nil, Nat.reduceBEq, Bool.false_eq_true, if_false, if_true, Act.eval, Array.getD_eq_getD_getElem?, List.getElem?_toArray, List.getElem?_cons_succ, List.getElem?_cons_zero, Option.getD_some, and_true, true_and, List.append_toArray, List.nil_append, List.cons_append, List.toList_toArray, Array.toList_append, Option.toArray, List.append_nil] at hA); (have hG' : Ext W2 w' := hG; go_simp; exact hK _ _ (Ext.new _ _) ⟨_, rfl, .inr ⟨_, 1, #[.int .u8 x.toNat], rfl, hG'.size, Own.new _ _ _, by omega, by simp [maxLen], rfl, fun j hj => ⟨x, by obtain rfl : j = 0 := (by omega); rfl⟩⟩⟩))); (try simp only [List.nil_append, List.cons_append]))
    (refine Ph.walkI_stepL (fun v w' => AnyB W2.heap.size (L + 1) v w') rfl (by simp) rfl (fun c v a b _ q1 hL => q1.keep hL) ?_ ?_ (by simp) (by simp [byteSys]); (focus (intro A w' cc hG hA K hK; (simp only [List.map_cons, List.map_nil, knows, Is, Op.operands, Call.operands, List.lookup_cons, List.lookup_nil, Nat.reduceBEq, Bool.false_eq_true, if_false, if_true, Act.eval, Array.getD_eq_getD_getElem?, List.getElem?_toArray, List.getElem?_cons_succ, List.getElem?_cons_zero, Option.getD_some, and_true, true_and, List.append_toArray, List.nil_append, List.cons_append, List.toList_toArray, Array.toList_append, Option.toArray, List.append_nil] at hA); (have hG' : Ext W2 w' := hG; obtain ⟨h156, g', hA1, hA2⟩ := hA; obtain ⟨ys, hyl, hys⟩ := hA2.own; refine oper_append_any (.tmp 156) (.tmp 158) 23 rfl i0 Tryz.underlying23 hi0 hz0 hz1 hz2 (v := A.tmps[156]?.getD undef) (vx := A.tmps[158]?.getD undef) (n := L) (ys := ys) (by simp [Act.eval]) (by simp [Act.eval]) h156 (Src.ofOwn hys) hG'.size (by omega) ?_; intro v' w'' h1 h2; exact hK _ _ h2 (Lb.ext hG' h2) (by rw [hyl] at h1; exact h1)))); (try simp only [List.nil_append, List.cons_append]))
    (refine Ph.walkI_nil ?_; simp only [List.nil_append, List.cons_append, fins, Is, forall_eq, Act.put, List.setIfInBounds_toArray, List.set_cons_zero, List.set_cons_succ])
    rintro w22 hG22 v146 h146 v156 - v158 - v159 h159
    have hx22 : Ext W2 w22 := hG22
    obtain ⟨z0, hz0l, hz0r⟩ := h146.rep
    obtain ⟨z1, hz1l, hz1r⟩ := (hA17.keep (Lb.ofExt hx22)).rep
    have hz2r := hTk.out.mono mono_ByteR hx22.ple
    obtain ⟨z3, hz3l, hz3r⟩ := h159.rep
    obtain ⟨a146, c146, rfl⟩ := h146.form
    obtain ⟨a159, c159, rfl⟩ := h159.form
    have hz2l := hTl.out
    have hall : ∀ j, j < 4 → ∃ a n cp zs, (#[.slice a146 m40 c146, .slice (some ⟨g16, 0, none⟩) L c16, .slice (some ⟨bb, ob, none⟩) (L - 1) cb, .slice a159 (L + 1) c159] : Array Value)[j]? = some (.slice a n cp) ∧ BytesR (ph w22) (.slice a n cp) zs ∧ n = zs.length ∧ zs.length ≤ 2000001 := by
      intro j hj
      match j, hj with
      | 0, _ => exact ⟨_, _, _, z0, rfl, hz0r, hz0l.symm, by omega⟩
      | 1, _ => exact ⟨_, _, _, z1, rfl, hz1r, hz1l.symm, by omega⟩
      | 2, _ => exact ⟨_, _, _, _, rfl, hz2r, hz2l.symm, by omega⟩
      | 3, _ => exact ⟨_, _, _, z3, rfl, hz3r, hz3l.symm, by omega⟩
    replace hall := Lib.hid hall
    have hT := Own.new w22 #[.slice a146 m40 c146, .slice (some ⟨g16, 0, none⟩) L c16, .slice (some ⟨bb, ob, none⟩) (L - 1) cb, .slice a159 (L + 1) c159] 23
    have hx23 := Ext.new w22 (.cells #[.slice a146 m40 c146, .slice (some ⟨g16, 0, none⟩) L c16, .slice (some ⟨bb, ob, none⟩) (L - 1) cb, .slice a159 (L + 1) c159] 23)
    replace hx0 := hx0.then (hx22.then hx23)
    clear hz0l hz0r hz1l hz1r hz2l hz2r hz3l hz3r hA17 h146 h159 hB hrawX hx22 hG22 hTk hTl hfr hfE hxW2
    go_wp2_with fail
    generalize w22.heap.size = gT at *
    generalize w22.alloc _ = W4 at *
    go_loopw [27] (fun i wq => ∃ j : Nat, j ≤ 4 ∧ i = .int .i64 j ∧ Ext W4 wq) (fun i _ => 4 - (intOf i).toNat)
    case atStart => exact ⟨0, by omega, rfl, Ext.rfl' _⟩
    case round =>
      obtain ⟨j, hj, rfl, hxq⟩ := hrel
      rcases (Decidable.em (j < 4)).symm with hj4 | hj4
      · have hja : decide ((j : Int) < 4) = false := by simp; omega
        have hli := Lib.hid (lives_c wr)
        go_wp2_with fail
        refine RetV_at hli.out ?_
        intro w8 hx8
        go_wp2_with fail
        go_ret
        exact ⟨rfl, hx0.then (hxq.then hx8)⟩
      · have hja : decide ((j : Int) < 4) = true := by simp; omega
        have hja2 : decide (j < 4) = true := decide_eq_true hj4
        have hj4' : (j : Int) < 4 := by omega
        obtain ⟨a, n', cp, zs, hc, hzr, rfl, hzl⟩ := hall.out j hj4
        have hLq := hT.keep hxq
        have hcj := hLq.facts.1 j
        rw [hc] at hcj
        replace hzr := hzr.mono mono_ByteR (hx23.then hxq).ple
        have hlj := cell_lt hcj
        clear hLq hc
        go_wp2_with fail
        refine (cdecode_c _ zs _ hzr (by omega)).mono ?_
        rintro e w24 ⟨vd, rfl, hx24, hd⟩
        replace hd := upOut0 hd hx24
        have hcase := decC_any zs
        generalize decC zs = DD at *
        obtain ⟨D, ed⟩ := DD
        dsimp only at *
        obtain ⟨pd, qd, rfl, -, hd⟩ := hd.form
        replace hcj := hx24.cell1 hcj
        replace hlj := cell_lt hcj
        replace hzr := hzr.mono mono_ByteR hx24.ple
        replace hxq := hxq.then hx24
        clear hx24
        rcases hcase with ⟨h1, h2, h3⟩ | h1
        · subst h1
          obtain ⟨s1, s2⟩ := validC_small h2
          have hVa := Lib.hid (fun w' (hx : Ext w24 w') => cvalid_c _ D w' (hd.mono mono_ClR hx.ple) (fun c hc => by have := s2 c hc; omega))
          rw [h2] at hVa
          have hEn := Lib.hid (fun w' (hx : Ext w24 w') => rcbytes_c _ D w' (hd.mono mono_ClR hx.ple) (by omega) (fun c hc => by have := s2 c hc; omega))
          rw [h3] at hEn
          have hsb := Lib.hid (fun v w' (hx : Ext w24 w') (h : BytesR (ph w') v zs) => sameBytes_c v _ zs zs w' h (hzr.mono mono_ByteR hx.ple))
          rw [show B (zs = zs) = true from B_iff.2 rfl] at hsb
          clear h2 h3 hd hzr s1 s2
          generalize D.length = dl at *
          generalize zs.length = zl at *
          go_upto_region 22 with (fail)
          (refine wp_region_I 30 (by kernel_rfl) (by kernel_rfl) ?_; simp only [List.toList_toArray, List.take_succ_cons, List.take_zero, List.drop_succ_cons, List.drop_zero])
          iterate 3 (refine wiA rfl (by simp) rfl ?_; (try simp only [List.nil_append, List.cons_append]))
          iterate 7 (refine walkI_no rfl (by simp) rfl rfl rfl ?_ ?_; (focus (simp [undef]; done)); (try simp only [List.nil_append, List.cons_append]))
          iterate 2 (refine wiA rfl (by simp) rfl ?_; (try simp only [List.nil_append, List.cons_append]))
          iterate 4 (refine wyA rfl (by simp) rfl rfl rfl ?_; (try simp only [List.nil_append, List.cons_append]))
          (refine walkI_yesis (u := ?_) rfl (by simp) rfl rfl rfl ?_ ?_; rotate_left; (focus (intro A w' hS hA K hK; (simp only [List.map_cons, List.map_nil, knows, Is, Op.operands, Call.operands, List.lookup_cons, List.lookup_nil, Nat.reduceBEq, Bool.false_eq_true, if_false, if_true, Act.eval, Array.getD_eq_getD_getElem?, List.getElem?_toArray, List.getElem?_cons_succ, List.getElem?_cons_zero, Option.getD_some, and_true, true_and, List.append_toArray, List.nil_append, List.cons_append, List.toList_toArray, Array.toList_append, Option.toArray, List.append_nil] at hA); first | (go_simp; refine (hVa.out w' hS).mono ?_; rintro e w6 ⟨rfl, hx6⟩; exact hK _ hx6) | (obtain ⟨hSc, hSf, hSs⟩ := hS.cells; go_simp; exact hK _ xN))); (try simp only [List.nil_append, List.cons_append]))
          iterate 3 (refine wyA rfl (by simp) rfl rfl rfl ?_; (try simp only [List.nil_append, List.cons_append]))
          (refine walkI_yes ((fun v w' => BytesR (ph w') v zs)) rfl (by simp) rfl rfl rfl ((fun v w w' _ h e => h.mono mono_ByteR e.ple)) ?_ ?_; (focus (intro A w' hS hA K hK; (simp only [List.map_cons, List.map_nil, knows, Is, Op.operands, Call.operands, List.lookup_cons, List.lookup_nil, Nat.reduceBEq, Bool.false_eq_true, if_false, if_true, Act.eval, Array.getD_eq_getD_getElem?, List.getElem?_toArray, List.getElem?_cons_succ, List.getElem?_cons_zero, Option.getD_some, and_true, true_and, List.append_toArray, List.nil_append, List.cons_append, List.toList_toArray, Array.toList_append, Option.toArray, List.append_nil] at hA); (go_simp; refine (hEn.out w' hS).mono ?_; rintro e w5 ⟨v, rfl, ho, hx⟩; exact hK _ _ hx (ho.rep mono_ByteR (noH_le _))))); (try simp only [List.nil_append, List.cons_append]))
          iterate 2 (refine wyA rfl (by simp) rfl rfl rfl ?_; (try simp only [List.nil_append, List.cons_append]))
          iterate 2 (refine walkI_yesis (u := ?_) rfl (by simp) rfl rfl rfl ?_ ?_; rotate_left; (focus (intro A w' hS hA K hK; (simp only [List.map_cons, List.map_nil, knows, Is, Op.operands, Call.operands, List.lookup_cons, List.lookup_nil, Nat.reduceBEq, Bool.false_eq_true, if_false, if_true, Act.eval, Array.getD_eq_getD_getElem?, List.getElem?_toArray, List.getElem?_cons_succ, List.getElem?_cons_zero, Option.getD_some, and_true, true_and, List.append_toArray, List.nil_append, List.cons_append, List.toList_toArray, Array.toList_append, Option.toArray, List.append_nil] at hA); first | (have q1 := hS.cell1 hcj; have q2 := cell_lt q1; go_simp; exact hK _ (Ext.rfl' _)) | (obtain ⟨hSc, hSf, hSs⟩ := hS.cells; go_simp; exact hK _ xN))); (try simp only [List.nil_append, List.cons_append]))
          (refine walkI_yesis (u := ?_) rfl (by simp) rfl rfl rfl ?_ ?_; rotate_left; (focus (intro A w' hS hA K hK; (simp only [List.map_cons, List.map_nil, knows, Is, Op.operands, Call.operands, List.lookup_cons, List.lookup_nil, Nat.reduceBEq, Bool.false_eq_true, if_false, if_true, Act.eval, Array.getD_eq_getD_getElem?, List.getElem?_toArray, List.getElem?_cons_succ, List.getElem?_cons_zero, Option.getD_some, and_true, true_and, List.append_toArray, List.nil_append, List.cons_append, List.toList_toArray, Array.toList_append, Option.toArray, List.append_nil] at hA); first | (obtain ⟨hA1, hA2⟩ := hA; go_simp; refine (hsb.out _ w' hS hA1).mono ?_; rintro e w6 ⟨rfl, hx6⟩; exact hK _ hx6) | (obtain ⟨hSc, hSf, hSs⟩ := hS.cells; go_simp; exact hK _ xN))); (try simp only [List.nil_append, List.cons_append]))
          iterate 3 (refine wyA rfl (by simp) rfl rfl rfl ?_; (try simp only [List.nil_append, List.cons_append]))
          (refine wiA rfl (by simp) rfl ?_; (try simp only [List.nil_append, List.cons_append]))
          (refine walkI_nil ?_; simp only [List.nil_append, List.cons_append, fins, Is, forall_eq, Act.put, List.setIfInBounds_toArray, List.set_cons_zero, List.set_cons_succ])
          rintro w25 hx25 v195 -
          go_wp2_with fail
          go_roundw
          case rel => exact ⟨j + 1, by omega, by go_num, hxq.then hx25⟩
          case measure => simp [intOf]; omega
        · cases h1
          clear hd hzr
          generalize zs.length = zl at *
          go_upto_region 22 with (fail)
          (refine wp_region_I 30 (by kernel_rfl) (by kernel_rfl) ?_; simp only [List.toList_toArray, List.take_succ_cons, List.take_zero, List.drop_succ_cons, List.drop_zero])
          iterate 3 (refine wiA rfl (by simp) rfl ?_; (try simp only [List.nil_append, List.cons_append]))
          iterate 7 (refine wyA rfl (by simp) rfl rfl rfl ?_; (try simp only [List.nil_append, List.cons_append]))
          iterate 2 (refine wiA rfl (by simp) rfl ?_; (try simp only [List.nil_append, List.cons_append]))
          iterate 3 (refine wyA rfl (by simp) rfl rfl rfl ?_; (try simp only [List.nil_append, List.cons_append]))
          iterate 13 (refine walkI_no rfl (by simp) rfl rfl rfl ?_ ?_; (focus (simp [undef]; done)); (try simp only [List.nil_append, List.cons_append]))
          (refine wyA rfl (by simp) rfl rfl rfl ?_; (try simp only [List.nil_append, List.cons_append]))
          (refine wiA rfl (by simp) rfl ?_; (try simp only [List.nil_append, List.cons_append]))
          (refine walkI_nil ?_; simp only [List.nil_append, List.cons_append, fins, Is, forall_eq, Act.put, List.setIfInBounds_toArray, List.set_cons_zero, List.set_cons_succ])
          intro w25 hx25
          go_wp2_with fail
          go_roundw
          case rel => exact ⟨j + 1, by omega, by go_num, hxq.then hx25⟩
          case measure => simp [intOf]; omega
theorem claimsBytesLaw (vl vr : Value) (l : List Int) (at' how by' : Int) (raw : List UInt8) (x : UInt8) (w : World) (hr : IntsR (ph w) vl l) (hraw : BytesR (ph w) vr raw) (_ : l.length ≤ 140737488355328) (_ : raw.length ≤ 140737488355328) (ia : I64 at') (ihw : I64 how) (ib : I64 by') :
    Calls Tryz.prog 3 #[vl, .int .i64 at', .int .i64 how, .int .i64 by', vr, .int .u8 x.toNat] w (RetV w (.bool true)) := claimsBytes_c vl l at' how by' vr raw x w hr ia ihw ib hraw
end Go.Proofs.YtnpnjcaomakehaaGreat
namespace Go.Proofs.YtnpnjcaomakehaaGreat
open Go.ChangeShapes Go.WideShapes Go.ChangeAt Go.RowKit
theorem post_of_ext {H : Type} {enc : TypeId × Value → H} {P : Program} {f : Func} {s : ChangeSpec} {apart fresh handsOn : Bool} {W W' : World} {args : Array Value} {v : Value} {ds gs : List (DataW H)} {before pa pv : List MemPlace}
    (hW : DataW.Whole enc P f.params.toList s.vars apart W args.toList ds gs before)
    (hres : ∀ (b : Nat) (sp : Nat → Bool) (hd : Bool), DataW.TrodAll enc P W' b sp hd f.resultTypes.toList (v.resultList f.resultTypes.size) (s.fn H (ds ++ gs)).results [])
    (hargs : ∀ sp : Nat → Bool, (∀ p ∈ before, sp p.block = true) → DataW.TrodAll enc P W' 0 sp true f.params.toList args.toList (s.fn H (ds ++ gs)).args pa)
    (hvars : ∀ sp : Nat → Bool, (∀ p ∈ before, sp p.block = true) → DataW.TrodVars enc P W' sp s.vars (s.fn H (ds ++ gs)).vars pv)
    (hps : before = pa ++ pv) (he : Ext W W') : s.post enc P f apart fresh handsOn false W args v W' := by
  have hold : ∀ p ∈ before, (fun b => decide (b < W.heap.size)) p.block = true := fun p hp => by simpa using hW.lt p hp
  exact ⟨ds, gs, before, [], pa, pv, hW, hres _ _ _, hargs _ hold, hvars _ hold, he.frame _, fun h => by cases h⟩
theorem wf_i64 {a : Int} (h : (Lit.int .i64 a).wf = true) : I64 a := by
  simpa [Lit.wf, IntKind.min, IntKind.max, IntKind.signed, IntKind.bits, I64] using h
end Go.Proofs.YtnpnjcaomakehaaGreat
namespace Go.Proofs.YtnpnjcaomakehaaGreat
open Go.ChangeShapes Go.WideShapes Go.ChangeAt Go.RowKit
section
variable {H : Type} {enc : TypeId × Value → H} {P : Program}
theorem trodAll_back (hl : laidOutB P = true) {W W' : World} (hb : Ext W W') : ∀ {ts : List TypeId} {vs : List Value} {ds : List (DataW H)} {ps : List MemPlace}, (∀ t ∈ ts, P.readableRec t = true ∧ t < P.types.size) →
    DataW.TrodAll enc P W 0 (fun _ => true) true ts vs ds ps → (∀ x ∈ ps, x.block < W.heap.size) → DataW.TrodAll enc P W' 0 (fun b => decide (b < W.heap.size)) true ts vs ds ps
  | [], [], [], ps, _, h, _ => h
  | t :: ts, v :: vs, d :: ds, ps, hr, h, hlt => by
    obtain ⟨p, q, h1, h2, rfl⟩ := h
    exact ⟨p, q, Below.trod hl (hr t (by simp)).1 (hr t (by simp)).2 h1 hb (fun x hx => hlt x (by simp [hx])), trodAll_back hl hb (fun t ht => hr t (by simp [ht])) h2 (fun x hx => hlt x (by simp [hx])), rfl⟩
  | [], _ :: _, _, _, _, h, _ => h.elim
  | [], [], _ :: _, _, _, h, _ => h.elim
  | _ :: _, [], _, _, _, h, _ => h.elim
  | _ :: _, _ :: _, [], _, _, h, _ => h.elim
theorem post_law {f : Func} {s : ChangeSpec} {apart fresh handsOn : Bool} {W W' : World} {args : Array Value} {v : Value} {ds gs : List (DataW H)} {before : List MemPlace}
    (hW : DataW.Whole enc P f.params.toList s.vars apart W args.toList ds gs before) (hv : s.vars = [])
    (hres : ∀ (b : Nat) (sp : Nat → Bool) (hd : Bool), DataW.TrodAll enc P W' b sp hd f.resultTypes.toList (v.resultList f.resultTypes.size) (s.fn H (ds ++ gs)).results [])
    (hargs : (s.fn H (ds ++ gs)).args = ds) (hvs : (s.fn H (ds ++ gs)).vars = []) (hl : laidOutB P = true) (hr : ∀ t ∈ f.params.toList, P.readableRec t = true ∧ t < P.types.size) (he : Ext W W') : s.post enc P f apart fresh handsOn false W args v W' := by
  have hold : ∀ p ∈ before, p.block < W.heap.size := fun p hp => hW.lt p hp
  have hW' := hW
  obtain ⟨p, q, hA, hV, rfl, -, -⟩ := hW
  rw [hv] at hV
  obtain ⟨rfl, rfl⟩ : gs = [] ∧ q = [] := by
    cases gs with
    | nil => exact ⟨rfl, hV⟩
    | cons _ _ => exact hV.elim
  refine ⟨ds, [], p ++ [], [], p, [], hW', hres _ _ _, ?_, ?_, he.frame _, fun h => by cases h⟩
  · rw [hargs]; exact trodAll_back hl he hr hA fun x hx => hold x (by simp [hx])
  · rw [hv, hvs]; rfl
theorem wf_i64m {n : Int} (h : (Lit.int .i64 n).wf = true) : I64 n := wf_i64 h
theorem openI {t e : TypeId} {v : Value} {d : DataW H} {p : List MemPlace} {W : World} {base : Nat} (ht : P.underlying t = some (.slice e)) (he : P.underlying e = some (.int .i64)) (hc : P.cellsOf e = 1) (hby : P.bytesOf e = 8)
    (hval : Value.okWide P W .any base t v) (h : DataW.Trod enc P W 0 (fun _ => true) true t v d p) {ts : List TypeId} {ds : List (DataW H)} (hsz : (DataW.weightsEach P ts ds).all (· ≤ reachBytes) = true) (j : Nat) (hj : ts[j]? = some t) (hd : ds[j]? = some d) :
    ∃ l : List Int, IntsR (ph W) v l ∧ l.length ≤ 17592186043904 := by
  obtain ⟨a0, len, cap, rfl⟩ := okWide_slice ht hval
  obtain ⟨fuel, hf⟩ := h
  rcases open_ints ht he hc hf with ⟨hcs, hx⟩ | ⟨a, len', cap', zs, hcs, _, hl, hm, hz, hx, hcell, hwz⟩
  · simp [Value.cells] at hcs
    obtain ⟨rfl, rfl, rfl⟩ := hcs
    exact ⟨[], SliceRep.nil _ _ _, by simp⟩
  · simp [Value.cells] at hcs
    obtain ⟨rfl, rfl, rfl⟩ := hcs
    simp only [Prod.mk.injEq] at hx
    obtain ⟨rfl, -⟩ := hx
    simp only [if_true] at hz
    have hreach : len * 8 ≤ 140737488351232 := by
      have := sized_slice hsz (j := j) hj hd ht
      rw [hby] at this
      simp only [lits, List.length_map, List.length_take, List.length_drop, reachBytes] at this
      omega
    have hlen : (zs.take len).length = len := by rw [List.length_take]; omega
    refine ⟨zs.take len, ⟨some a, cap, by rw [hlen], by omega, hm, ?_⟩, by omega⟩
    by_cases h0 : len = 0
    · left; rw [h0]; rfl
    · right
      obtain ⟨b, off, spot⟩ := a
      have hspot : spot = none := by simpa [Addr.add] using World.cell?_spot (hcell 0 (by omega))
      subst hspot
      refine ⟨b, off, rfl, RowRep.of fun i hi => ?_⟩
      rw [hlen] at hi
      have h1 := hcell i (by omega)
      have h2 : zs.getD i 0 = (zs.take len)[i]'(by omega) := by
        rw [List.getElem_take]; simp [List.getD, show i < zs.length by omega]
      refine ⟨[.int .i64 ((zs.take len)[i]'(by omega))], rfl, fun j hj => ?_, rfl, wf_i64m (hwz _ ?_)⟩
      · obtain rfl : j = 0 := by omega
        rw [addo, cell_ph, h2] at h1
        simpa using h1
      · rw [List.getElem_take]; exact List.getElem_mem _
theorem wf_u8 {n : Int} (h : (Lit.int .u8 n).wf = true) : 0 ≤ n ∧ n < 256 := by
  have := bounds_u8 h; omega
theorem openB {t e : TypeId} {v : Value} {d : DataW H} {p : List MemPlace} {W : World} {base : Nat} (ht : P.underlying t = some (.slice e)) (he : P.underlying e = some (.int .u8)) (hc : P.cellsOf e = 1) (hby : P.bytesOf e = 1)
    (hval : Value.okWide P W .any base t v) (h : DataW.Trod enc P W 0 (fun _ => true) true t v d p) {ts : List TypeId} {ds : List (DataW H)} (hsz : (DataW.weightsEach P ts ds).all (· ≤ reachBytes) = true) (j : Nat) (hj : ts[j]? = some t) (hd : ds[j]? = some d) :
    ∃ l : List UInt8, BytesR (ph W) v l ∧ l.length ≤ 140737488351232 := by
  obtain ⟨a0, len, cap, rfl⟩ := okWide_slice ht hval
  obtain ⟨fuel, hf⟩ := h
  rcases open_ints ht he hc hf with ⟨hcs, hx⟩ | ⟨a, len', cap', zs, hcs, _, hl, hm, hz, hx, hcell, hwz⟩
  · simp [Value.cells] at hcs
    obtain ⟨rfl, rfl, rfl⟩ := hcs
    exact ⟨[], SliceRep.nil _ _ _, by simp⟩
  · simp [Value.cells] at hcs
    obtain ⟨rfl, rfl, rfl⟩ := hcs
    simp only [Prod.mk.injEq] at hx
    obtain ⟨rfl, -⟩ := hx
    simp only [if_true] at hz
    have hreach : len * 1 ≤ 140737488351232 := by
      have := sized_slice hsz (j := j) hj hd ht
      rw [hby] at this
      simp only [lits, List.length_map, List.length_take, List.length_drop, reachBytes] at this
      omega
    have hlen : ((zs.take len).map fun n => UInt8.ofNat n.toNat).length = len := by rw [List.length_map, List.length_take]; omega
    refine ⟨(zs.take len).map fun n => UInt8.ofNat n.toNat, ⟨some a, cap, by rw [hlen], by omega, hm, ?_⟩, by omega⟩
    by_cases h0 : len = 0
    · left; rw [h0]; rfl
    · right
      obtain ⟨b, off, spot⟩ := a
      have hspot : spot = none := by simpa [Addr.add] using World.cell?_spot (hcell 0 (by omega))
      subst hspot
      refine ⟨b, off, rfl, RowRep.of fun i hi => ?_⟩
      rw [hlen] at hi
      have h1 := hcell i (by omega)
      have h2 : zs.getD i 0 = zs[i]'(by omega) := by simp [List.getD, show i < zs.length by omega]
      have h3 := wf_u8 (hwz (zs[i]'(by omega)) (List.getElem_mem _))
      refine ⟨[.int .u8 (zs[i]'(by omega))], rfl, fun j hj => ?_, ?_⟩
      · obtain rfl : j = 0 := by omega
        rw [addo, cell_ph, h2] at h1
        simpa using h1
      · simp only [ByteR, List.getElem_map, List.getElem_take, List.cons.injEq, and_true]
        refine val_int ?_
        have h4 : (zs[i]'(by omega)).toNat < 256 := by omega
        rw [UInt8.toNat_ofNat_of_lt' (by simpa using h4)]
        omega
end
end Go.Proofs.YtnpnjcaomakehaaGreat
