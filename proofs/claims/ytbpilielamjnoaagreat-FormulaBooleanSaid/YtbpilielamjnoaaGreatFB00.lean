/- the law FormulaBoolean: the walk. -/
import Derived.Test.YtbpilielamjnoaaGreatProg
import Derived.WalkKit
import Derived.WalkSpells
import Derived.WalkLawsBesides
import Derived.BigQuiet
import Derived.Deep.QuietTactic
import Derived.Lib.Hide
import Derived.Deep.DeepFit
import Derived.Handy
import Derived.Deep.LoopGhost
import Derived.Deep.DeepCutAuto
import Derived.Deep.Light
import Derived.LoopIn
import Derived.LoopNIn
import Derived.OwnWalkIn
import Derived.RangeFuncBound
import Derived.RangeFuncCalls
import Derived.RangeFuncFrom
import Derived.RangeFuncLeaves
import Derived.RangeFuncNested
import Derived.Shelf.Abstract
import Derived.Shelf.RegionOpen
import Derived.OrdersHeld
import Derived.OrdersIn
import Derived.TacticsIn
import Derived.Laws.Rows
import Derived.Laws.CopyRow
import Derived.Lib.SliceRun
import Derived.Deep.MidRow
import Derived.Deep.CutBlock
import Derived.Laws.MakeOwn
import Derived.Laws.EntriesVeiled
import Derived.Maps.OwnSet
import Derived.TacticsInMore
import Derived.WalkMore
import Derived.WideLaws
import Derived.Sort.Grow
import Derived.Shelf.SlSortCmp.WholeK
import Derived.Shelf.SlSortCmp.NoneTotal
import Derived.OwnWalk
import Derived.Shelf.SlGeneric
import Derived.Ground.SlsfProg
import Derived.Test.YtbpilielamjnoaaGreatFQ00
import Derived.Test.YtbpilielamjnoaaGreatFQ01
import Derived.Test.YtbpilielamjnoaaGreatFQ02
import Derived.Test.YtbpilielamjnoaaGreatFQ03
import Derived.Test.YtbpilielamjnoaaGreatFQ04
import Derived.Test.YtbpilielamjnoaaGreatFQ05
import Derived.Test.YtbpilielamjnoaaGreatFQ06
import Derived.Test.YtbpilielamjnoaaGreatFQ07
import Derived.Test.YtbpilielamjnoaaGreatFQ08
import Derived.Test.YtbpilielamjnoaaGreatFQ09
import Derived.Test.YtbpilielamjnoaaGreatFQ10
import Derived.Test.YtbpilielamjnoaaGreatFQ11
import Derived.Test.YtbpilielamjnoaaGreatFQ12
import Derived.Test.YtbpilielamjnoaaGreatFQ13
import Derived.Test.YtbpilielamjnoaaGreatFQ14
import Derived.Test.YtbpilielamjnoaaGreatFQ15
import Derived.Test.YtbpilielamjnoaaGreatFQ16
import Derived.Test.YtbpilielamjnoaaGreatFQ17
import Derived.Test.YtbpilielamjnoaaGreatFQ18
import Derived.Test.YtbpilielamjnoaaGreatFQ19
namespace Go.Proofs.YtbpilielamjnoaaGreat
open Go.RowKit Go.Shelf
set_option linter.unusedSimpArgs false
set_option linter.unusedVariables false
def BoolR (_ : PH) (cs : List Value) (b : Bool) : Prop := cs = [.bool b]
theorem mono_BoolR : Mono BoolR := fun _ _ _ _ _ h => h
theorem one_BoolR {h : PH} : ∀ cs x, BoolR h cs x → ∀ u ∈ cs, u.oneCell' = true := by
  rintro cs x rfl u hu
  rw [List.mem_singleton.1 hu]; rfl
theorem infoBool : (Tryz.prog.info? 4).map (fun i => (i.zero, i.size, i.bytes)) = some (some (.bool false), 1, 1) := by kernel_rfl
def bothL (a b : Fm) : List Fm := [a, b]
def partsL (a b : Fm) : List Fm := [.mk 3 0 [] [a], .mk 3 0 [] [b]]
def boolL (a b : Fm) : List Fm := [a, b, .mk 6 0 [] [a], .mk 4 0 [] (bothL a b), .mk 5 0 [] (bothL a b), .mk 3 0 [] [.mk 5 0 [] (bothL a b)], .mk 5 0 [] (partsL a b)]
theorem whole_part {cl : Int} {g : Fm} (h : wholeN cl g = true) : wholeN cl (.mk 3 0 [] [g]) = true := by
  rw [wholeN_eq]
  show ((formed1 (.mk 3 0 [] [g]) && _) && [g].all (wholeN cl)) = true
  rw [List.all_cons, h]; rfl
theorem boolL_ok {cl : Int} {a b : Fm} (ha : wholeN cl a = true) (hb : wholeN cl b = true) (sa : a.size ≤ 37) (sb : b.size ≤ 37) (da : a.deep ≤ 5) (db : b.deep ≤ 5) : ∀ x ∈ boolL a b, validF x = 0 ∧ wholeN cl x = true := by
  have hw : ∀ x ∈ boolL a b, wholeN cl x = true := by
    have h2 : ∀ op : Int, (4 ≤ op ∧ op ≤ 5) → wholeN cl (.mk op 0 [] (bothL a b)) = true := fun op h => whole_ao h fun x hx => by
      simp only [bothL, List.mem_cons, List.not_mem_nil, or_false] at hx
      rcases hx with rfl | rfl <;> assumption
    intro x hx
    simp only [boolL, List.mem_cons, List.not_mem_nil, or_false] at hx
    rcases hx with rfl | rfl | rfl | rfl | rfl | rfl | rfl
    · exact ha
    · exact hb
    · exact whole_not ha
    · exact h2 4 (by omega)
    · exact h2 5 (by omega)
    · exact whole_part (h2 5 (by omega))
    · refine whole_ao (by omega) fun x hx => ?_
      simp only [partsL, List.mem_cons, List.not_mem_nil, or_false] at hx
      rcases hx with rfl | rfl
      · exact whole_part ha
      · exact whole_part hb
  intro x hx
  refine ⟨validF_of ?_ ?_ (wholeN_B (hw x hx)), hw x hx⟩
  · simp only [boolL, List.mem_cons, List.not_mem_nil, or_false] at hx
    rcases hx with rfl | rfl | rfl | rfl | rfl | rfl | rfl <;> (try simp only [size_mk, bothL, partsL, sumN]) <;> omega
  · simp only [boolL, List.mem_cons, List.not_mem_nil, or_false] at hx
    rcases hx with rfl | rfl | rfl | rfl | rfl | rfl | rfl <;> (try simp only [deep_mk, bothL, partsL, maxN]) <;> omega
theorem boolL_hold {ps : List (List Int)} {a b : Fm} {t : Thing} : (boolL a b).map (fun x => hold ps x t) = [hold ps a t, hold ps b t, !hold ps a t, hold ps a t && hold ps b t, hold ps a t || hold ps b t,
    t.parts.any (fun p => hold ps a p || hold ps b p), t.parts.any fun p => hold ps a p || hold ps b p] := by
  have h5 : ∀ t, hold ps (.mk 5 0 [] (bothL a b)) t = (hold ps a t || hold ps b t) := fun t => by rw [hold_5 rfl]; simp [bothL, Fm.kids]
  have hp : (t.parts.any (fun p => hold ps a p) || t.parts.any fun p => hold ps b p) = t.parts.any fun p => hold ps a p || hold ps b p := by
    rw [Bool.eq_iff_iff]
    simp only [Bool.or_eq_true, List.any_eq_true]
    constructor
    · rintro (⟨p, h1, h2⟩ | ⟨p, h1, h2⟩)
      · exact ⟨p, h1, .inl h2⟩
      · exact ⟨p, h1, .inr h2⟩
    · rintro ⟨p, h1, h2 | h2⟩
      · exact .inl ⟨p, h1, h2⟩
      · exact .inr ⟨p, h1, h2⟩
  unfold boolL
  simp only [List.map_cons, List.map_nil, List.cons.injEq, and_true, true_and]
  refine ⟨hold_6 rfl rfl t, ?_, h5 t, ?_, ?_⟩
  · rw [hold_4 rfl]; simp [bothL, Fm.kids]
  · rw [hold_3 rfl rfl]; simp only [h5]
  · rw [hold_5 rfl, ← hp]
    simp only [partsL, Fm.kids, List.any_cons, List.any_nil, Bool.or_false]
    rw [hold_3 (f := .mk 3 0 [] [a]) rfl rfl, hold_3 (f := .mk 3 0 [] [b]) rfl rfl]
theorem boolAt {w0 w : World} {H0 H : PH} {oa : Option Addr} {n c : Nat} {bs : List Bool} (hM : Mem w0 H0 [own mono_BoolR 1 4 (.slice oa n c) bs] H w) (j : Nat) {b : Bool} (hj : bs[j]? = some b) :
    ∃ g, oa = some ⟨g, 0, none⟩ ∧ w.cell? ⟨g, j, none⟩ = some (.bool b) ∧ g < w.heap.size := by
  obtain ⟨hkl, hkx⟩ := List.getElem?_eq_some_iff.1 hj
  obtain ⟨g, cap, cs, hv, hcs, hc, hE, hg⟩ := hM.get 0 rfl j hkl
  rw [hkx] at hE
  cases hE
  cases hv
  refine ⟨g, rfl, ?_, hg⟩
  have := hc 0 (by omega)
  simpa using this
set_option maxRecDepth 100000 in
set_option maxHeartbeats 16000000 in
theorem formulaBooleanLaw (vl vn vm vk : Value) (l n m k : List Int) (w : World) (hl : IntsR (ph w) vl l) (hn' : IntsR (ph w) vn n) (hm : IntsR (ph w) vm m) (hk : IntsR (ph w) vk k) (_ : l.length ≤ 140737488355328) (_ : n.length ≤ 140737488355328) (hml : m.length ≤ 140737488355328) (_ : k.length ≤ 140737488355328) :
    Calls Tryz.prog 7 #[vl, vn, vm, vk] w (RetV w (.bool true)) := by
  have hl0 := hl
  have hn1 := hn'
  have hm0 := hm
  have hk0 := hk
  obtain ⟨xa, xc, rfl, -, -⟩ := hl.form
  obtain ⟨qa, qc, rfl, -, -⟩ := hn'.form
  obtain ⟨ya, yc, rfl, -, -⟩ := hm.form
  obtain ⟨za, zc, rfl, -, -⟩ := hk.form
  clear hl hm hk hn'
  go_enter Tryz.func7, Tryz.ntmps7
  go_wp2_with fail
  refine (world7_c k _ w hk0).mono ?_
  rintro e w1 ⟨B, v, ps, rk, rfl, hx, hps, ok, hp6, hT⟩
  obtain ⟨pa, pc, rfl, -, -⟩ := hps.form
  have hn0 := ok.pos
  have hn := ok.le
  clear hps ok hk0
  have hs := some07_q l _ (ps.length : Int) 12 4 5 w1 rfl (hl0.mono mono_IntR hx.ple) (by omega) (by omega) (by omega) (by omega) (by omega)
  go_wp2_with fail
  refine hs.mono ?_
  rintro e w2 ⟨a, a3, c3, a4, c4, rfl, hx2, hF, hwa, hsa, hda, -⟩
  replace hx := hx.then hx2
  replace hT := hT.keep hx2
  clear hs hx2 hl0
  have e2 := Ext.new w2 (.cells #[.int .i64 (a).op, .int .i64 (a).n, .slice a3 (a).inn.length c3, .slice a4 (a).kids.length c4] 29)
  have o11 := Proofs.YtbpilielamjnoaaGreat.Own.new w2 #[.int .i64 (a).op, .int .i64 (a).n, .slice a3 (a).inn.length c3, .slice a4 (a).kids.length c4] 29
  replace hF := mono_FmR _ _ _ _ e2.ple hF
  replace hx := hx.then e2
  replace hT := hT.keep e2
  go_upto_region 5 with (fail)
  generalize w2.alloc _ = w3 at *
  generalize w2.heap.size = g11 at *
  clear e2
  have hs := some07_q n _ (ps.length : Int) 12 4 5 w3 rfl (hn1.mono mono_IntR hx.ple) (by omega) (by omega) (by omega) (by omega) (by omega)
  go_wp2_with fail
  refine hs.mono ?_
  rintro e w4 ⟨b, b3, d3, b4, d4, rfl, hx4, hG, hwb, hsb, hdb, -⟩
  have e4 := Ext.new w4 (.cells #[.int .i64 (b).op, .int .i64 (b).n, .slice b3 (b).inn.length d3, .slice b4 (b).kids.length d4] 29)
  have o12 := Proofs.YtbpilielamjnoaaGreat.Own.new w4 #[.int .i64 (b).op, .int .i64 (b).n, .slice b3 (b).inn.length d3, .slice b4 (b).kids.length d4] 29
  replace hx4 := hx4.then e4
  replace hF := mono_FmR _ _ _ _ hx4.ple hF
  replace hG := mono_FmR _ _ _ _ e4.ple hG
  replace hT := hT.keep hx4
  replace o11 := o11.keep hx4
  replace hx := hx.then hx4
  clear hs hn1
  go_upto_region 6 with (fail)
  generalize w4.alloc _ = w5 at *
  generalize w4.heap.size = g12 at *
  clear e4 hx4
  have u0 : (w5).cell? ⟨g11, 0, none⟩ = some (.int .i64 (a).op) := (o11).facts.1 0
  have u1 : (w5).cell? ⟨g11, 1, none⟩ = some (.int .i64 (a).n) := (o11).facts.1 1
  have u2 : (w5).cell? ⟨g11, 2, none⟩ = some (.slice a3 (a).inn.length c3) := (o11).facts.1 2
  have u3 : (w5).cell? ⟨g11, 3, none⟩ = some (.slice a4 (a).kids.length c4) := (o11).facts.1 3
  have ul := (o11).lt
  have y0 : (w5).cell? ⟨g12, 0, none⟩ = some (.int .i64 (b).op) := (o12).facts.1 0
  have y1 : (w5).cell? ⟨g12, 1, none⟩ = some (.int .i64 (b).n) := (o12).facts.1 1
  have y2 : (w5).cell? ⟨g12, 2, none⟩ = some (.slice b3 (b).inn.length d3) := (o12).facts.1 2
  have y3 : (w5).cell? ⟨g12, 3, none⟩ = some (.slice b4 (b).kids.length d4) := (o12).facts.1 3
  have yl := (o12).lt
  have hBt := litN (w := w5) [⟨a, a3, c3, a4, c4, hF⟩, ⟨b, b3, d3, b4, d4, hG⟩] (by simp)
  have e5 := Ext.new w5 (.cells (fmC a a3 c3 a4 c4 ++ fmC b b3 d3 b4 d4).toArray 29)
  replace hBt : FmsR (ph (w5.alloc (.cells (fmC a a3 c3 a4 c4 ++ fmC b b3 d3 b4 d4).toArray 29))) (.slice (some ⟨w5.heap.size, 0, none⟩) 2 2) (bothL a b) := hBt
  unfold fmC at e5 hBt
  simp only [List.cons_append, List.nil_append] at e5 hBt
  go_upto_region 7 with (fail)
  generalize w5.alloc _ = w6 at *
  generalize w5.heap.size = g13 at *
  replace hF := mono_FmR _ _ _ _ e5.ple hF
  replace hG := mono_FmR _ _ _ _ e5.ple hG
  replace hT := hT.keep e5
  replace o11 := o11.keep e5
  replace o12 := o12.keep e5
  replace hx := hx.then e5
  clear e5 u0 u1 u2 u3 ul y0 y1 y2 y3 yl
  have hth := thing4_c m _ (ps.length : Int) w6 hml (hm0.mono mono_IntR hx.ple) (by omega) (by omega)
  go_wp2_with fail
  refine hth.mono ?_
  rintro e w7 ⟨t, b1, d1, b2, d2, s3, t3, rfl, hx7, hD, ht0, htn, htb⟩
  have e7 := Ext.new w7 (.cells #[.slice b1 t.cls.length d1, .slice b2 t.vals.length d2, .slice s3 t.parts.length t3] 41)
  have o14 := Own.new w7 #[.slice b1 t.cls.length d1, .slice b2 t.vals.length d2, .slice s3 t.parts.length t3] 41
  replace hx7 := hx7.then e7
  replace hF := mono_FmR _ _ _ _ hx7.ple hF
  replace hG := mono_FmR _ _ _ _ hx7.ple hG
  replace hBt := hBt.mono mono_FmR hx7.ple
  replace hD := mono_ThingR _ _ _ _ e7.ple hD
  replace hT := hT.keep hx7
  replace o11 := o11.keep hx7
  replace o12 := o12.keep hx7
  replace hx := hx.then hx7
  clear hth hm0
  go_upto_region 8 with (fail)
  generalize w7.alloc _ = W at *
  generalize w7.heap.size = g14 at *
  clear e7 hx7
  have i3 : I64 3 := by simp [I64]
  have i4 : I64 4 := by simp [I64]
  have i5 : I64 5 := by simp [I64]
  have u0 : (W).cell? ⟨g11, 0, none⟩ = some (.int .i64 (a).op) := (o11).facts.1 0
  have u1 : (W).cell? ⟨g11, 1, none⟩ = some (.int .i64 (a).n) := (o11).facts.1 1
  have u2 : (W).cell? ⟨g11, 2, none⟩ = some (.slice a3 (a).inn.length c3) := (o11).facts.1 2
  have u3 : (W).cell? ⟨g11, 3, none⟩ = some (.slice a4 (a).kids.length c4) := (o11).facts.1 3
  have ul := (o11).lt
  have y0 : (W).cell? ⟨g12, 0, none⟩ = some (.int .i64 (b).op) := (o12).facts.1 0
  have y1 : (W).cell? ⟨g12, 1, none⟩ = some (.int .i64 (b).n) := (o12).facts.1 1
  have y2 : (W).cell? ⟨g12, 2, none⟩ = some (.slice b3 (b).inn.length d3) := (o12).facts.1 2
  have y3 : (W).cell? ⟨g12, 3, none⟩ = some (.slice b4 (b).kids.length d4) := (o12).facts.1 3
  have yl := (o12).lt
  (refine wp_region_I 8 (by kernel_rfl) (by kernel_rfl) ?_; simp only [List.toList_toArray, List.take_succ_cons, List.take_zero, List.drop_succ_cons, List.drop_zero])
  (refine walkI_is (u := ?_) rfl (by simp) rfl ?_ ?_; rotate_left; (focus (intro A w' hS hA K hK; (simp only [List.map_cons, List.map_nil, knows, Is, Op.operands, Call.operands, List.lookup_cons, List.lookup_nil, Nat.reduceBEq, Bool.false_eq_true, if_false, if_true, Act.eval, Array.getD_eq_getD_getElem?, List.getElem?_toArray, List.getElem?_cons_succ, List.getElem?_cons_zero, Option.getD_some, and_true, true_and, List.append_toArray, List.nil_append, List.cons_append, List.toList_toArray, Array.toList_append, Option.toArray, List.append_nil] at hA); first | fail | (obtain ⟨hSc, hSf, hSs⟩ := hS.cells; go_simp; exact hK _ (by first | exact Ext.rfl' _ | exact Ext.new _ _ | assumption)))); (try simp only [List.nil_append, List.cons_append]))
  (refine walkI_step (FmsS [a]) rfl (by simp) rfl (stab_FmsS _) ?_ ?_; (focus (intro A w' hS hA K hK; (simp only [List.map_cons, List.map_nil, knows, Is, Op.operands, Call.operands, List.lookup_cons, List.lookup_nil, Nat.reduceBEq, Bool.false_eq_true, if_false, if_true, Act.eval, Array.getD_eq_getD_getElem?, List.getElem?_toArray, List.getElem?_cons_succ, List.getElem?_cons_zero, Option.getD_some, and_true, true_and, List.append_toArray, List.nil_append, List.cons_append, List.toList_toArray, Array.toList_append, Option.toArray, List.append_nil] at hA); (go_simp; exact hK _ _ (Ext.new _ _) (litN (w := w') [⟨a, a3, c3, a4, c4, mono_FmR _ _ _ _ hS.ple hF⟩] (by simp))))); (try simp only [List.nil_append, List.cons_append]))
  (refine walkI_step (FmS (.mk 3 0 [] [a])) rfl (by simp) rfl (stab_FmS _) ?_ ?_; (focus (intro A w' hS hA K hK; (simp only [List.map_cons, List.map_nil, knows, Is, Op.operands, Call.operands, List.lookup_cons, List.lookup_nil, Nat.reduceBEq, Bool.false_eq_true, if_false, if_true, Act.eval, Array.getD_eq_getD_getElem?, List.getElem?_toArray, List.getElem?_cons_succ, List.getElem?_cons_zero, Option.getD_some, and_true, true_and, List.append_toArray, List.nil_append, List.cons_append, List.toList_toArray, Array.toList_append, Option.toArray, List.append_nil] at hA); (go_simp; refine RetF_at (of7_c 3 _ _ _ i3 hA) ?_; intro v w'' hx'' hf; exact hK _ _ hx'' hf))); (try simp only [List.nil_append, List.cons_append]))
  (refine walkI_is (u := ?_) rfl (by simp) rfl ?_ ?_; rotate_left; (focus (intro A w' hS hA K hK; (simp only [List.map_cons, List.map_nil, knows, Is, Op.operands, Call.operands, List.lookup_cons, List.lookup_nil, Nat.reduceBEq, Bool.false_eq_true, if_false, if_true, Act.eval, Array.getD_eq_getD_getElem?, List.getElem?_toArray, List.getElem?_cons_succ, List.getElem?_cons_zero, Option.getD_some, and_true, true_and, List.append_toArray, List.nil_append, List.cons_append, List.toList_toArray, Array.toList_append, Option.toArray, List.append_nil] at hA); first | fail | (obtain ⟨hSc, hSf, hSs⟩ := hS.cells; go_simp; exact hK _ (by first | exact Ext.rfl' _ | exact Ext.new _ _ | assumption)))); (try simp only [List.nil_append, List.cons_append]))
  (refine walkI_step (FmsS [b]) rfl (by simp) rfl (stab_FmsS _) ?_ ?_; (focus (intro A w' hS hA K hK; (simp only [List.map_cons, List.map_nil, knows, Is, Op.operands, Call.operands, List.lookup_cons, List.lookup_nil, Nat.reduceBEq, Bool.false_eq_true, if_false, if_true, Act.eval, Array.getD_eq_getD_getElem?, List.getElem?_toArray, List.getElem?_cons_succ, List.getElem?_cons_zero, Option.getD_some, and_true, true_and, List.append_toArray, List.nil_append, List.cons_append, List.toList_toArray, Array.toList_append, Option.toArray, List.append_nil] at hA); (go_simp; exact hK _ _ (Ext.new _ _) (litN (w := w') [⟨b, b3, d3, b4, d4, mono_FmR _ _ _ _ hS.ple hG⟩] (by simp))))); (try simp only [List.nil_append, List.cons_append]))
  (refine walkI_step (FmS (.mk 3 0 [] [b])) rfl (by simp) rfl (stab_FmS _) ?_ ?_; (focus (intro A w' hS hA K hK; (simp only [List.map_cons, List.map_nil, knows, Is, Op.operands, Call.operands, List.lookup_cons, List.lookup_nil, Nat.reduceBEq, Bool.false_eq_true, if_false, if_true, Act.eval, Array.getD_eq_getD_getElem?, List.getElem?_toArray, List.getElem?_cons_succ, List.getElem?_cons_zero, Option.getD_some, and_true, true_and, List.append_toArray, List.nil_append, List.cons_append, List.toList_toArray, Array.toList_append, Option.toArray, List.append_nil] at hA); (go_simp; refine RetF_at (of7_c 3 _ _ _ i3 hA) ?_; intro v w'' hx'' hf; exact hK _ _ hx'' hf))); (try simp only [List.nil_append, List.cons_append]))
  (refine walkI_step (FmsS (partsL a b)) rfl (by simp) rfl (stab_FmsS _) ?_ ?_; (focus (intro A w' hS hA K hK; (simp only [List.map_cons, List.map_nil, knows, Is, Op.operands, Call.operands, List.lookup_cons, List.lookup_nil, Nat.reduceBEq, Bool.false_eq_true, if_false, if_true, Act.eval, Array.getD_eq_getD_getElem?, List.getElem?_toArray, List.getElem?_cons_succ, List.getElem?_cons_zero, Option.getD_some, and_true, true_and, List.append_toArray, List.nil_append, List.cons_append, List.toList_toArray, Array.toList_append, Option.toArray, List.append_nil] at hA); (obtain ⟨⟨f3, k3, f4, k4, hA1, hA2⟩, p3, q3, p4, q4, hA3, hA4⟩ := hA; go_simp; exact hK _ _ (Ext.new _ _) (litN (w := w') [⟨_, f3, k3, f4, k4, hA2⟩, ⟨_, p3, q3, p4, q4, hA4⟩] (by simp))))); (try simp only [List.nil_append, List.cons_append]))
  (refine walkI_step (FmsS (partsL a b)) rfl (by simp) rfl (stab_FmsS _) ?_ ?_; (focus (intro A w' hS hA K hK; (simp only [List.map_cons, List.map_nil, knows, Is, Op.operands, Call.operands, List.lookup_cons, List.lookup_nil, Nat.reduceBEq, Bool.false_eq_true, if_false, if_true, Act.eval, Array.getD_eq_getD_getElem?, List.getElem?_toArray, List.getElem?_cons_succ, List.getElem?_cons_zero, Option.getD_some, and_true, true_and, List.append_toArray, List.nil_append, List.cons_append, List.toList_toArray, Array.toList_append, Option.toArray, List.append_nil] at hA); (go_simp; exact hK _ _ (Ext.rfl' _) hA))); (try simp only [List.nil_append, List.cons_append]))
  (refine walkI_nil ?_; simp only [List.nil_append, List.cons_append, fins, Is, forall_eq, Act.put, List.setIfInBounds_toArray, List.set_cons_zero, List.set_cons_succ])
  rintro W2 hx2 v44 - v45 - v47 - v48 - v49 - v15 hPt
  replace hF := mono_FmR _ _ _ _ hx2.ple hF
  replace hG := mono_FmR _ _ _ _ hx2.ple hG
  replace hBt := hBt.mono mono_FmR hx2.ple
  replace hD := mono_ThingR _ _ _ _ hx2.ple hD
  replace hT := hT.keep hx2
  replace o11 := o11.keep hx2
  replace o12 := o12.keep hx2
  replace o14 := o14.keep hx2
  replace hx := hx.then hx2
  clear hx2 u0 u1 u2 u3 ul y0 y1 y2 y3 yl
  have u0 : (W2).cell? ⟨g11, 0, none⟩ = some (.int .i64 (a).op) := (o11).facts.1 0
  have u1 : (W2).cell? ⟨g11, 1, none⟩ = some (.int .i64 (a).n) := (o11).facts.1 1
  have u2 : (W2).cell? ⟨g11, 2, none⟩ = some (.slice a3 (a).inn.length c3) := (o11).facts.1 2
  have u3 : (W2).cell? ⟨g11, 3, none⟩ = some (.slice a4 (a).kids.length c4) := (o11).facts.1 3
  have ul := (o11).lt
  have y0 : (W2).cell? ⟨g12, 0, none⟩ = some (.int .i64 (b).op) := (o12).facts.1 0
  have y1 : (W2).cell? ⟨g12, 1, none⟩ = some (.int .i64 (b).n) := (o12).facts.1 1
  have y2 : (W2).cell? ⟨g12, 2, none⟩ = some (.slice b3 (b).inn.length d3) := (o12).facts.1 2
  have y3 : (W2).cell? ⟨g12, 3, none⟩ = some (.slice b4 (b).kids.length d4) := (o12).facts.1 3
  have yl := (o12).lt
  go_upto_region 9 with (fail)
  (refine wp_region_I 16 (by kernel_rfl) (by kernel_rfl) ?_; simp only [List.toList_toArray, List.take_succ_cons, List.take_zero, List.drop_succ_cons, List.drop_zero])
  iterate 3 (refine walkI_is (u := ?_) rfl (by simp) rfl ?_ ?_; rotate_left; (focus (intro A w' hS hA K hK; (simp only [List.map_cons, List.map_nil, knows, Is, Op.operands, Call.operands, List.lookup_cons, List.lookup_nil, Nat.reduceBEq, Bool.false_eq_true, if_false, if_true, Act.eval, Array.getD_eq_getD_getElem?, List.getElem?_toArray, List.getElem?_cons_succ, List.getElem?_cons_zero, Option.getD_some, and_true, true_and, List.append_toArray, List.nil_append, List.cons_append, List.toList_toArray, Array.toList_append, Option.toArray, List.append_nil] at hA); first | fail | (obtain ⟨hSc, hSf, hSs⟩ := hS.cells; go_simp; exact hK _ (by first | exact Ext.rfl' _ | exact Ext.new _ _ | assumption)))); (try simp only [List.nil_append, List.cons_append]))
  (refine walkI_step (FmS (.mk 6 0 [] [a])) rfl (by simp) rfl (stab_FmS _) ?_ ?_; (focus (intro A w' hS hA K hK; (simp only [List.map_cons, List.map_nil, knows, Is, Op.operands, Call.operands, List.lookup_cons, List.lookup_nil, Nat.reduceBEq, Bool.false_eq_true, if_false, if_true, Act.eval, Array.getD_eq_getD_getElem?, List.getElem?_toArray, List.getElem?_cons_succ, List.getElem?_cons_zero, Option.getD_some, and_true, true_and, List.append_toArray, List.nil_append, List.cons_append, List.toList_toArray, Array.toList_append, Option.toArray, List.append_nil] at hA); (go_simp; refine RetF_at (not7w_c a _ _ ⟨a3, c3, a4, c4, rfl, mono_FmR _ _ _ _ hS.ple hF⟩) ?_; intro v w'' hx'' hf; exact hK _ _ hx'' hf))); (try simp only [List.nil_append, List.cons_append]))
  (refine walkI_is (u := ?_) rfl (by simp) rfl ?_ ?_; rotate_left; (focus (intro A w' hS hA K hK; (simp only [List.map_cons, List.map_nil, knows, Is, Op.operands, Call.operands, List.lookup_cons, List.lookup_nil, Nat.reduceBEq, Bool.false_eq_true, if_false, if_true, Act.eval, Array.getD_eq_getD_getElem?, List.getElem?_toArray, List.getElem?_cons_succ, List.getElem?_cons_zero, Option.getD_some, and_true, true_and, List.append_toArray, List.nil_append, List.cons_append, List.toList_toArray, Array.toList_append, Option.toArray, List.append_nil] at hA); first | fail | (obtain ⟨hSc, hSf, hSs⟩ := hS.cells; go_simp; exact hK _ (by first | exact Ext.rfl' _ | exact Ext.new _ _ | assumption)))); (try simp only [List.nil_append, List.cons_append]))
  (refine walkI_step (FmS (.mk 4 0 [] (bothL a b))) rfl (by simp) rfl (stab_FmS _) ?_ ?_; (focus (intro A w' hS hA K hK; (simp only [List.map_cons, List.map_nil, knows, Is, Op.operands, Call.operands, List.lookup_cons, List.lookup_nil, Nat.reduceBEq, Bool.false_eq_true, if_false, if_true, Act.eval, Array.getD_eq_getD_getElem?, List.getElem?_toArray, List.getElem?_cons_succ, List.getElem?_cons_zero, Option.getD_some, and_true, true_and, List.append_toArray, List.nil_append, List.cons_append, List.toList_toArray, Array.toList_append, Option.toArray, List.append_nil] at hA); (go_simp; refine RetF_at (of7_c 4 _ _ _ i4 (hBt.mono mono_FmR hS.ple)) ?_; intro v w'' hx'' hf; exact hK _ _ hx'' hf))); (try simp only [List.nil_append, List.cons_append]))
  (refine walkI_is (u := ?_) rfl (by simp) rfl ?_ ?_; rotate_left; (focus (intro A w' hS hA K hK; (simp only [List.map_cons, List.map_nil, knows, Is, Op.operands, Call.operands, List.lookup_cons, List.lookup_nil, Nat.reduceBEq, Bool.false_eq_true, if_false, if_true, Act.eval, Array.getD_eq_getD_getElem?, List.getElem?_toArray, List.getElem?_cons_succ, List.getElem?_cons_zero, Option.getD_some, and_true, true_and, List.append_toArray, List.nil_append, List.cons_append, List.toList_toArray, Array.toList_append, Option.toArray, List.append_nil] at hA); first | fail | (obtain ⟨hSc, hSf, hSs⟩ := hS.cells; go_simp; exact hK _ (by first | exact Ext.rfl' _ | exact Ext.new _ _ | assumption)))); (try simp only [List.nil_append, List.cons_append]))
  (refine walkI_step (FmS (.mk 5 0 [] (bothL a b))) rfl (by simp) rfl (stab_FmS _) ?_ ?_; (focus (intro A w' hS hA K hK; (simp only [List.map_cons, List.map_nil, knows, Is, Op.operands, Call.operands, List.lookup_cons, List.lookup_nil, Nat.reduceBEq, Bool.false_eq_true, if_false, if_true, Act.eval, Array.getD_eq_getD_getElem?, List.getElem?_toArray, List.getElem?_cons_succ, List.getElem?_cons_zero, Option.getD_some, and_true, true_and, List.append_toArray, List.nil_append, List.cons_append, List.toList_toArray, Array.toList_append, Option.toArray, List.append_nil] at hA); (go_simp; refine RetF_at (of7_c 5 _ _ _ i5 (hBt.mono mono_FmR hS.ple)) ?_; intro v w'' hx'' hf; exact hK _ _ hx'' hf))); (try simp only [List.nil_append, List.cons_append]))
  (refine walkI_is (u := ?_) rfl (by simp) rfl ?_ ?_; rotate_left; (focus (intro A w' hS hA K hK; (simp only [List.map_cons, List.map_nil, knows, Is, Op.operands, Call.operands, List.lookup_cons, List.lookup_nil, Nat.reduceBEq, Bool.false_eq_true, if_false, if_true, Act.eval, Array.getD_eq_getD_getElem?, List.getElem?_toArray, List.getElem?_cons_succ, List.getElem?_cons_zero, Option.getD_some, and_true, true_and, List.append_toArray, List.nil_append, List.cons_append, List.toList_toArray, Array.toList_append, Option.toArray, List.append_nil] at hA); first | fail | (obtain ⟨hSc, hSf, hSs⟩ := hS.cells; go_simp; exact hK _ (by first | exact Ext.rfl' _ | exact Ext.new _ _ | assumption)))); (try simp only [List.nil_append, List.cons_append]))
  (refine walkI_step (FmS (.mk 5 0 [] (bothL a b))) rfl (by simp) rfl (stab_FmS _) ?_ ?_; (focus (intro A w' hS hA K hK; (simp only [List.map_cons, List.map_nil, knows, Is, Op.operands, Call.operands, List.lookup_cons, List.lookup_nil, Nat.reduceBEq, Bool.false_eq_true, if_false, if_true, Act.eval, Array.getD_eq_getD_getElem?, List.getElem?_toArray, List.getElem?_cons_succ, List.getElem?_cons_zero, Option.getD_some, and_true, true_and, List.append_toArray, List.nil_append, List.cons_append, List.toList_toArray, Array.toList_append, Option.toArray, List.append_nil] at hA); (go_simp; refine RetF_at (of7_c 5 _ _ _ i5 (hBt.mono mono_FmR hS.ple)) ?_; intro v w'' hx'' hf; exact hK _ _ hx'' hf))); (try simp only [List.nil_append, List.cons_append]))
  (refine walkI_step (FmsS [.mk 5 0 [] (bothL a b)]) rfl (by simp) rfl (stab_FmsS _) ?_ ?_; (focus (intro A w' hS hA K hK; (simp only [List.map_cons, List.map_nil, knows, Is, Op.operands, Call.operands, List.lookup_cons, List.lookup_nil, Nat.reduceBEq, Bool.false_eq_true, if_false, if_true, Act.eval, Array.getD_eq_getD_getElem?, List.getElem?_toArray, List.getElem?_cons_succ, List.getElem?_cons_zero, Option.getD_some, and_true, true_and, List.append_toArray, List.nil_append, List.cons_append, List.toList_toArray, Array.toList_append, Option.toArray, List.append_nil] at hA); (obtain ⟨f3, k3, f4, k4, hA1, hA2⟩ := hA; go_simp; exact hK _ _ (Ext.new _ _) (litN (w := w') [⟨_, f3, k3, f4, k4, hA2⟩] (by simp))))); (try simp only [List.nil_append, List.cons_append]))
  (refine walkI_step (FmS (.mk 3 0 [] [.mk 5 0 [] (bothL a b)])) rfl (by simp) rfl (stab_FmS _) ?_ ?_; (focus (intro A w' hS hA K hK; (simp only [List.map_cons, List.map_nil, knows, Is, Op.operands, Call.operands, List.lookup_cons, List.lookup_nil, Nat.reduceBEq, Bool.false_eq_true, if_false, if_true, Act.eval, Array.getD_eq_getD_getElem?, List.getElem?_toArray, List.getElem?_cons_succ, List.getElem?_cons_zero, Option.getD_some, and_true, true_and, List.append_toArray, List.nil_append, List.cons_append, List.toList_toArray, Array.toList_append, Option.toArray, List.append_nil] at hA); (go_simp; refine RetF_at (of7_c 3 _ _ _ i3 hA) ?_; intro v w'' hx'' hf; exact hK _ _ hx'' hf))); (try simp only [List.nil_append, List.cons_append]))
  (refine walkI_is (u := ?_) rfl (by simp) rfl ?_ ?_; rotate_left; (focus (intro A w' hS hA K hK; (simp only [List.map_cons, List.map_nil, knows, Is, Op.operands, Call.operands, List.lookup_cons, List.lookup_nil, Nat.reduceBEq, Bool.false_eq_true, if_false, if_true, Act.eval, Array.getD_eq_getD_getElem?, List.getElem?_toArray, List.getElem?_cons_succ, List.getElem?_cons_zero, Option.getD_some, and_true, true_and, List.append_toArray, List.nil_append, List.cons_append, List.toList_toArray, Array.toList_append, Option.toArray, List.append_nil] at hA); first | fail | (obtain ⟨hSc, hSf, hSs⟩ := hS.cells; go_simp; exact hK _ (by first | exact Ext.rfl' _ | exact Ext.new _ _ | assumption)))); (try simp only [List.nil_append, List.cons_append]))
  (refine walkI_step (FmS (.mk 5 0 [] (partsL a b))) rfl (by simp) rfl (stab_FmS _) ?_ ?_; (focus (intro A w' hS hA K hK; (simp only [List.map_cons, List.map_nil, knows, Is, Op.operands, Call.operands, List.lookup_cons, List.lookup_nil, Nat.reduceBEq, Bool.false_eq_true, if_false, if_true, Act.eval, Array.getD_eq_getD_getElem?, List.getElem?_toArray, List.getElem?_cons_succ, List.getElem?_cons_zero, Option.getD_some, and_true, true_and, List.append_toArray, List.nil_append, List.cons_append, List.toList_toArray, Array.toList_append, Option.toArray, List.append_nil] at hA); (go_simp; refine RetF_at (of7_c 5 _ _ _ i5 (hPt.mono mono_FmR hS.ple)) ?_; intro v w'' hx'' hf; exact hK _ _ hx'' hf))); (try simp only [List.nil_append, List.cons_append]))
  (refine walkI_step (FmsS (boolL a b)) rfl (by simp) rfl (stab_FmsS _) ?_ ?_; (focus (intro A w' hS hA K hK; (simp only [List.map_cons, List.map_nil, knows, Is, Op.operands, Call.operands, List.lookup_cons, List.lookup_nil, Nat.reduceBEq, Bool.false_eq_true, if_false, if_true, Act.eval, Array.getD_eq_getD_getElem?, List.getElem?_toArray, List.getElem?_cons_succ, List.getElem?_cons_zero, Option.getD_some, and_true, true_and, List.append_toArray, List.nil_append, List.cons_append, List.toList_toArray, Array.toList_append, Option.toArray, List.append_nil] at hA); (obtain ⟨hA1, hA2, ⟨f3, k3, f4, k4, hA3, hB3⟩, ⟨p3, q3, p4, q4, hA4, hB4⟩, ⟨r3, s3', r4, s4, hA5, hB5⟩, ⟨t3', m3, t4, m4, hA6, hB6⟩, j3, h3, j4, h4, hA7, hB7⟩ := hA; go_simp; exact hK _ _ (Ext.new _ _) (litN (w := w') [⟨a, a3, c3, a4, c4, mono_FmR _ _ _ _ hS.ple hF⟩, ⟨b, b3, d3, b4, d4, mono_FmR _ _ _ _ hS.ple hG⟩, ⟨_, f3, k3, f4, k4, hB3⟩, ⟨_, p3, q3, p4, q4, hB4⟩, ⟨_, r3, s3', r4, s4, hB5⟩, ⟨_, t3', m3, t4, m4, hB6⟩, ⟨_, j3, h3, j4, h4, hB7⟩] (by simp))))); (try simp only [List.nil_append, List.cons_append]))
  (refine walkI_step (FmsS (boolL a b)) rfl (by simp) rfl (stab_FmsS _) ?_ ?_; (focus (intro A w' hS hA K hK; (simp only [List.map_cons, List.map_nil, knows, Is, Op.operands, Call.operands, List.lookup_cons, List.lookup_nil, Nat.reduceBEq, Bool.false_eq_true, if_false, if_true, Act.eval, Array.getD_eq_getD_getElem?, List.getElem?_toArray, List.getElem?_cons_succ, List.getElem?_cons_zero, Option.getD_some, and_true, true_and, List.append_toArray, List.nil_append, List.cons_append, List.toList_toArray, Array.toList_append, Option.toArray, List.append_nil] at hA); (go_simp; exact hK _ _ (Ext.rfl' _) hA))); (try simp only [List.nil_append, List.cons_append]))
  (refine walkI_nil ?_; simp only [List.nil_append, List.cons_append, fins, Is, forall_eq, Act.put, List.setIfInBounds_toArray, List.set_cons_zero, List.set_cons_succ])
  rintro W3 hx3 v53 - v55 - v57 - v59 - v60 - v61 - v63 - v64 - v16 hL
  replace hD := mono_ThingR _ _ _ _ hx3.ple hD
  replace hT := hT.keep hx3
  replace o14 := o14.keep hx3
  replace hx := hx.then hx3
  have hok := boolL_ok hwa hwb (by omega) (by omega) (by omega) (by omega)
  have hmap := boolL_hold (ps := ps) (a := a) (b := b) (t := t)
  obtain ⟨la, lc, rfl, -, hL⟩ := hL.form
  generalize boolL a b = L at *
  obtain ⟨HA, hHA⟩ : ∃ x, hold ps a t = x := ⟨_, rfl⟩
  obtain ⟨HB, hHB⟩ : ∃ x, hold ps b t = x := ⟨_, rfl⟩
  obtain ⟨P, hP⟩ : ∃ x, (t.parts.any fun p => hold ps a p || hold ps b p) = x := ⟨_, rfl⟩
  rw [hHA, hHB, hP] at hmap
  have hL7 : L.length = 7 := by have := congrArg List.length hmap; simpa using this
  have hL7' : L.length ≤ 7 := by omega
  replace hL7 := Lib.hid hL7
  replace hmap := Lib.hid hmap
  clear hHA hHB hP hx3 u0 u1 u2 u3 ul y0 y1 y2 y3 yl hF hG hBt hPt o11 o12 hwa hwb hsa hsb hda hdb
  have hM0 := (Mem.start W3 noH (noH_le _)).nil mono_BoolR 1 4
  simp only [List.nil_append] at hM0
  have n0 : ((0 : Int) != 0) = false := rfl
  go_wp2_with fail
  go_loopw [17, 18] (fun u i wr => ∃ k : Nat, k ≤ L.length ∧ i = .int .i64 k ∧ Mem W3 noH [own mono_BoolR 1 4 u ((L.map fun x => hold ps x t).take k)] noH wr) (fun _ i _ => L.length - (intOf i).toNat)
  case atStart => exact ⟨0, by omega, rfl, hM0⟩
  case round =>
    clear hM0
    obtain ⟨k, hk, rfl, hM⟩ := hrel
    obtain ⟨va, vc, rfl, -⟩ := hM.form 0 rfl
    by_cases hlt : k < L.length
    · obtain ⟨jb, jo, e3, f3, e4, f4, ej, x0, x1, x2, x3, hE, xl⟩ := FmsR.at (hL.mono mono_FmR hM.ex.ple) k hlt
      cases ej
      obtain ⟨hvx, hwx⟩ := hok _ (List.getElem_mem hlt)
      have hd1 : decide (k < L.length) = true := decide_eq_true hlt
      have htk : Hid ((L.map fun x => hold ps x t).take (k + 1) = (L.map fun x => hold ps x t).take k ++ [hold ps L[k] t]) := by
        show _ = _
        rw [List.take_succ_eq_append_getElem (by simpa using hlt), List.getElem_map]
      have hll : ((L.map fun x => hold ps x t).take k).length ≤ 7 := by rw [List.length_take, List.length_map]; omega
      generalize L[k] = x at *
      generalize (L.map fun x => hold ps x t).take k = bs at *
      have hc := Lib.hid (fun W (e : Ext wr W) => fholds_c hn B x t _ _ W ((hT.keep hM.ex).keep e) (mono_FmR _ _ _ _ e.ple hE) (mono_ThingR _ _ _ _ (hM.ex.then e).ple hD) hvx hwx ht0 htn htb)
      generalize hold ps x t = hb at *
      unfold fmC at hc
      have o14r := o14.keep hM.ex
      have q0 : wr.cell? ⟨g14, 0, none⟩ = some (.slice b1 t.cls.length d1) := o14r.facts.1 0
      have q1 : wr.cell? ⟨g14, 1, none⟩ = some (.slice b2 t.vals.length d2) := o14r.facts.1 1
      have q2 : wr.cell? ⟨g14, 2, none⟩ = some (.slice s3 t.parts.length t3) := o14r.facts.1 2
      have ql := o14r.lt
      clear hE
      go_upto_region 14 with (fail)
      (refine wp_region_I 12 (by kernel_rfl) (by kernel_rfl) ?_; simp only [List.toList_toArray, List.take_succ_cons, List.take_zero, List.drop_succ_cons, List.drop_zero])
      iterate 6 (refine walkI_is (u := ?_) rfl (by simp) rfl ?_ ?_; rotate_left; (focus (intro A w' hS hA K hK; (simp only [List.map_cons, List.map_nil, knows, Is, Op.operands, Call.operands, List.lookup_cons, List.lookup_nil, Nat.reduceBEq, Bool.false_eq_true, if_false, if_true, Act.eval, Array.getD_eq_getD_getElem?, List.getElem?_toArray, List.getElem?_cons_succ, List.getElem?_cons_zero, Option.getD_some, and_true, true_and, List.append_toArray, List.nil_append, List.cons_append, List.toList_toArray, Array.toList_append, Option.toArray, List.append_nil] at hA); first | fail | (obtain ⟨hSc, hSf, hSs⟩ := hS.cells; go_simp; exact hK _ (by first | exact Ext.rfl' _ | exact Ext.new _ _ | assumption)))); (try simp only [List.nil_append, List.cons_append]))
      (refine walkI_is (u := ?_) rfl (by simp) rfl ?_ ?_; rotate_left; (focus (intro A w' hS hA K hK; (simp only [List.map_cons, List.map_nil, knows, Is, Op.operands, Call.operands, List.lookup_cons, List.lookup_nil, Nat.reduceBEq, Bool.false_eq_true, if_false, if_true, Act.eval, Array.getD_eq_getD_getElem?, List.getElem?_toArray, List.getElem?_cons_succ, List.getElem?_cons_zero, Option.getD_some, and_true, true_and, List.append_toArray, List.nil_append, List.cons_append, List.toList_toArray, Array.toList_append, Option.toArray, List.append_nil] at hA); first | (go_simp; refine (hc.out _ hS).mono ?_; rintro e w9 ⟨rfl, hx9⟩; exact hK _ hx9) | (obtain ⟨hSc, hSf, hSs⟩ := hS.cells; go_simp; exact hK _ (by first | exact Ext.rfl' _ | exact Ext.new _ _ | assumption)))); (try simp only [List.nil_append, List.cons_append]))
      iterate 5 (refine walkI_is (u := ?_) rfl (by simp) rfl ?_ ?_; rotate_left; (focus (intro A w' hS hA K hK; (simp only [List.map_cons, List.map_nil, knows, Is, Op.operands, Call.operands, List.lookup_cons, List.lookup_nil, Nat.reduceBEq, Bool.false_eq_true, if_false, if_true, Act.eval, Array.getD_eq_getD_getElem?, List.getElem?_toArray, List.getElem?_cons_succ, List.getElem?_cons_zero, Option.getD_some, and_true, true_and, List.append_toArray, List.nil_append, List.cons_append, List.toList_toArray, Array.toList_append, Option.toArray, List.append_nil] at hA); first | fail | (obtain ⟨hSc, hSf, hSs⟩ := hS.cells; go_simp; exact hK _ (by first | exact Ext.rfl' _ | exact Ext.new _ _ | assumption)))); (try simp only [List.nil_append, List.cons_append]))
      (refine walkI_nil ?_; simp only [List.nil_append, List.cons_append, fins, Is, forall_eq, Act.put, List.setIfInBounds_toArray, List.set_cons_zero, List.set_cons_succ])
      intro w5 hx5
      have hM4 := (hM.ext hx5).ext (Ext.new w5 (.cells #[.bool hb] 4))
      have hS := Src.lit1 (H := noH) (E := BoolR) (sz := 1) (w := w5.alloc (.cells #[.bool hb] 4)) (b := w5.heap.size) (x := hb) (cs := [.bool hb]) rfl rfl (fun j => by rw [(Proofs.YtbpilielamjnoaaGreat.Own.new w5 #[.bool hb] 4).facts.1 j]; simp)
      clear x0 x1 x2 x3 xl q0 q1 q2 ql hc hM o14r
      go_wp2_with (first | (at_builtin; refine wpList_append_M 0 rfl _ _ 55 rfl Tryz.underlying55 infoBool rfl rfl rfl hM4 rfl hS one_BoolR (by simp; omega) (by simp; omega) ?c5))
      case c5 =>
      intro v' w' hM6
      try simp only [List.set_cons_zero, List.set_cons_succ] at hM6
      rw [← htk.out] at hM6
      clear hM4 hS
      obtain ⟨na, nc, rfl, -⟩ := hM6.form 0 rfl
      go_wp2_with fail
      go_roundw
      case rel => exact ⟨k + 1, by omega, by go_num, hM6⟩
      case measure => simp [intOf]; omega
    · obtain rfl : k = L.length := by omega
      have hd1 : decide (L.length < L.length) = false := by simp
      have hbs : (L.map fun x => hold ps x t).take L.length = [HA, HB, !HA, HA && HB, HA || HB, P, P] := by
        rw [← hmap.out, List.take_of_length_le (by simp)]
      rw [hbs] at hM
      simp only [hbs]
      obtain ⟨g, rfl, c0, gl⟩ := boolAt hM 0 (b := HA) rfl
      obtain ⟨g', e, c1, -⟩ := boolAt hM 1 (b := HB) rfl
      cases e
      obtain ⟨g', e, c2, -⟩ := boolAt hM 2 (b := !HA) rfl
      cases e
      obtain ⟨g', e, c3, -⟩ := boolAt hM 3 (b := HA && HB) rfl
      cases e
      obtain ⟨g', e, c4, -⟩ := boolAt hM 4 (b := HA || HB) rfl
      cases e
      obtain ⟨g', e, c5, -⟩ := boolAt hM 5 (b := P) rfl
      cases e
      obtain ⟨g', e, c6, -⟩ := boolAt hM 6 (b := P) rfl
      cases e
      have hxr := hx.then hM.ex
      have n1 : (true == true) = true := rfl
      have n2 : (false == false) = true := rfl
      have n3 : (P == P) = true := by simp
      clear hbs hM hmap hok hL
      have l7 : [HA, HB, !HA, HA && HB, HA || HB, P, P].length = 7 := rfl
      generalize [HA, HB, !HA, HA && HB, HA || HB, P, P].length = N7 at *
      have l0 : (0 : Int) < (N7 : Int) := by omega
      have l1 : (1 : Int) < (N7 : Int) := by omega
      have l2 : (2 : Int) < (N7 : Int) := by omega
      have l3 : (3 : Int) < (N7 : Int) := by omega
      have l4 : (4 : Int) < (N7 : Int) := by omega
      have l5 : (5 : Int) < (N7 : Int) := by omega
      have l6 : (6 : Int) < (N7 : Int) := by omega
      have l8 : 0 < N7 := by omega
      replace l7 := Lib.hid l7
      go_upto_region 18 with (fail)
      cases HA <;> cases HB
      all_goals
        simp only [Bool.not_true, Bool.not_false, Bool.and_true, Bool.and_false, Bool.true_and, Bool.false_and, Bool.or_true, Bool.or_false, Bool.true_or, Bool.false_or] at c0 c1 c2 c3 c4
        (refine wp_region_I 49 (by kernel_rfl) (by kernel_rfl) ?_; simp only [List.toList_toArray, List.take_succ_cons, List.take_zero, List.drop_succ_cons, List.drop_zero])
        (repeat (first | (refine walkI_no rfl (by simp) rfl rfl rfl ?_ ?_; (focus (simp [undef]; done)); (try simp only [List.nil_append, List.cons_append])) | (refine walkI_is (u := ?_) rfl (by simp) rfl ?_ ?_; rotate_left; (focus (intro A w' hS hA K hK; (simp only [List.map_cons, List.map_nil, knows, Is, Op.operands, Call.operands, List.lookup_cons, List.lookup_nil, Nat.reduceBEq, Bool.false_eq_true, if_false, if_true, Act.eval, Array.getD_eq_getD_getElem?, List.getElem?_toArray, List.getElem?_cons_succ, List.getElem?_cons_zero, Option.getD_some, and_true, true_and, List.append_toArray, List.nil_append, List.cons_append, List.toList_toArray, Array.toList_append, Option.toArray, List.append_nil] at hA); first | fail | (obtain ⟨hSc, hSf, hSs⟩ := hS.cells; go_simp; exact hK _ (by first | exact Ext.rfl' _ | exact Ext.new _ _ | assumption)))); (try simp only [List.nil_append, List.cons_append])) | (refine walkI_yesis (u := ?_) rfl (by simp) rfl rfl rfl ?_ ?_; rotate_left; (focus (intro A w' hS hA K hK; (simp only [List.map_cons, List.map_nil, knows, Is, Op.operands, Call.operands, List.lookup_cons, List.lookup_nil, Nat.reduceBEq, Bool.false_eq_true, if_false, if_true, Act.eval, Array.getD_eq_getD_getElem?, List.getElem?_toArray, List.getElem?_cons_succ, List.getElem?_cons_zero, Option.getD_some, and_true, true_and, List.append_toArray, List.nil_append, List.cons_append, List.toList_toArray, Array.toList_append, Option.toArray, List.append_nil] at hA); first | fail | (obtain ⟨hSc, hSf, hSs⟩ := hS.cells; go_simp; exact hK _ (by first | exact Ext.rfl' _ | exact Ext.new _ _ | assumption)))); (try simp only [List.nil_append, List.cons_append]))))
        (refine walkI_yesis (u := ?_) rfl (by simp) rfl rfl rfl ?_ ?_; rotate_left; (focus (intro A w' hS hA K hK; (simp only [List.map_cons, List.map_nil, knows, Is, Op.operands, Call.operands, List.lookup_cons, List.lookup_nil, Nat.reduceBEq, Bool.false_eq_true, if_false, if_true, Act.eval, Array.getD_eq_getD_getElem?, List.getElem?_toArray, List.getElem?_cons_succ, List.getElem?_cons_zero, Option.getD_some, and_true, true_and, List.append_toArray, List.nil_append, List.cons_append, List.toList_toArray, Array.toList_append, Option.toArray, List.append_nil] at hA); first | (go_simp; refine RetV_at (lives07_c _) ?_; intro w'' hx''; exact hK _ hx'') | (obtain ⟨hSc, hSf, hSs⟩ := hS.cells; go_simp; exact hK _ (by first | exact Ext.rfl' _ | exact Ext.new _ _ | assumption)))); (try simp only [List.nil_append, List.cons_append]))
        iterate 2 (refine walkI_is (u := ?_) rfl (by simp) rfl ?_ ?_; rotate_left; (focus (intro A w' hS hA K hK; (simp only [List.map_cons, List.map_nil, knows, Is, Op.operands, Call.operands, List.lookup_cons, List.lookup_nil, Nat.reduceBEq, Bool.false_eq_true, if_false, if_true, Act.eval, Array.getD_eq_getD_getElem?, List.getElem?_toArray, List.getElem?_cons_succ, List.getElem?_cons_zero, Option.getD_some, and_true, true_and, List.append_toArray, List.nil_append, List.cons_append, List.toList_toArray, Array.toList_append, Option.toArray, List.append_nil] at hA); first | fail | (obtain ⟨hSc, hSf, hSs⟩ := hS.cells; go_simp; exact hK _ (by first | exact Ext.rfl' _ | exact Ext.new _ _ | assumption)))); (try simp only [List.nil_append, List.cons_append]))
        (refine walkI_nil ?_; simp only [List.nil_append, List.cons_append, fins, Is, forall_eq, Act.put, List.setIfInBounds_toArray, List.set_cons_zero, List.set_cons_succ])
        intro W5 hx5
        go_wp2_with fail
        go_ret
        exact ⟨rfl, hxr.then hx5⟩
end Go.Proofs.YtbpilielamjnoaaGreat
