/- a thing with one more part (plain).; package thing: clone.; copy onto an own slice; append of make that takes new memory: steps of the walk.; slices.Insert at things: one thing into an own slice.; package thing: With. -/
import Derived.Test.YtnhcplmcddlgnaaGreatProg
import Derived.WalkKit
import Derived.WalkSpells
import Derived.WalkLawsBesides
import Derived.BigQuiet
import Derived.Deep.QuietTactic
import Derived.Lib.Hide
import Derived.Deep.DeepFit
import Derived.Handy
import Derived.Deep.LoopGhost
import Derived.Deep.DeepCutAuto
import Derived.Deep.Light
import Derived.OrdersHeld
import Derived.OrdersIn
import Derived.TacticsIn
import Derived.RangeFuncCalls
import Derived.Lib.Zigzag
import Derived.Lib.SliceRun
import Derived.Lib.VarintDec
import Derived.LoopIn
import Derived.LoopNIn
import Derived.OwnWalkIn
import Derived.RangeFuncBound
import Derived.RangeFuncFrom
import Derived.RangeFuncLeaves
import Derived.RangeFuncNested
import Derived.Shelf.Abstract
import Derived.Shelf.RegionOpen
import Derived.Laws.Bits64
import Derived.Laws.Bits64b
import Derived.Lib.SlBytesRow
import Derived.Lib.BufferRead
import Derived.Laws.Rows
import Derived.Laws.CopyRow
import Derived.Laws.StructEq
import Derived.Shelf.SlGeneric
import Derived.Shelf.SlSortCmp.WholeK
import Derived.Shelf.SlSortCmp.NoneTotal
import Derived.Ground.SlsfProg
import Derived.Sort.Grow
import Derived.Shelf.Slices.Clone
import Derived.Shelf.Slices.Turned
import Derived.Shelf.Slices.In.SortNone
import Derived.Shelf.Sort.Plain
import Derived.Sort.OwnSortedInts
import Derived.Deep.CutBlock
import Derived.Laws.CopyOwn
import Derived.Lib.Overlaps
import Derived.Lib.Walk
import Derived.Laws.Externs
import Derived.Test.YtnhcplmcddlgnaaGreatTN00
import Derived.Test.YtnhcplmcddlgnaaGreatTN01
import Derived.Test.YtnhcplmcddlgnaaGreatTN02
import Derived.Test.YtnhcplmcddlgnaaGreatTN03
import Derived.Test.YtnhcplmcddlgnaaGreatTN04
import Derived.Test.YtnhcplmcddlgnaaGreatTN05
import Derived.Test.YtnhcplmcddlgnaaGreatTN06
import Derived.Test.YtnhcplmcddlgnaaGreatTN07
import Derived.Test.YtnhcplmcddlgnaaGreatTN08
import Derived.Test.YtnhcplmcddlgnaaGreatTN09
import Derived.Test.YtnhcplmcddlgnaaGreatTN10
import Derived.Test.YtnhcplmcddlgnaaGreatTN11
import Derived.Test.YtnhcplmcddlgnaaGreatTN12
import Derived.Test.YtnhcplmcddlgnaaGreatTN13
import Derived.Test.YtnhcplmcddlgnaaGreatTN14
import Derived.Test.YtnhcplmcddlgnaaGreatTN15
namespace Go.Proofs.YtnhcplmcddlgnaaGreat
set_option linter.unusedSimpArgs false
set_option linter.unusedVariables false
def joinT (t p : Thing) : Thing := .mk t.cls t.vals (insR cmpT p t.parts)
noncomputable def withE (t p : Thing) : Int := if validV t = 0 then (if validV p = 0 then validV (joinT t p) else validV p) else validV t
noncomputable def withV (t p : Thing) : Thing := if validV t = 0 ∧ validV p = 0 ∧ validV (joinT t p) = 0 then joinT t p else noT
theorem with_t {t : Thing} (p : Thing) (h : validV t ≠ 0) : withE t p = validV t ∧ withV t p = noT := ⟨if_neg h, if_neg fun e => h e.1⟩
theorem with_p {t p : Thing} (h1 : validV t = 0) (h : validV p ≠ 0) : withE t p = validV p ∧ withV t p = noT := ⟨by unfold withE; rw [if_pos h1, if_neg h], if_neg fun e => h e.2.1⟩
theorem with_j {t p : Thing} (h1 : validV t = 0) (h2 : validV p = 0) (h : validV (joinT t p) ≠ 0) : withE t p = validV (joinT t p) ∧ withV t p = noT := ⟨by unfold withE; rw [if_pos h1, if_pos h2], if_neg fun e => h e.2.2⟩
theorem with_ok {t p : Thing} (h1 : validV t = 0) (h2 : validV p = 0) (h : validV (joinT t p) = 0) : withE t p = 0 ∧ withV t p = joinT t p := ⟨by unfold withE; rw [if_pos h1, if_pos h2, h], if_pos ⟨h1, h2, h⟩⟩
theorem insR_idx (p : Thing) (l : List Thing) : ∃ k, k ≤ l.length ∧ (k < l.length → idxOf (fun x => decide (cmpT x p > 0)) l = k) ∧ (k = l.length → idxOf (fun x => decide (cmpT x p > 0)) l = -1) ∧ insR cmpT p l = l.take k ++ p :: l.drop k := by
  have hno : ∀ k, k ≤ l.findIdx (fun x => decide (cmpT x p > 0)) → ∀ j y, l[j]? = some y → j < k → ¬ cmpT p y < 0 := by
    intro k hk j y hj hjk
    obtain ⟨h1, rfl⟩ := List.getElem?_eq_some_iff.1 hj
    have := List.not_of_lt_findIdx (p := fun x => decide (cmpT x p > 0)) (show j < l.findIdx _ by omega)
    have h2 : ¬ cmpT l[j] p > 0 := by simpa using this
    have := (cmpT_ord l[j]).opp p
    omega
  have hle := List.findIdx_le_length (xs := l) (p := fun x => decide (cmpT x p > 0))
  refine ⟨l.findIdx (fun x => decide (cmpT x p > 0)), hle, fun h => ?_, fun h => ?_, ?_⟩
  · refine idxOf_found _ l _ h (List.findIdx_getElem (w := h)) ?_
    intro x hx
    obtain ⟨j, hj, rfl⟩ := List.getElem_of_mem hx
    rw [List.length_take] at hj
    rw [List.getElem_take]
    have := List.not_of_lt_findIdx (p := fun x => decide (cmpT x p > 0)) (xs := l) (i := j) (by omega)
    simpa using this
  · refine idxOf_none _ l fun x hx => ?_
    have := List.findIdx_eq_length.1 h x hx
    simpa using this
  · by_cases h : l.findIdx (fun x => decide (cmpT x p > 0)) < l.length
    · have hq := List.findIdx_getElem (p := fun x => decide (cmpT x p > 0)) (xs := l) (w := h)
      have h2 : cmpT (l[l.findIdx (fun x => decide (cmpT x p > 0))]) p > 0 := by simpa using hq
      have := insR_at (hno _ (Nat.le_refl _)) (List.getElem?_eq_getElem h) (by have := (cmpT_ord (l[l.findIdx (fun x => decide (cmpT x p > 0))])).opp p; omega)
      rw [this, List.append_assoc, List.singleton_append]
    · have := insR_end (hno _ (Nat.le_refl _)) (show _ = l.length by omega)
      rw [this, List.append_assoc, List.singleton_append]
theorem insR_permT (p : Thing) (l : List Thing) : (insR cmpT p l).Perm (p :: l) := by
  obtain ⟨k, -, -, -, h⟩ := insR_idx p l
  rw [h]
  have := List.perm_middle (a := p) (l₁ := l.take k) (l₂ := l.drop k)
  rwa [List.take_append_drop] at this
theorem join_bulk (t p : Thing) : (joinT t p).bulk = t.bulk + p.bulk := by
  have e1 := Thing.bulk_eq (joinT t p)
  have e2 := Thing.bulk_eq t
  have h1 := sumN_permT (f := Thing.bulk) (insR_permT p t.parts)
  have e3 : (joinT t p).cls = t.cls := rfl
  have e4 : (joinT t p).vals = t.vals := rfl
  have e5 : (joinT t p).parts = insR cmpT p t.parts := rfl
  rw [e3, e4, e5, h1] at e1
  simp only [sumN] at e1
  omega
theorem join_size (t p : Thing) : (joinT t p).size = t.size + p.size := by
  have e1 := Thing.size_eq (joinT t p)
  have e2 := Thing.size_eq t
  have h1 := sumN_permT (f := Thing.size) (insR_permT p t.parts)
  have e5 : (joinT t p).parts = insR cmpT p t.parts := rfl
  rw [e5, h1] at e1
  simp only [sumN] at e1
  omega
theorem insR_sorted {p : Thing} {l : List Thing} (h : l.Pairwise (fun x y => cmpT x y ≤ 0)) : insR cmpT p l = stS cmpT (l ++ [p]) := by
  rw [stT_step, stT_id h]
/-- normal forms, one in the other: a normal form -/
theorem join_norm {t p : Thing} (h1 : normT t = some t) (h2 : normT p = some p) : normT (joinT t p) = some (joinT t p) := by
  rw [normT_eq] at h1
  cases hv : valsN t.vals with
  | none => rw [hv] at h1; cases h1
  | some vs =>
    rw [hv] at h1
    cases hq : normTs t.parts with
    | none => rw [hq] at h1; cases h1
    | some q =>
      rw [hq] at h1
      simp only [Option.some.injEq] at h1
      have e1 : clsN t.cls = t.cls := congrArg Thing.cls h1
      have e2 : vs = t.vals := congrArg Thing.vals h1
      have e3 : stS cmpT q = t.parts := congrArg Thing.parts h1
      have hs : t.parts.Pairwise (fun x y => cmpT x y ≤ 0) := by rw [← e3]; exact stT_sorted q
      have hqs : ∀ y ∈ t.parts, normT y = some y := by
        have hall := (normTs_some.1 hq).twice (fun x _ {u} h => normT_twice h)
        intro y hy
        rw [← e3] at hy
        exact hall y ((stT_perm q).mem_iff.1 hy)
      have hj : normTs (insR cmpT p t.parts) = some (insR cmpT p t.parts) := normTs_some.2 (NormAll.self fun y hy => by
        rcases List.mem_cons.1 ((insR_permT p t.parts).mem_iff.1 hy) with rfl | hy
        · exact h2
        · exact hqs y hy)
      have hsort : stS cmpT (insR cmpT p t.parts) = insR cmpT p t.parts := by
        rw [insR_sorted hs]
        exact stT_id (stT_sorted _)
      have := normT_yes (t := joinT t p) (vs := t.vals) (q := insR cmpT p t.parts) (by rw [show (joinT t p).vals = t.vals from rfl, hv, e2]) hj
      rw [this]
      show some (Thing.mk (clsN t.cls) t.vals (stS cmpT (insR cmpT p t.parts))) = _
      rw [e1, hsort]; rfl
end Go.Proofs.YtnhcplmcddlgnaaGreat
namespace Go.Proofs.YtnhcplmcddlgnaaGreat
open Go.RowKit Go.Shelf
set_option linter.unusedSimpArgs false
set_option linter.unusedVariables false
/-- a thing comes back that is new throughout; the list of its parts is one's own -/
def CloneP (w : World) (t : Thing) (e : Ending) (w' : World) : Prop := ∃ (v1 v2 v3 : Value) (H' : PH), e = .returned (.agg #[v1, v2, v3]) ∧ IntsR H' v1 t.cls ∧ ValsR H' v2 t.vals ∧ OwnS w.heap.size H' w' ThingR 3 27 v3 t.parts ∧ PLe H' (up noH w w') ∧ Ext w w'
theorem up_of_noH {w w' : World} {H' : PH} (hu : PLe H' (up noH w w')) : PLe (up H' w w') (up noH w w') := by
  intro k o hk
  by_cases h : k < w.heap.size
  · unfold up at hk
    rw [if_pos h] at hk
    exact hu k o hk
  · unfold up at hk ⊢
    rw [if_neg h] at hk ⊢; exact hk
theorem up_self {w w' : World} {H' : PH} (hu : PLe H' (up noH w w')) : PLe H' (up H' w w') := by
  intro k o hk
  have := hu k o hk
  unfold up at this ⊢
  by_cases h : k < w.heap.size
  · rw [if_pos h]; exact hk
  · rw [if_neg h] at this ⊢; exact this
theorem clone_thing {w w' : World} {t : Thing} {v1 v2 v3 : Value} {H' : PH} (h1 : IntsR H' v1 t.cls) (h2 : ValsR H' v2 t.vals) (h3 : OwnS w.heap.size H' w' ThingR 3 27 v3 t.parts) (hu : PLe H' (up noH w w')) : ThingR (up noH w w') [v1, v2, v3] t :=
  thingR_iff.2 ⟨v1, v2, v3, rfl, h1.mono mono_IntR hu, h2.mono mono_ValR hu, (h3.repUp mono_ThingR (Nat.le_refl _) (up_self hu)).mono mono_ThingR (up_of_noH hu)⟩
set_option maxRecDepth 100000 in
set_option maxHeartbeats 4000000 in
theorem thclone_c (t : Thing) : ∀ (cs : List Value) (w : World), ThingR (ph w) cs t → t.bulk ≤ 1000000 →
    Calls Tryz.prog 28 #[.agg cs.toArray] w (CloneP w t) := by
  induction t using Thing.ind with
  | h t ih =>
    intro cs w hr hbk
    obtain ⟨a1, c1, a2, c2, a3, c3, rfl, l1, l2, l3, hc, hv, hp⟩ := hr.form
    have HI := Lib.hid ih; clear ih
    have hbk' := Lib.hid (Thing.bulk_eq t)
    have hb1 : t.cls.length ≤ 1000000 := by have := hbk'.out; omega
    have hb2 : t.vals.length ≤ 1000000 := by have := hbk'.out; omega
    have hb3 : t.parts.length ≤ 1000000 := by have := t.parts_le; omega
    have hM : Mem w noH [boxT w.heap.size (.slice a1 t.cls.length c1) (.slice a2 t.vals.length c2) (.slice a3 t.parts.length c3), boxT (w.heap.size + 1) (.slice none 0 0) (.slice none 0 0) (.slice none 0 0)] noH _ :=
      ((Mem.start w noH (noH_le _)).new #[.slice a1 t.cls.length c1, .slice a2 t.vals.length c2, .slice a3 t.parts.length c3] 27).new' zeroT 27 (n := w.heap.size + 1) (by simp)
    go_enter Tryz.func28, Tryz.ntmps28
    go_upto_region 1 with (fail)
    generalize hg2 : w.heap.size + 1 = g2 at *
    generalize hg1 : w.heap.size = g1 at *
    generalize World.alloc _ _ = w1 at *
    obtain ⟨z0, z1, z2, zl⟩ := hM.cellsT 0 rfl
    have hp1 := hM.ex.ple
    (refine wp_region_I 8 (by kernel_rfl) (by kernel_rfl) ?_; simp only [List.toList_toArray, List.take_succ_cons, List.take_zero, List.drop_succ_cons, List.drop_zero])
    iterate 2 (refine walkI_is (u := ?_) rfl (by simp) rfl ?_ ?_; rotate_left; (focus (intro A w' hS hA K hK; (simp only [List.map_cons, List.map_nil, knows, Is, Op.operands, Call.operands, List.lookup_cons, List.lookup_nil, Nat.reduceBEq, Bool.false_eq_true, if_false, if_true, Act.eval, Array.getD_eq_getD_getElem?, List.getElem?_toArray, List.getElem?_cons_succ, List.getElem?_cons_zero, Option.getD_some, and_true, true_and, List.append_toArray, List.nil_append, List.cons_append, List.toList_toArray, Array.toList_append, Option.toArray, List.append_nil] at hA); first | fail | (obtain ⟨hSc, hSf, hSs⟩ := hS.cells; go_simp; exact hK _ (by first | exact Ext.rfl' _ | exact Ext.new _ _ | assumption)))); (try simp only [List.nil_append, List.cons_append]))
    (refine walkI_step (fun v w' => ∃ a c, v = .slice a t.cls.length c ∧ OwnS w1.heap.size noH w' IntR 1 3 (.slice a t.cls.length c) t.cls) rfl (by simp) rfl (fun v wa wb hx ⟨a, c, h1, h2⟩ hy => ⟨a, c, h1, h2.keep hy⟩) ?_ ?_; (focus (intro A w' hS hA K hK; (simp only [List.map_cons, List.map_nil, knows, Is, Op.operands, Call.operands, List.lookup_cons, List.lookup_nil, Nat.reduceBEq, Bool.false_eq_true, if_false, if_true, Act.eval, Array.getD_eq_getD_getElem?, List.getElem?_toArray, List.getElem?_cons_succ, List.getElem?_cons_zero, Option.getD_some, and_true, true_and, List.append_toArray, List.nil_append, List.cons_append, List.toList_toArray, Array.toList_append, Option.toArray, List.append_nil] at hA); (have hsz : w1.heap.size ≤ w'.heap.size := hS.size; go_simp; refine (cloneN_c t.cls _ _ (hc.mono mono_IntR (hp1.trans hS.ple)) hb1).mono ?_; rintro e w6 ⟨v, rfl, hO, hx6⟩; obtain ⟨a, c, rfl, -⟩ := hO.form; exact hK _ _ hx6 ⟨a, c, rfl, hO.lower hsz⟩))); (try simp only [List.nil_append, List.cons_append]))
    iterate 2 (refine walkI_is (u := ?_) rfl (by simp) rfl ?_ ?_; rotate_left; (focus (intro A w' hS hA K hK; (simp only [List.map_cons, List.map_nil, knows, Is, Op.operands, Call.operands, List.lookup_cons, List.lookup_nil, Nat.reduceBEq, Bool.false_eq_true, if_false, if_true, Act.eval, Array.getD_eq_getD_getElem?, List.getElem?_toArray, List.getElem?_cons_succ, List.getElem?_cons_zero, Option.getD_some, and_true, true_and, List.append_toArray, List.nil_append, List.cons_append, List.toList_toArray, Array.toList_append, Option.toArray, List.append_nil] at hA); first | fail | (obtain ⟨hSc, hSf, hSs⟩ := hS.cells; go_simp; exact hK _ (by first | exact Ext.rfl' _ | exact Ext.new _ _ | assumption)))); (try simp only [List.nil_append, List.cons_append]))
    (refine walkI_step (fun v w' => ∃ a c, v = .slice a t.vals.length c ∧ OwnS w1.heap.size noH w' ValR 3 46 (.slice a t.vals.length c) t.vals) rfl (by simp) rfl (fun v wa wb hx ⟨a, c, h1, h2⟩ hy => ⟨a, c, h1, h2.keep hy⟩) ?_ ?_; (focus (intro A w' hS hA K hK; (simp only [List.map_cons, List.map_nil, knows, Is, Op.operands, Call.operands, List.lookup_cons, List.lookup_nil, Nat.reduceBEq, Bool.false_eq_true, if_false, if_true, Act.eval, Array.getD_eq_getD_getElem?, List.getElem?_toArray, List.getElem?_cons_succ, List.getElem?_cons_zero, Option.getD_some, and_true, true_and, List.append_toArray, List.nil_append, List.cons_append, List.toList_toArray, Array.toList_append, Option.toArray, List.append_nil] at hA); (have hsz : w1.heap.size ≤ w'.heap.size := hS.size; go_simp; refine (cloneV_c t.vals _ _ (hv.mono mono_ValR (hp1.trans hS.ple)) hb2).mono ?_; rintro e w6 ⟨v, rfl, hO, hx6⟩; obtain ⟨a, c, rfl, -⟩ := hO.form; exact hK _ _ hx6 ⟨a, c, rfl, hO.lower hsz⟩))); (try simp only [List.nil_append, List.cons_append]))
    (refine walkI_step (fun v w' => ∃ a c a' c', v = .agg #[.slice a t.cls.length c, .slice a' t.vals.length c', .slice none 0 0] ∧ OwnS w1.heap.size noH w' IntR 1 3 (.slice a t.cls.length c) t.cls ∧ OwnS w1.heap.size noH w' ValR 3 46 (.slice a' t.vals.length c') t.vals) rfl (by simp) rfl (fun v wa wb hx ⟨a, c, a', c', h1, h2, h3⟩ hy => ⟨a, c, a', c', h1, h2.keep hy, h3.keep hy⟩) ?_ ?_; (focus (intro A w' hS hA K hK; (simp only [List.map_cons, List.map_nil, knows, Is, Op.operands, Call.operands, List.lookup_cons, List.lookup_nil, Nat.reduceBEq, Bool.false_eq_true, if_false, if_true, Act.eval, Array.getD_eq_getD_getElem?, List.getElem?_toArray, List.getElem?_cons_succ, List.getElem?_cons_zero, Option.getD_some, and_true, true_and, List.append_toArray, List.nil_append, List.cons_append, List.toList_toArray, Array.toList_append, Option.toArray, List.append_nil] at hA); (obtain ⟨⟨a, c, e1, o1⟩, ⟨a', c', e2, o2⟩⟩ := hA; go_simp; exact hK _ _ (Ext.rfl' _) ⟨a, c, a', c', rfl, o1, o2⟩))); (try simp only [List.nil_append, List.cons_append]))
    (refine walkI_step (NewBox w1 #[.slice none 0 0, .slice none 0 0, .slice none 0 0] 27) rfl (by simp) rfl (stab_NewBox _ _ _) ?_ ?_; (focus (intro A w' hS hA K hK; (simp only [List.map_cons, List.map_nil, knows, Is, Op.operands, Call.operands, List.lookup_cons, List.lookup_nil, Nat.reduceBEq, Bool.false_eq_true, if_false, if_true, Act.eval, Array.getD_eq_getD_getElem?, List.getElem?_toArray, List.getElem?_cons_succ, List.getElem?_cons_zero, Option.getD_some, and_true, true_and, List.append_toArray, List.nil_append, List.cons_append, List.toList_toArray, Array.toList_append, Option.toArray, List.append_nil] at hA); (have hsz : w1.heap.size ≤ w'.heap.size := hS.size; go_simp; exact hK _ _ (Ext.new _ _) ⟨_, rfl, Proofs.YtnhcplmcddlgnaaGreat.Own.new _ _ _, hsz⟩))); (try simp only [List.nil_append, List.cons_append]))
    (refine walkI_nil ?_; simp only [List.nil_append, List.cons_append, fins, Is, forall_eq, Act.put, List.setIfInBounds_toArray, List.set_cons_zero, List.set_cons_succ])
    rintro w4 hx4 v12 - v15 - v16 ⟨x1, y1, x2, y2, rfl, o1, o2⟩ v4 ⟨g4, rfl, ho, hg4⟩
    have hM4 := mem3 hM hx4 o1 o2 ho hg4
    simp only [List.cons_append, List.nil_append] at hM4
    clear hM hx4 o1 o2 ho hg4 z0 z1 z2 zl hp1
    obtain ⟨q0, q1, q2, ql, qf⟩ := hM4.cellsF 4 rfl
    have hM5 := (hM4.setT 4 rfl (.slice x1 t.cls.length y1) (.slice x2 t.vals.length y2) (.slice none 0 0)).nil mono_ThingR 3 27
    simp only [List.set_cons_zero, List.set_cons_succ, List.cons_append, List.nil_append] at hM5
    clear hM4
    go_upto_region 2 with (fail)
    generalize World.setCell _ _ _ = w5 at *
    clear q0 q1 q2 ql qf
    obtain ⟨z0, z1, z2, zl⟩ := hM5.cellsT 0 rfl
    go_wp2_with fail
    go_loopw [16] (fun i wr => ∃ (k r : Nat) (H3 : PH) (f : Option Addr) (h : Nat), k ≤ t.parts.length ∧ i = .int .i64 k ∧ Mem w noH [boxT g1 (.slice a1 t.cls.length c1) (.slice a2 t.vals.length c2) (.slice a3 t.parts.length c3), boxT g2 (.slice none 0 0) (.slice none 0 0) (.slice none 0 0), ownI (.slice x1 t.cls.length y1) t.cls, ownV (.slice x2 t.vals.length y2) t.vals, boxT g4 (.slice x1 t.cls.length y1) (.slice x2 t.vals.length y2) (.slice f r h), ownT (.slice f r h) (t.parts.take k)] H3 wr ∧ Hid (r = (t.parts.take k).length)) (fun i _ => t.parts.length - (intOf i).toNat)
    case atStart => exact ⟨0, 0, noH, none, 0, by omega, rfl, hM5, Lib.hid rfl⟩
    case round =>
      clear hM5 z0 z1 z2 zl
      obtain ⟨k, r, H3, f, hc9, hk, rfl, hM, hrq⟩ := hrel
      by_cases hlt : k < t.parts.length
      · obtain ⟨kb, ko, k1, n1, k2, n2, k3, n3, ek, e0, e1, e2, hE, el⟩ := ThingsR.at (hp.mono mono_ThingR hM.ex.ple) k hlt
        cases ek
        have hpm := List.getElem_mem hlt
        have hpb := Thing.part_le hpm
        have hst := Lib.hid (List.take_succ_eq_append_getElem hlt)
        generalize t.parts[k] = x at *
        go_upto_region 5 with (fail)
        have ho := Proofs.YtnhcplmcddlgnaaGreat.Own.new wr #[.slice k1 x.cls.length n1, .slice k2 x.vals.length n2, .slice k3 x.parts.length n3] 27
        have hx3 : Ext wr _ := Ext.new wr (.cells #[.slice k1 x.cls.length n1, .slice k2 x.vals.length n2, .slice k3 x.parts.length n3] 27)
        replace hM := hM.ext hx3
        replace hE := mono_ThingR _ _ _ _ hx3.ple hE
        clear e0 e1 e2 el hx3
        generalize World.alloc _ _ = w3 at *
        generalize wr.heap.size = g7 at *
        have e0 : w3.cell? ⟨g7, 0, none⟩ = some (.slice k1 x.cls.length n1) := ho.facts.1 0
        have e1 : w3.cell? ⟨g7, 1, none⟩ = some (.slice k2 x.vals.length n2) := ho.facts.1 1
        have e2 : w3.cell? ⟨g7, 2, none⟩ = some (.slice k3 x.parts.length n3) := ho.facts.1 2
        have el := ho.lt
        obtain ⟨q0, q1, q2, ql⟩ := hM.cellsT 4 rfl
        clear ho
        replace hE := Lib.hid hE
        (refine wp_region_I 5 (by kernel_rfl) (by kernel_rfl) ?_; simp only [List.toList_toArray, List.take_succ_cons, List.take_zero, List.drop_succ_cons, List.drop_zero])
        iterate 3 (refine walkI_is (u := ?_) rfl (by simp) rfl ?_ ?_; rotate_left; (focus (intro A w' hS hA K hK; (simp only [List.map_cons, List.map_nil, knows, Is, Op.operands, Call.operands, List.lookup_cons, List.lookup_nil, Nat.reduceBEq, Bool.false_eq_true, if_false, if_true, Act.eval, Array.getD_eq_getD_getElem?, List.getElem?_toArray, List.getElem?_cons_succ, List.getElem?_cons_zero, Option.getD_some, and_true, true_and, List.append_toArray, List.nil_append, List.cons_append, List.toList_toArray, Array.toList_append, Option.toArray, List.append_nil] at hA); first | fail | (obtain ⟨hSc, hSf, hSs⟩ := hS.cells; go_simp; exact hK _ (by first | exact Ext.rfl' _ | exact Ext.new _ _ | assumption)))); (try simp only [List.nil_append, List.cons_append]))
        (refine walkI_step (fun v w' => ∃ cs : List Value, v = .agg cs.toArray ∧ ThingR (up H3 w3 w') cs x) rfl (by simp) rfl (fun v w1 w2 hx ⟨cs, h1, h2⟩ hy => ⟨cs, h1, mono_ThingR _ _ _ _ (up_then hx hy) h2⟩) ?_ ?_; (focus (intro A w' hS hA K hK; (simp only [List.map_cons, List.map_nil, knows, Is, Op.operands, Call.operands, List.lookup_cons, List.lookup_nil, Nat.reduceBEq, Bool.false_eq_true, if_false, if_true, Act.eval, Array.getD_eq_getD_getElem?, List.getElem?_toArray, List.getElem?_cons_succ, List.getElem?_cons_zero, Option.getD_some, and_true, true_and, List.append_toArray, List.nil_append, List.cons_append, List.toList_toArray, Array.toList_append, Option.toArray, List.append_nil] at hA); (go_simp; refine (HI.out x hpm _ _ (mono_ThingR _ _ _ _ hS.ple hE.out) (by omega)).mono ?_; rintro e w6 ⟨v1, v2, v3, H', rfl, i1, i2, i3, hu, h6⟩; exact hK _ _ h6 ⟨[v1, v2, v3], rfl, mono_ThingR _ _ _ _ (up_sub hM.ple hS) (mono_ThingR _ _ _ _ (up_noH) (clone_thing i1 i2 i3 hu))⟩))); (try simp only [List.nil_append, List.cons_append]))
        (refine walkI_step (fun v w' => ∃ (g : Nat) (cs : List Value), v = .slice (some ⟨g, 0, none⟩) 1 1 ∧ Own w' g cs.toArray 27 ∧ ThingR (up H3 w3 w') cs x) rfl (by simp) rfl (fun v w1 w2 hx ⟨g, cs, h1, h2, h3⟩ hy => ⟨g, cs, h1, h2.keep hy, mono_ThingR _ _ _ _ (up_then hx hy) h3⟩) ?_ ?_; (focus (intro A w' hS hA K hK; (simp only [List.map_cons, List.map_nil, knows, Is, Op.operands, Call.operands, List.lookup_cons, List.lookup_nil, Nat.reduceBEq, Bool.false_eq_true, if_false, if_true, Act.eval, Array.getD_eq_getD_getElem?, List.getElem?_toArray, List.getElem?_cons_succ, List.getElem?_cons_zero, Option.getD_some, and_true, true_and, List.append_toArray, List.nil_append, List.cons_append, List.toList_toArray, Array.toList_append, Option.toArray, List.append_nil] at hA); (obtain ⟨cs, hA1, hA2⟩ := hA; obtain ⟨y1, u1, y2, u2, y3, u3, rfl, -⟩ := hA2.form; go_simp; exact hK _ _ (Ext.new _ _) ⟨_, [_, _, _], rfl, Proofs.YtnhcplmcddlgnaaGreat.Own.new _ _ _, mono_ThingR _ _ _ _ (up_then hS (Ext.new _ _)) hA2⟩))); (try simp only [List.nil_append, List.cons_append]))
        (refine walkI_nil ?_; simp only [List.nil_append, List.cons_append, fins, Is, forall_eq, Act.put, List.setIfInBounds_toArray, List.set_cons_zero, List.set_cons_succ])
        rintro w6 hx6 v - v' ⟨g, cs, rfl, ho, hT⟩
        have hcl : cs.length = 3 := by obtain ⟨y1, u1, y2, u2, y3, u3, rfl, -⟩ := hT.form; rfl
        replace hM := hM.up hx6
        generalize up H3 w3 w6 = H5 at *
        have htl := Lib.hid (show (t.parts.take k).length ≤ 1000000 by rw [List.length_take]; omega)
        clear q0 q1 q2 ql e0 e1 e2 el hx6 hE
        obtain ⟨q0, q1, q2, ql⟩ := hM.cellsT 4 rfl
        go_wp2_with (at_builtin; refine wpList_append_M 5 rfl _ _ 23 rfl Tryz.underlying23 infoThing rfl rfl rfl (hM) rfl (srcArr (xs := [x]) ho ⟨cs, [], by simp, hcl, hT, rfl⟩ rfl) one_ThingR ?c3 ?c4 ?c5)
        case c3 => have := htl.out; simp; omega
        case c4 => have := htl.out; simp; omega
        case c5 =>
        intro v' w7 hM7
        try simp only [List.set_cons_zero, List.set_cons_succ] at hM7
        rw [← hst.out] at hM7
        clear hM ho hT q0 q1 q2 ql
        obtain ⟨na, nc, rfl, -⟩ := hM7.form 5 rfl
        obtain ⟨r', hr'⟩ : ∃ r', (t.parts.take (k + 1)).length = r' := ⟨_, rfl⟩
        rw [hr'] at hM7 ⊢
        obtain ⟨q0, q1, q2, ql, qf⟩ := hM7.cellsF 4 rfl
        go_wp2_with fail
        go_roundw
        case rel => exact ⟨k + 1, r', H5, na, nc, by omega, by go_num, hM7.set 4 rfl 2 (.slice na r' nc), Lib.hid hr'.symm⟩
        case measure => simp [intOf]; omega
      · obtain rfl : k = t.parts.length := by omega
        rw [List.take_length] at hM
        obtain ⟨q0, q1, q2, ql⟩ := hM.cellsT 4 rfl
        obtain ⟨z0, z1, z2, zl, zf⟩ := hM.cellsF 1 rfl
        have hM8 := hM.setT 1 rfl (.slice x1 t.cls.length y1) (.slice x2 t.vals.length y2) (.slice f r hc9)
        simp only [List.set_cons_zero, List.set_cons_succ] at hM8
        clear hM hp
        have hlt := Lib.hid hlt
        go_wp2_with fail
        generalize World.setCell _ _ _ = w9 at *
        obtain ⟨rq0, rq1, rq2, -⟩ := hM8.cellsT 1 rfl
        refine bodyPost_ret (v := .agg #[.slice x1 t.cls.length y1, .slice x2 t.vals.length y2, .slice f r hc9]) (by simp [results, Tryz.results28, go_sem, rq0, rq1, rq2]) rfl ?_
        obtain ⟨H6, hl6, hM9, hI⟩ := hM8.freezeS 2 rfl
        simp only [List.set_cons_zero, List.set_cons_succ] at hM9
        obtain ⟨H7, hl7, hM10, hV⟩ := hM9.freezeS 3 rfl
        simp only [List.set_cons_zero, List.set_cons_succ] at hM10
        have hO := hM10.ownS 5 rfl
        exact ⟨_, _, _, H7, rfl, hI.mono mono_IntR hl7, hV, hO, hM10.ub, hM10.ex⟩
end Go.Proofs.YtnhcplmcddlgnaaGreat
namespace Go.Proofs.YtnhcplmcddlgnaaGreat
open Go.RowKit Go.Shelf
set_option linter.unusedSimpArgs false
set_option linter.unusedVariables false
theorem run_copy_rowK {P : Program} (w : World) (dT sT ty elem : TypeId) (g o dLen dCap : Nat) (a : Addr) (sLen sCap sz : Nat) (cur : Array Value) (t : TypeId) (cs : List Value)
    (hu : P.underlying dT = some (.slice elem)) (hs : (P.info? elem).map (·.size) = some sz)
    (hg : w.heap[g]? = some (.cells cur t (0, 0))) (hn : cs.length = Nat.min sLen dLen * sz)
    (hsrc : ∀ j v, cs[j]? = some v → w.cell? (a.add j) = some v) (hfit : o + cs.length ≤ cur.size) (h1 : ∀ v ∈ cs, v.oneCell' = true) :
    (Builtin.copy_ #[dT, sT] ty #[.slice (some ⟨g, o, none⟩) dLen dCap, .slice (some a) sLen sCap]).run P w =
      .ok (goInt (Nat.min sLen dLen)) (w.setRow g (cur.toList.take o ++ cs ++ cur.toList.drop (o + cs.length)).toArray) := by
  have hf := fun c => run_firstCells_some (P := P) w sz (Nat.min sLen dLen) a sLen c cs hn hsrc
  have hst := run_storeCells_at P g o t cs 0 cur w hg (by simpa using hfit) h1
  cases hq : P.info? elem with
  | none => simp [hq] at hs
  | some i =>
    have hi : i.size = sz := by simpa [hq] using hs
    subst hi
    simp [Builtin.copy_, run_underlying hu, Builtin.lenOf, sizeOf, typeInfo, hq, hf, hst]
section
variable {α : Type} {E : PH → List Value → α → Prop} {sz : Nat} {H : PH}
theorem Cells.split : ∀ {xs ys : List α} {c : List Value}, Cells H E sz c (xs ++ ys) → ∃ c1 c2, c = c1 ++ c2 ∧ Cells H E sz c1 xs ∧ Cells H E sz c2 ys
  | [], ys, c, h => ⟨[], c, rfl, rfl, h⟩
  | x :: xs, ys, c, h => by
    obtain ⟨cs, rest, rfl, h1, h2, h3⟩ := h
    obtain ⟨c1, c2, rfl, h4, h5⟩ := Cells.split h3
    exact ⟨cs ++ c1, c2, by rw [List.append_assoc], ⟨cs, c1, rfl, h1, h2, h4⟩, h5⟩
theorem Cells.rest {T : List Value} {xs : List α} (hT : Cells H E sz (T.take (xs.length * sz)) xs) (j : Nat) : Cells H E sz ((T.drop (j * sz)).take ((xs.length - j) * sz)) (xs.drop j) := by
  by_cases hj : j ≤ xs.length
  · have h := hT
    rw [← List.take_append_drop j xs] at h
    obtain ⟨c1, c2, e, h1, h2⟩ := Cells.split h
    have l1 := h1.length
    rw [List.length_take, Nat.min_eq_left hj] at l1
    rw [List.take_append_drop] at e
    have : (T.drop (j * sz)).take ((xs.length - j) * sz) = c2 := by
      have e2 := congrArg (List.drop (j * sz)) e
      rw [List.drop_take, ← Nat.sub_mul] at e2
      rw [e2, ← l1, List.drop_left]
    rw [this]; exact h2
  · have e : xs.drop j = [] := List.drop_eq_nil_of_le (by omega)
    rw [e, show xs.length - j = 0 by omega, Nat.zero_mul, List.take_zero]; rfl
theorem Cells.splice {T : List Value} {xs ys : List α} {c : List Value} (hT : Cells H E sz (T.take (xs.length * sz)) xs) (hc : Cells H E sz c ys) (k : Nat) (hk : k ≤ xs.length) (hl : xs.length * sz ≤ T.length) :
    Cells H E sz ((T.take (k * sz) ++ c ++ T.drop (k * sz + c.length)).take ((xs.take k ++ ys ++ xs.drop (k + ys.length)).length * sz)) (xs.take k ++ ys ++ xs.drop (k + ys.length)) := by
  have hA := hT.take k
  rw [List.take_take, Nat.min_eq_left (Nat.mul_le_mul_right sz hk)] at hA
  have hR := hT.rest (k + ys.length)
  have lc := hc.length
  have lA := hA.length
  have lt : (xs.take k).length = k := by rw [List.length_take]; omega
  rw [lt] at lA
  have e1 : (xs.take k ++ ys ++ xs.drop (k + ys.length)).length * sz = (T.take (k * sz) ++ c).length + (xs.length - (k + ys.length)) * sz := by
    rw [List.length_append, List.length_append, List.length_append, lA, lc, lt, List.length_drop, Nat.add_mul, Nat.add_mul]
  rw [e1, List.take_length_add_append]
  rw [lc, ← Nat.add_mul]
  exact (hA.append hc).append hR
theorem take_ext {n : Nat} {g : Nat} {w : World} {cur : Array Value} {T : TypeId} (hg : w.heap[g]? = some (.cells cur T (0, 0))) : ∀ j u, (cur.toList.take n)[j]? = some u → w.cell? ((⟨g, 0, none⟩ : Addr).add j) = some u := by
  intro j u hu
  rw [add0, cell_of_row w g j cur T (0, 0) hg]
  rw [List.getElem?_take] at hu
  split at hu
  · simpa using hu
  · cases hu
theorem Src.cells {w : World} {ys : List α} {ad : Addr} {n c : Nat} (h : Src w H E sz (.slice (some ad) n c) ys) (h0 : 0 < ys.length) : ∃ c, Cells H E sz c ys ∧ ∀ j u, c[j]? = some u → w.cell? (ad.add j) = some u := by
  obtain ⟨a, cap, e, h1, h2⟩ := h
  cases e
  rcases h2 with rfl | ⟨ad', c, e, h3, h4⟩
  · simp at h0
  · cases e; exact ⟨c, h3, h4⟩
/-- the cells of an own slice from place k on -/
theorem Mem.from {w0 w : World} {H0 : PH} {L : List Chunk} {hm : Mono E} {T : TypeId} {xs : List α} {g n cap : Nat} (h : Mem w0 H0 L H w) (i : Nat) (hi : L[i]? = some (Proofs.YtnhcplmcddlgnaaGreat.own hm sz T (.slice (some ⟨g, 0, none⟩) n cap) xs)) (k : Nat) :
    ∃ c, Cells H E sz c (xs.drop k) ∧ ∀ j u, c[j]? = some u → w.cell? ((⟨g, k * sz, none⟩ : Addr).add j) = some u := by
  have hO : OwnC H w E sz T (.slice (some ⟨g, 0, none⟩) n cap) xs := h.ok i _ hi
  rcases hO with ⟨e, -⟩ | ⟨g', cap', cur, e, hg, h1, h2, h3, h4⟩
  · cases e
  cases e
  refine ⟨_, h4.rest k, fun j u hu => ?_⟩
  rw [addo, cell_of_row w g (k * sz + j) cur T (0, 0) hg]
  rw [List.getElem?_take] at hu
  split at hu
  · rw [List.getElem?_drop] at hu; simpa using hu
  · cases hu
/-- copy of a list onto an own slice, from place k on -/
theorem wpList_copy_M {P : Program} {w0 w : World} {H0 : PH} {L : List Chunk} {hm : Mono E} {T : TypeId} {xs ys : List α} {ops : Array Oper} {rest : List Oper} {o : Oper} {a : Act} {Q : Exit → Act → World → Prop} (i : Nat) (hgd : o.guard = none) (d s : Operand) (t : TypeId)
    (ho : o.op = .call { callee := .builtin .copy, args := #[d, s], argTypes := #[t, t] }) (ht : P.underlying t = some (.slice T)) (hinfo : (P.info? T).map (·.size) = some sz)
    {g n cap off dn dc sl sc : Nat} {ad : Addr} (k : Nat) (hd : a.eval d = .slice (some ⟨g, off, none⟩) dn dc) (hoff : off = k * sz) (hs : a.eval s = .slice (some ad) sl sc) (h : Mem w0 H0 L H w) (hi : L[i]? = some (own hm sz T (.slice (some ⟨g, 0, none⟩) n cap) xs))
    (hsrc : ∃ c, Cells H E sz c ys ∧ ∀ j u, c[j]? = some u → w.cell? (ad.add j) = some u)
    (hone : ∀ cs x, E H cs x → ∀ u ∈ cs, u.oneCell' = true) (hk : k ≤ xs.length) (hfit : k + ys.length ≤ cap) (hmn : Nat.min sl dn = ys.length) (zs : List α) (hz : xs.take k ++ ys ++ xs.drop (k + ys.length) = zs) {nz : Nat} (hnz : zs.length = nz)
    (hK : ∀ w', Mem w0 H0 (L.set i (own hm sz T (.slice (some ⟨g, 0, none⟩) nz cap) zs)) H w' → wpList P ops Q rest (a.put o.dst (goInt ys.length)) w') :
    wpList P ops Q (o :: rest) a w := by
  subst hoff hz hnz
  have hO : OwnC H w E sz T (.slice (some ⟨g, 0, none⟩) n cap) xs := h.ok i _ hi
  rcases hO with ⟨e, -⟩ | ⟨g', cap', cur, e, hg, h1, h2, h3, h4⟩
  · cases e
  cases e
  obtain ⟨c, hc, hcell⟩ := hsrc
  have lc := hc.length
  have hfr := h.fr i _ hi g rfl
  have hmul : (k + ys.length) * sz ≤ cap * sz := Nat.mul_le_mul_right _ hfit
  rw [Nat.add_mul] at hmul
  have hmul2 : xs.length * sz ≤ cap * sz := Nat.mul_le_mul_right _ h1
  have hcl : cur.toList.length = cap * sz := by simp [h3]
  have hll : xs.length * sz ≤ cur.toList.length := by rw [hcl]; exact hmul2
  have hrun := run_copy_rowK (P := P) w t t o.type T g (k * sz) dn dc ad sl sc sz cur T c ht hinfo hg (by rw [hmn]; exact lc) hcell (by rw [lc, h3]; exact hmul) (hc.one hone)
  rw [hmn] at hrun
  refine wpList_plain hgd fun _ hQ => ?_
  unfold Oper.wp execOp
  simp only [ho, resolve, invoke, builtin, Sem.run_bind, Sem.run_pure, Result.andThen_ok, List.map_toArray, List.map_cons, List.map_nil, hd, hs, hrun]
  refine hQ _ _ (hK _ ?_)
  have hl2 : (cur.toList.take (k * sz) ++ c ++ cur.toList.drop (k * sz + c.length)).toArray.size = cap * sz := by
    simp only [List.size_toArray, List.length_append, List.length_take, List.length_drop, Array.length_toList, h3, lc]; omega
  refine h.put i hi (c' := own hm sz T (.slice (some ⟨g, 0, none⟩) _ cap) _) (.inr ⟨g, cap, _, rfl, setRow_heap w g cur _ T _ hg, ?_, h2, hl2, ?_⟩) (fun k hk => .inl hk) (below_setRow h.ex hfr.1 _) fun k _ hne => setRow_other w g k _ (fun e => hne (by rw [e]; rfl))
  · simp only [List.length_append, List.length_take, List.length_drop]; omega
  · exact Cells.splice h4 hc k hk hll
end
/-- other places for the same chunks -/
theorem Mem.re {w0 w : World} {H0 H : PH} {L L' : List Chunk} (h : Mem w0 H0 L H w) (f : Nat → Nat) (hf : ∀ i c, L'[i]? = some c → L[f i]? = some c) (hinj : ∀ i j, i ≠ j → i < L'.length → j < L'.length → f i ≠ f j) : Mem w0 H0 L' H w where
  l0 := h.l0
  le := h.le
  ub := h.ub
  ex := h.ex
  ok i c hi := h.ok (f i) c (hf i c hi)
  fr i c hi := h.fr (f i) c (hf i c hi)
  ap i j c d hij hi hj := h.ap (f i) (f j) c d (hinj i j hij (List.getElem?_eq_some_iff.1 hi).1 (List.getElem?_eq_some_iff.1 hj).1) (hf i c hi) (hf j d hj)
theorem Mem.front {w0 w : World} {H0 H : PH} {L : List Chunk} {c : Chunk} (h : Mem w0 H0 (L ++ [c]) H w) : Mem w0 H0 (c :: L) H w := by
  refine h.re (fun i => if i = 0 then L.length else i - 1) (fun i d hi => ?_) (fun i j hij h1 h2 => ?_)
  · cases i with
    | zero => cases hi; simp
    | succ i =>
      rw [List.getElem?_cons_succ] at hi
      simp only [Nat.add_one_ne_zero, if_false, Nat.add_sub_cancel]
      rw [List.getElem?_append_left (List.getElem?_eq_some_iff.1 hi).1]; exact hi
  · simp only [List.length_cons] at h1 h2
    split <;> split <;> omega
theorem Mem.drop1 {w0 w : World} {H0 H : PH} {L : List Chunk} {c d : Chunk} (h : Mem w0 H0 (c :: d :: L) H w) : Mem w0 H0 (c :: L) H w := by
  refine h.re (fun i => if i = 0 then 0 else i + 1) (fun i e hi => ?_) (fun i j hij h1 h2 => ?_)
  · cases i with
    | zero => exact hi
    | succ i => simpa using hi
  · simp only [List.length_cons] at h1 h2
    split <;> split <;> omega
/-- the fixed part has grown by less than all that is new: a new block may be one's own -/
theorem Mem.growBox {w0 w w' : World} {H0 H H' : PH} {L : List Chunk} (h : Mem w0 H0 L H w) (e : Ext w w') (hl : PLe H H') (hu : PLe H' (Proofs.YtnhcplmcddlgnaaGreat.up H w w')) {g : Nat} {c : Array Value} {T : TypeId} (h3 : Own w' g c T) (hg : w.heap.size ≤ g) (hn : H' g = none) : Mem w0 H0 (L ++ [Proofs.YtnhcplmcddlgnaaGreat.box g c T]) H' w' := by
  have h1 := h.ext e
  have h2 := h.up e
  have hM : Mem w0 H0 L H' w' := {
    l0 := h.l0
    le := h.le.trans hl
    ub := hu.trans h2.ub
    ex := h1.ex
    ok := fun i c hi => c.mono (h1.ok i c hi) hl
    fr := fun i c hi k hk => ⟨(h1.fr i c hi k hk).1, by
      have := (h2.fr i c hi k hk).2
      cases hx : H' k with
      | none => rfl
      | some o => rw [hu k o hx] at this; cases this⟩
    ap := h.ap }
  refine hM.add _ h3 fun k hk => ?_
  obtain rfl : g = k := by cases hk; rfl
  exact ⟨Nat.le_trans h.ex.size hg, hn, fun i d hi he => by have := h.lt hi he; omega⟩
abbrev zeroTv : Value := .agg #[.slice none 0 0, .slice none 0 0, .slice none 0 0]
/-- i things of a row, and q zero ones behind them, in new memory -/
theorem run_append_makeT (ty : TypeId) (w : World) (g i cap q : Nat) (cs : List Value) (hcl : cs.length = i * 3) (hsrc : ∀ j v, cs[j]? = some v → w.cell? ((⟨g, 0, none⟩ : Addr).add j) = some v) (h0 : 0 < q) (hn : i + q ≤ 1000002) (hgt : cap < i + q) :
    (Builtin.append_ #[23, 3] ty #[.slice (some ⟨g, 0, none⟩) i cap, .int .i64 (q : Int)]).run Tryz.prog w =
      .ok (.slice (some ⟨w.heap.size, 0, none⟩) (i + q) (grownCap w (i + q) cap 27)) (w.drew.alloc (.cells (cs.toArray ++ Builtin.zeroCells zeroTv.cells q ++ Builtin.zeroCells zeroTv.cells (grownCap w (i + q) cap 27 - (i + q))) 27)) := by
  obtain ⟨d, hi, hz, hs, hb⟩ := info_parts infoThing
  have h1 : q ≠ 0 := by omega
  have h2 : IntKind.i64.wrap (q : Int) = q := by rw [IntKind.wrap_i64]; omega
  have h3 : ¬ ((q : Int) < 0) := by omega
  have h4 : ¬ (281474976710656 < (q : Int) * 72) := by omega
  have h5 : ¬ (281474976710656 < Builtin.nextslicecap (i + q) cap * 72) := by have := growslice_fits (bytes := 72) hgt (by omega); omega
  have h6 : ¬ (9223372036854775807 < (i : Int) + (q : Int)) := by omega
  have h7 : ¬ (q * 3 = 0) := by omega
  have h8 : ¬ (i + q ≤ cap) := by omega
  have hf := run_firstCells_some (P := Tryz.prog) w.drew 3 i ⟨g, 0, none⟩ i cap cs hcl (by simpa using hsrc)
  simp [Builtin.append_, run_underlying Tryz.underlying23, run_underlying Tryz.underlying3, sizeOf, typeInfo, zeroValue, hi, hz, hs, hb, h1, h2, h3, h4, h5, h6, h7, h8, Question.forced, newRow, grownCap, asInt, asIntOf, hf]
abbrev zT : Thing := .mk [] [] []
theorem zT_R (H : PH) : ThingR H [.slice none 0 0, .slice none 0 0, .slice none 0 0] zT := thingR_iff.2 ⟨_, _, _, rfl, SliceRep.nil _ _ _, SliceRep.nil _ _ _, SliceRep.nil _ _ _⟩
theorem zeroT_list (q : Nat) : (Builtin.zeroCells zeroTv.cells q).toList = List.replicate (q * 3) (.slice none 0 0) := by
  rw [List.eq_replicate_iff]
  refine ⟨by rw [Array.length_toList, size_zeroCells]; rfl, fun b hb => ?_⟩
  simp only [Builtin.zeroCells, Array.toList_map, List.mem_map] at hb
  obtain ⟨i, -, rfl⟩ := hb
  show (#[Value.slice none 0 0, .slice none 0 0, .slice none 0 0] : Array Value)[i % 3]! = _
  have : i % 3 < 3 := Nat.mod_lt _ (by omega)
  generalize i % 3 = j at *
  match j, this with
  | 0, _ => rfl
  | 1, _ => rfl
  | 2, _ => rfl
theorem cells_zeroT (H : PH) : ∀ q : Nat, Cells H ThingR 3 (List.replicate (q * 3) (.slice none 0 0)) (List.replicate q zT)
  | 0 => rfl
  | q + 1 => by
    rw [List.replicate_succ, show (q + 1) * 3 = q * 3 + 1 + 1 + 1 by omega, List.replicate_succ, List.replicate_succ, List.replicate_succ]
    exact ⟨[.slice none 0 0, .slice none 0 0, .slice none 0 0], _, rfl, rfl, zT_R H, cells_zeroT H q⟩
/-- the first k things of an own slice, and q zero ones, in a new slice of one's own -/
theorem wpList_append_makeT {w0 w : World} {H0 H : PH} {L : List Chunk} {xs : List Thing} {ops : Array Oper} {rest : List Oper} {o : Oper} {a : Act} {Q : Exit → Act → World → Prop} (i : Nat) (hgd : o.guard = none) (s x : Operand)
    (ho : o.op = .call { callee := .builtin .append, args := #[s, x], argTypes := #[23, 3] }) {g n cap k q : Nat} (hs : a.eval s = .slice (some ⟨g, 0, none⟩) k cap) {z : Int} (hx : a.eval x = .int .i64 z) (hz : z = (q : Int))
    (h : Mem w0 H0 L H w) (hi : L[i]? = some (ownT (.slice (some ⟨g, 0, none⟩) n cap) xs)) (hk : k ≤ xs.length) (h0 : 0 < q) (hn : k + q ≤ 1000002) (hgt : cap < k + q)
    (hK : ∀ w' g' cap', k + q ≤ cap' → Mem w0 H0 (L ++ [ownT (.slice (some ⟨g', 0, none⟩) (k + q) cap') (xs.take k ++ List.replicate q zT)]) H w' → wpList Tryz.prog ops Q rest (a.put o.dst (.slice (some ⟨g', 0, none⟩) (k + q) cap')) w') :
    wpList Tryz.prog ops Q (o :: rest) a w := by
  subst hz
  have hO : OwnC H w ThingR 3 27 (.slice (some ⟨g, 0, none⟩) n cap) xs := h.ok i _ hi
  rcases hO with ⟨e, -⟩ | ⟨g', cap', cur, e, hg, h1, h2, h3, h4⟩
  · cases e
  cases e
  have hA := h4.take k
  rw [List.take_take, Nat.min_eq_left (Nat.mul_le_mul_right 3 hk)] at hA
  have hl := hA.length
  have hlt : (xs.take k).length = k := by rw [List.length_take]; omega
  rw [hlt] at hl
  have hr := run_append_makeT o.type w g k cap q _ hl (take_ext hg) h0 hn hgt
  have hge := grownCap_ge w (k + q) cap 27
  have hmx := grownCap_le_maxLen w (k + q) cap 27 (by unfold maxLen; omega)
  refine wpList_plain hgd fun _ hQ => ?_
  unfold Oper.wp execOp
  simp only [ho, resolve, invoke, builtin, Sem.run_bind, Sem.run_pure, Result.andThen_ok, List.map_toArray, List.map_cons, List.map_nil, hs, hx, hr]
  generalize grownCap w (k + q) cap 27 = nc at *
  have hlen : (xs.take k ++ List.replicate q zT).length = k + q := by rw [List.length_append, hlt, List.length_replicate]
  have hb := (h.ext (Ext.drew' (Ext.rfl' w))).new' (n := w.heap.size) ((cur.toList.take (k * 3)).toArray ++ Builtin.zeroCells zeroTv.cells q ++ Builtin.zeroCells zeroTv.cells (nc - (k + q))) 27 rfl
  generalize hcu : (cur.toList.take (k * 3)).toArray ++ Builtin.zeroCells zeroTv.cells q ++ Builtin.zeroCells zeroTv.cells (nc - (k + q)) = cu at *
  have hown := hb.asOwn (xs := xs.take k ++ List.replicate q zT) (E := ThingR) (sz := 3) (g := w.heap.size) (cur := cu) (T := 27) L.length (by rw [List.getElem?_append_right (Nat.le_refl _), Nat.sub_self]; rfl) mono_ThingR (n := nc) (by rw [hlen]; exact hge) hmx (by
    have e : zeroTv.cells.size = 3 := rfl
    rw [← hcu, Array.size_append, Array.size_append, size_zeroCells, size_zeroCells, e, List.size_toArray, hl]; omega) (by
    rw [← hcu, Array.toList_append, Array.toList_append, List.toList_toArray, zeroT_list, hlen]
    have e : (k + q) * 3 = (cur.toList.take (k * 3) ++ List.replicate (q * 3) (Value.slice none 0 0)).length := by rw [List.length_append, hl, List.length_replicate]; omega
    rw [e, List.take_left]
    exact hA.append (cells_zeroT H q))
  rw [hlen] at hown
  have e2 : (L ++ [box w.heap.size cu 27]).set L.length (own mono_ThingR 3 27 (.slice (some ⟨w.heap.size, 0, none⟩) (k + q) nc) (xs.take k ++ List.replicate q zT)) = L ++ [ownT (.slice (some ⟨w.heap.size, 0, none⟩) (k + q) nc) (xs.take k ++ List.replicate q zT)] := by
    rw [List.set_append_right _ _ (Nat.le_refl _), Nat.sub_self]; rfl
  rw [e2] at hown
  exact hQ _ _ (hK _ _ _ hge hown)
end Go.Proofs.YtnhcplmcddlgnaaGreat
namespace Go.Proofs.YtnhcplmcddlgnaaGreat
open Go.RowKit Go.Shelf
set_option linter.unusedSimpArgs false
set_option linter.unusedVariables false
def InsP (w0 : World) (H0 : PH) (LB : List Chunk) (H : PH) (ys : List Thing) (e : Ending) (w' : World) : Prop := ∃ v', e = .returned v' ∧ Mem w0 H0 (ownT v' ys :: LB) H w'
theorem infoT3 : (Tryz.prog.info? 27).map (·.size) = some 3 := by kernel_rfl
theorem overlaps_no (w : World) (vb g o lb cb : Nat) (c1 c2 : Array Value) (hne : vb ≠ g) (h1 : Own w vb c1 27) (h2 : w.heap[g]? = some (.cells c2 27 (0, 0))) (hs : c2.size ≠ 0) :
    (callFunc 61 #[.slice (some ⟨vb, 0, none⟩) 1 1, .slice (some ⟨g, o, none⟩) lb cb]).run Tryz.prog w = .ok (.value (.bool false)) w := by
  rw [run_callFunc_extern Tryz.func61 (by kernel_rfl) (by kernel_rfl) (by kernel_rfl) (e := Extern.SlicesOverlaps.overlaps #[23, 23] #[4]) (by kernel_rfl),
    Lib.run_overlaps_apart w 23 4 27 Tryz.underlying23 3 Tryz.sizeOf27 ⟨vb, 0, none⟩ ⟨g, o, none⟩ 1 1 lb cb hne 27 27 c1.size c2.size
      (by have : w.heap[vb]? = some (.cells c1 27 (0, 0)) := h1; simp [World.shape?, this]) (by simp [World.shape?, h2]) hs (h1.facts.2 0) (h1.facts.2 _)]
  rfl
set_option maxRecDepth 100000 in
set_option maxHeartbeats 4000000 in
theorem insert_c (xs : List Thing) (p : Thing) (i : Nat) (v : Value) (vb : Nat) (cs : List Value) (w0 w : World) (H0 H : PH) (LB : List Chunk) (hM : Mem w0 H0 (ownT v xs :: box vb cs.toArray 27 :: LB) H w) (hp : ThingR H cs p) (hi : i ≤ xs.length) (hl : xs.length ≤ 1000000) :
    Calls Tryz.prog 32 #[v, .int .i64 i, .slice (some ⟨vb, 0, none⟩) 1 1] w (InsP w0 H0 (box vb cs.toArray 27 :: LB) H (xs.take i ++ p :: xs.drop i)) := by
  obtain ⟨oa, c, rfl, -⟩ := hM.form 0 rfl
  have hcl : cs.length = 3 := by obtain ⟨y1, u1, y2, u2, y3, u3, rfl, -⟩ := hp.form; rfl
  obtain ⟨N, hN⟩ : ∃ N, xs.length = N := ⟨_, rfl⟩
  rw [hN] at hM hi hl ⊢
  replace hN := Lib.hid hN
  have hS1 := srcArr (xs := [p]) (hM.box 1 rfl) ⟨cs, [], by simp, hcl, hp, rfl⟩ rfl
  have hnc : N ≤ c := by
    rcases (show OwnC H w ThingR 3 27 (.slice oa N c) xs from hM.ok 0 _ rfl) with ⟨e, -⟩ | ⟨g, cap, cur, e, hg, h1, h2, h3, h4⟩
    · cases e; omega
    · cases e; rw [← hN.out]; exact h1
  by_cases hiN : i = N
  · subst hiN
    have hfin : Hid (xs.take i ++ p :: xs.drop i = xs ++ [p]) := by
      show _ = _
      rw [← hN.out, List.take_length, List.drop_length]
    rw [hfin.out]
    have hcz : (i : Int) ≤ (c : Int) := by omega
    go_enter Tryz.func32, Tryz.ntmps32
    by_cases hck : c = i
    · go_wp2_with (first | (at_builtin; refine wpList_append_M 0 rfl _ _ 23 rfl Tryz.underlying23 infoThing rfl rfl rfl hM rfl hS1 one_ThingR (by have := hN.out; simp; omega) (by have := hN.out; simp; omega) ?c5))
      case c5 =>
      intro v' w' hM2
      try simp only [List.set_cons_zero] at hM2
      go_wp2_with fail
      go_ret
      exact ⟨_, rfl, hM2⟩
    · go_wp2_with (first | (at_builtin; refine wpList_append_M 0 rfl _ _ 23 rfl Tryz.underlying23 infoThing rfl rfl rfl hM rfl hS1 one_ThingR (by have := hN.out; simp; omega) (by have := hN.out; simp; omega) ?c5))
      case c5 =>
      intro v' w' hM2
      try simp only [List.set_cons_zero] at hM2
      go_wp2_with fail
      go_ret
      exact ⟨_, rfl, hM2⟩
  · have hiN2 : i < N := by omega
    rcases (show OwnC H w ThingR 3 27 (.slice oa N c) xs from hM.ok 0 _ rfl) with ⟨e, -⟩ | ⟨g, cap, cur, e, hg, h1, h2, h3, h4⟩
    · simp only [Value.slice.injEq] at e; omega
    simp only [Value.slice.injEq] at e
    obtain ⟨rfl, -, rfl⟩ := e
    clear h4
    have hcz : (i : Int) ≤ (c : Int) := by omega
    have hcne : ¬ c = i := by omega
    have hcm : c ≤ 9223372036854775807 := by unfold maxLen at h2; omega
    have hw1 : IntKind.i64.wrap ((N : Int) + 1) = (N : Int) + 1 := by rw [IntKind.wrap_i64]; omega
    have hw2 : IntKind.i64.wrap ((N : Int) + 1 - (i : Int)) = ((N + 1 - i : Nat) : Int) := by rw [IntKind.wrap_i64]; omega
    have hw3 : IntKind.i64.wrap ((i : Int) + 1) = (i : Int) + 1 := by rw [IntKind.wrap_i64]; omega
    have hgv : vb ≠ g := fun e => hM.ap 0 1 _ _ (by decide) rfl rfl g rfl (by rw [e]; rfl)
    have hxl : xs.length = N := hN.out
    have hz1 : Hid (xs.take (i + 1) ++ xs.drop i ++ xs.drop (i + 1 + (xs.drop i).length) = xs.take (i + 1) ++ xs.drop i) := by
      show _ = _
      have e0 : xs.drop (i + 1 + (xs.drop i).length) = [] := List.drop_eq_nil_of_le (by rw [List.length_drop]; omega)
      rw [e0, List.append_nil]
    have hz2 : Hid ((xs.take (i + 1) ++ xs.drop i).take i ++ [p] ++ (xs.take (i + 1) ++ xs.drop i).drop (i + [p].length) = xs.take i ++ p :: xs.drop i) := by
      have e1 : (xs.take (i + 1)).length = i + 1 := by rw [List.length_take]; omega
      show _ = _
      rw [List.take_append_of_le_length (by omega), List.take_take, Nat.min_eq_left (by omega), List.length_singleton]
      have e0 : (xs.take (i + 1)).drop (i + 1) = [] := List.drop_eq_nil_of_le (by omega)
      rw [List.drop_append_of_le_length (by omega), e0, List.nil_append, List.append_assoc, List.singleton_append]
    have hn1 : Hid ((xs.take (i + 1) ++ xs.drop i).length = N + 1) := Lib.hid (by rw [List.length_append, List.length_take, List.length_drop]; omega)
    have hn2 : Hid ((xs.take i ++ p :: xs.drop i).length = N + 1) := Lib.hid (by rw [List.length_append, List.length_cons, List.length_take, List.length_drop]; omega)
    have hdl : Hid ((xs.drop i).length = N - i) := Lib.hid (by rw [List.length_drop]; omega)
    have hbi1 : (0 : Int) ≤ (i : Int) + 1 := by omega
    have hbi2 : (i : Int) + 1 ≤ (N : Int) + 1 := by omega
    have hbi3 : (i : Int) ≤ (N : Int) + 1 := by omega
    have hbn1 : (0 : Int) ≤ (N : Int) + 1 := by omega
    have hti : ((i : Int) + 1).toNat = i + 1 := by omega
    have htn : ((N : Int) + 1).toNat = N + 1 := by omega
    clear hxl
    by_cases hroom : N + 1 ≤ c
    · have hr1 : decide ((N : Int) + 1 > (c : Int)) = false := by simp; omega
      have hbn2 : (N : Int) + 1 ≤ (c : Int) := by omega
      have hcne2 : ¬ c = i + 1 := by omega
      have hov := Lib.hid (fun W (e : Ext w W) o lb cb => overlaps_no W vb g o lb cb cs.toArray cur hgv ((hM.ext e).box 1 rfl) (by rw [e.block g (Array.getElem?_eq_some_iff.1 hg).1]; exact hg) (by rw [h3]; omega))
      go_enter Tryz.func32, Tryz.ntmps32
      go_upto_region 14 with (fail)
      replace hov := hov.out w (Ext.rfl' w)
      go_wp2_with (simp only [hov])
      (refine wp_region_I 8 (by kernel_rfl) (by kernel_rfl) ?_; simp only [List.toList_toArray, List.take_succ_cons, List.take_zero, List.drop_succ_cons, List.drop_zero])
      iterate 8 (refine walkI_is (u := ?_) rfl (by simp) rfl ?_ ?_; rotate_left; (focus (intro A w' hS hA K hK; (simp only [List.map_cons, List.map_nil, knows, Is, Op.operands, Call.operands, List.lookup_cons, List.lookup_nil, Nat.reduceBEq, Bool.false_eq_true, if_false, if_true, Act.eval, Array.getD_eq_getD_getElem?, List.getElem?_toArray, List.getElem?_cons_succ, List.getElem?_cons_zero, Option.getD_some, and_true, true_and, List.append_toArray, List.nil_append, List.cons_append, List.toList_toArray, Array.toList_append, Option.toArray, List.append_nil] at hA); first | fail | (obtain ⟨hSc, hSf, hSs⟩ := hS.cells; go_simp; exact hK _ (by first | exact Ext.rfl' _ | exact Ext.new _ _ | assumption)))); (try simp only [List.nil_append, List.cons_append]))
      (refine walkI_nil ?_; simp only [List.nil_append, List.cons_append, fins, Is, forall_eq, Act.put, List.setIfInBounds_toArray, List.set_cons_zero, List.set_cons_succ])
      intro w2 hx2
      have hM2 := hM.ext hx2
      have hfr := hM2.from 0 rfl i
      clear hM hov hx2 hS1
      refine wpList_copy_M 0 rfl _ _ 23 rfl Tryz.underlying23 infoT3 (i + 1) rfl rfl rfl hM2 rfl hfr one_ThingR (by have := hN.out; omega) (by rw [hdl.out]; omega) (by rw [hdl.out]; simp only [Nat.min_def]; split <;> omega) _ hz1.out hn1.out ?c5
      case c5 =>
      intro w3 hM3
      try simp only [List.set_cons_zero] at hM3
      have hS3 := (srcArr (xs := [p]) (hM3.box 1 rfl) ⟨cs, [], by simp, hcl, hp, rfl⟩ rfl).cells (by simp)
      clear hM2 hfr hz1 hdl
      go_wp2_with (first | (refine wpList_copy_M 0 rfl _ _ 23 rfl Tryz.underlying23 infoT3 i rfl rfl rfl hM3 rfl hS3 one_ThingR (by rw [hn1.out]; omega) (by simp only [List.length_singleton]; omega) (by simp only [List.length_singleton, Nat.min_def]; split <;> omega) _ hz2.out hn2.out ?d5))
      case d5 =>
      intro w4 hM4
      try simp only [List.set_cons_zero] at hM4
      go_wp2_with fail
      go_ret
      exact ⟨_, rfl, hM4⟩
    · have hr1 : decide ((N : Int) + 1 > (c : Int)) = true := by simp; omega
      have hz3 : Hid ((xs.take i ++ List.replicate (N + 1 - i) zT).take i ++ [p] ++ (xs.take i ++ List.replicate (N + 1 - i) zT).drop (i + [p].length) = xs.take i ++ p :: List.replicate (N - i) zT) := by
        have e1 : (xs.take i).length = i := by have := hN.out; rw [List.length_take]; omega
        show _ = _
        rw [List.take_append_of_le_length (by omega), List.take_take, Nat.min_self, List.length_singleton, List.drop_append, e1, List.drop_eq_nil_of_le (by omega), List.nil_append, show i + 1 - i = 1 by omega, List.drop_replicate, show N + 1 - i - 1 = N - i by omega, List.append_assoc, List.singleton_append]
      have hn3 : Hid ((xs.take i ++ p :: List.replicate (N - i) zT).length = N + 1) := Lib.hid (by have := hN.out; rw [List.length_append, List.length_cons, List.length_take, List.length_replicate]; omega)
      have hz4 : Hid ((xs.take i ++ p :: List.replicate (N - i) zT).take (i + 1) ++ xs.drop i ++ (xs.take i ++ p :: List.replicate (N - i) zT).drop (i + 1 + (xs.drop i).length) = xs.take i ++ p :: xs.drop i) := by
        have e1 : (xs.take i ++ [p]).length = i + 1 := by have := hN.out; rw [List.length_append, List.length_take, List.length_singleton]; omega
        have e2 : (xs.take i ++ p :: List.replicate (N - i) zT).drop (i + 1 + (xs.drop i).length) = [] := List.drop_eq_nil_of_le (by rw [hn3.out, hdl.out]; omega)
        have e3 : (xs.take i ++ p :: List.replicate (N - i) zT).take (i + 1) = xs.take i ++ [p] := by rw [← e1, show xs.take i ++ p :: List.replicate (N - i) zT = (xs.take i ++ [p]) ++ List.replicate (N - i) zT by rw [List.append_assoc, List.singleton_append]]; exact List.take_left
        show _ = _
        rw [e2, e3, List.append_nil, List.append_assoc, List.singleton_append]
      have hn5 : Hid ((xs.take i ++ List.replicate (N + 1 - i) zT).length = N + 1) := Lib.hid (by have := hN.out; rw [List.length_append, List.length_take, List.length_replicate]; omega)
      clear hz1 hz2 hn1
      go_enter Tryz.func32, Tryz.ntmps32
      go_wp2_with (first | (at_builtin; refine wpList_append_makeT 0 rfl _ _ rfl rfl (z := ((N + 1 - i : Nat) : Int)) rfl rfl hM rfl (by have := hN.out; omega) (by omega) (by omega) (by omega) ?c5))
      case c5 =>
      intro w2 g2 c2 hc2 hM2
      have hM2 := Mem.front (L := ownT (.slice (some ⟨g, 0, none⟩) N c) xs :: box vb cs.toArray 27 :: LB) hM2
      have e9 : i + (N + 1 - i) = N + 1 := by omega
      rw [e9] at hc2 hM2 ⊢
      have hc2m : c2 ≤ 9223372036854775807 := by
        rcases (show OwnC H w2 ThingR 3 27 (.slice (some ⟨g2, 0, none⟩) (N + 1) c2) (xs.take i ++ List.replicate (N + 1 - i) zT) from hM2.ok 0 _ rfl) with ⟨e, -⟩ | ⟨g', cap, cur, e, k1, k2, k3, k4⟩
        · cases e
        · simp only [Value.slice.injEq] at e
          obtain ⟨-, -, rfl⟩ := e
          unfold maxLen at k3; omega
      have hcne2 : ¬ c2 = i := by omega
      have hcne3 : ¬ c2 = i + 1 := by omega
      have hci2 : (i : Int) ≤ (c2 : Int) := by omega
      have hci3 : (i : Int) + 1 ≤ (c2 : Int) := by omega
      have hS3 := (srcArr (xs := [p]) (hM2.box 2 rfl) ⟨cs, [], by simp, hcl, hp, rfl⟩ rfl).cells (by simp)
      clear hM hS1 e9
      go_wp2_with (first | (refine wpList_copy_M 0 rfl _ _ 23 rfl Tryz.underlying23 infoT3 i rfl rfl rfl hM2 rfl hS3 one_ThingR (by rw [hn5.out]; omega) (by simp only [List.length_singleton]; omega) (by simp only [List.length_singleton, Nat.min_def]; split <;> omega) _ hz3.out hn3.out ?d5))
      case d5 =>
      intro w3 hM3
      try simp only [List.set_cons_zero] at hM3
      clear hM2 hS3 hz3 hn5
      go_upto_region 11 with (fail)
      (refine wp_region_I 8 (by kernel_rfl) (by kernel_rfl) ?_; simp only [List.toList_toArray, List.take_succ_cons, List.take_zero, List.drop_succ_cons, List.drop_zero])
      iterate 8 (refine walkI_is (u := ?_) rfl (by simp) rfl ?_ ?_; rotate_left; (focus (intro A w' hS hA K hK; (simp only [List.map_cons, List.map_nil, knows, Is, Op.operands, Call.operands, List.lookup_cons, List.lookup_nil, Nat.reduceBEq, Bool.false_eq_true, if_false, if_true, Act.eval, Array.getD_eq_getD_getElem?, List.getElem?_toArray, List.getElem?_cons_succ, List.getElem?_cons_zero, Option.getD_some, and_true, true_and, List.append_toArray, List.nil_append, List.cons_append, List.toList_toArray, Array.toList_append, Option.toArray, List.append_nil] at hA); first | fail | (obtain ⟨hSc, hSf, hSs⟩ := hS.cells; go_simp; exact hK _ (by first | exact Ext.rfl' _ | exact Ext.new _ _ | assumption)))); (try simp only [List.nil_append, List.cons_append]))
      (refine walkI_nil ?_; simp only [List.nil_append, List.cons_append, fins, Is, forall_eq, Act.put, List.setIfInBounds_toArray, List.set_cons_zero, List.set_cons_succ])
      intro w4 hx4
      have hM4 := hM3.ext hx4
      have hfr := hM4.from 1 rfl i
      clear hM3 hx4
      go_wp2_with (first | (refine wpList_copy_M 0 rfl _ _ 23 rfl Tryz.underlying23 infoT3 (i + 1) rfl rfl rfl hM4 rfl hfr one_ThingR (by rw [hn3.out]; omega) (by rw [hdl.out]; omega) (by rw [hdl.out]; simp only [Nat.min_def]; split <;> omega) _ hz4.out hn2.out ?e5))
      case e5 =>
      intro w5 hM5
      try simp only [List.set_cons_zero] at hM5
      go_wp2_with fail
      go_ret
      exact ⟨_, rfl, hM5.drop1⟩
end Go.Proofs.YtnhcplmcddlgnaaGreat
namespace Go.Proofs.YtnhcplmcddlgnaaGreat
open Go.RowKit Go.Shelf
set_option linter.unusedSimpArgs false
set_option linter.unusedVariables false
set_option maxRecDepth 100000 in
theorem with1_c (x p : Thing) (g3 : Nat) (cs ds : List Value) (w : World) (hx : ThingR (ph w) cs x) (hp : ThingR (ph w) ds p) (hO : Own w g3 ds.toArray 27) :
    Calls Tryz.prog 30 (#[.agg cs.toArray] ++ #[.pointer (some ⟨g3, 0, none⟩)]) w (RetV w (.bool (decide (cmpT x p > 0)))) := by
  obtain ⟨a1, c1, a2, c2, a3, c3, rfl, -⟩ := hx.form
  obtain ⟨b1, d1, b2, d2, b3, d3, rfl, -⟩ := hp.form
  have hcp := Lib.hid (fun W (e : Ext w W) => compare_c x p _ _ W (mono_ThingR _ _ _ _ e.ple hx) (mono_ThingR _ _ _ _ e.ple hp))
  have z0 : w.cell? ⟨g3, 0, none⟩ = some (.slice b1 p.cls.length d1) := hO.facts.1 0
  have z1 : w.cell? ⟨g3, 1, none⟩ = some (.slice b2 p.vals.length d2) := hO.facts.1 1
  have z2 : w.cell? ⟨g3, 2, none⟩ = some (.slice b3 p.parts.length d3) := hO.facts.1 2
  have zl := hO.lt
  simp only [List.append_toArray, List.cons_append, List.nil_append]
  clear hO hx hp
  go_enter Tryz.func30, Tryz.ntmps30
  go_wp2_with fail
  refine RetV_at (hcp.out _ (by with_reducible repeat (first | assumption | exact Ext.rfl' _ | exact Ext.new _ _ | refine Ext.alloc' ?_ _ | refine Ext.drew' ?_ | refine Ext.drewN' ?_ _ | (refine Ext.set' ?_ ?_ _; rotate_left; focus (first | omega | (simp; done) | (simp; omega))) | (refine Ext.then (b := ?_) ?_ ?_; rotate_left; rotate_left; assumption)))) ?_
  intro w2 hx2
  go_wp2_with fail
  go_ret
  exact ⟨rfl, (by with_reducible repeat (first | assumption | exact Ext.rfl' _ | exact Ext.new _ _ | refine Ext.alloc' ?_ _ | refine Ext.drew' ?_ | refine Ext.drewN' ?_ _ | (refine Ext.set' ?_ ?_ _; rotate_left; focus (first | omega | (simp; done) | (simp; omega))) | (refine Ext.then (b := ?_) ?_ ?_; rotate_left; rotate_left; assumption)))⟩
theorem up_fresh {H : PH} {w w' : World} {g : Nat} (h : PLe H (ph w)) (hs : w.heap.size ≤ w'.heap.size) (hg : w'.heap.size ≤ g) : up H w w' g = none := by
  unfold up
  rw [if_neg (by omega)]
  exact Array.getElem?_eq_none hg
set_option maxRecDepth 100000 in
set_option maxHeartbeats 8000000 in
theorem with_c (t p : Thing) (H : PH) (cs ds : List Value) (w : World) (hP : PLe H (ph w)) (hr : ThingR H cs t) (hs : ThingR H ds p) (hbt : t.bulk ≤ 400000) (hbp : p.bulk ≤ 400000) :
    Calls Tryz.prog 14 #[.agg cs.toArray, .agg ds.toArray] w (ThE H w (withV t p) (withE t p)) := by
  obtain ⟨a1, c1, a2, c2, a3, c3, rfl, -⟩ := hr.form
  obtain ⟨b1, d1, b2, d2, b3, d3, rfl, -⟩ := hs.form
  have hM : Mem w H [boxT w.heap.size (.slice a1 t.cls.length c1) (.slice a2 t.vals.length c2) (.slice a3 t.parts.length c3), boxT (w.heap.size + 1) (.slice b1 p.cls.length d1) (.slice b2 p.vals.length d2) (.slice b3 p.parts.length d3), boxT (w.heap.size + 1 + 1) (.slice none 0 0) (.slice none 0 0) (.slice none 0 0), box (w.heap.size + 1 + 1 + 1) #[.slice a1 t.cls.length c1, .slice a2 t.vals.length c2, .slice a3 t.parts.length c3, .slice b1 p.cls.length d1, .slice b2 p.vals.length d2, .slice b3 p.parts.length d3] 27] H _ :=
    ((((Mem.start w H hP).new #[.slice a1 t.cls.length c1, .slice a2 t.vals.length c2, .slice a3 t.parts.length c3] 27).new' #[.slice b1 p.cls.length d1, .slice b2 p.vals.length d2, .slice b3 p.parts.length d3] 27 (n := w.heap.size + 1) (by simp)).new' zeroT 27 (n := w.heap.size + 1 + 1) (by simp)).new' #[.slice a1 t.cls.length c1, .slice a2 t.vals.length c2, .slice a3 t.parts.length c3, .slice b1 p.cls.length d1, .slice b2 p.vals.length d2, .slice b3 p.parts.length d3] 27 (n := w.heap.size + 1 + 1 + 1) (by simp)
  go_enter Tryz.func14, Tryz.ntmps14
  go_upto_block 0 with (fail)
  generalize hg4 : w.heap.size + 1 + 1 + 1 = g4 at *
  generalize hg3 : w.heap.size + 1 + 1 = g3 at *
  generalize hg2 : w.heap.size + 1 = g2 at *
  generalize hg1 : w.heap.size = g1 at *
  generalize World.alloc _ _ = w1 at *
  go_wp2_with fail
  go_loopw [16] (fun i wr => ∃ k : Nat, k ≤ 2 ∧ i = .int .i64 k ∧ Hid ((0 < k → validV t = 0) ∧ (1 < k → validV p = 0)) ∧ Mem w H [boxT g1 (.slice a1 t.cls.length c1) (.slice a2 t.vals.length c2) (.slice a3 t.parts.length c3), boxT g2 (.slice b1 p.cls.length d1) (.slice b2 p.vals.length d2) (.slice b3 p.parts.length d3), boxT g3 (.slice none 0 0) (.slice none 0 0) (.slice none 0 0), box g4 #[.slice a1 t.cls.length c1, .slice a2 t.vals.length c2, .slice a3 t.parts.length c3, .slice b1 p.cls.length d1, .slice b2 p.vals.length d2, .slice b3 p.parts.length d3] 27] H wr) (fun i _ => 2 - (intOf i).toNat)
  case atStart => exact ⟨0, by omega, rfl, Lib.hid ⟨fun h => by omega, fun h => by omega⟩, hM⟩
  case round =>
    clear hM
    obtain ⟨k, hk, rfl, hv, hM⟩ := hrel
    rcases (show k = 0 ∨ k = 1 ∨ k = 2 by omega) with rfl | rfl | rfl
    · skip
      have y0 : _ = some (Value.slice a1 t.cls.length c1) := (hM.box 3 rfl).facts.1 0
      have y1 : _ = some (Value.slice a2 t.vals.length c2) := (hM.box 3 rfl).facts.1 1
      have y2 : _ = some (Value.slice a3 t.parts.length c3) := (hM.box 3 rfl).facts.1 2
      have yl := (hM.box 3 rfl).lt
      go_upto_region 4 with (fail)
      replace hM := hM.ext (Ext.new wr (.cells #[.slice a1 t.cls.length c1, .slice a2 t.vals.length c2, .slice a3 t.parts.length c3] 27))
      have ho := Proofs.YtnhcplmcddlgnaaGreat.Own.new wr #[.slice a1 t.cls.length c1, .slice a2 t.vals.length c2, .slice a3 t.parts.length c3] 27
      clear y0 y1 y2 yl
      generalize World.alloc _ _ = w3 at *
      generalize wr.heap.size = g7 at *
      obtain ⟨x0, x1, x2⟩ : w3.cell? ⟨g7, 0, none⟩ = some (.slice a1 t.cls.length c1) ∧ w3.cell? ⟨g7, 1, none⟩ = some (.slice a2 t.vals.length c2) ∧ w3.cell? ⟨g7, 2, none⟩ = some (.slice a3 t.parts.length c3) := ⟨ho.facts.1 0, ho.facts.1 1, ho.facts.1 2⟩
      have xl := ho.lt
      have hvc := Lib.hid (valid_c t _ w3 (mono_ThingR _ _ _ _ hM.ple hr) (by omega))
      clear ho
      go_wp2_with fail
      refine RetV_at hvc.out ?_
      intro w4 hx4
      replace hM := hM.ext hx4
      clear hvc hx4 x0 x1 x2 xl
      have hbad := Lib.hid (with_t (t := t) p)
      generalize hev : validV t = ev at *
      replace hev := Lib.hid hev
      by_cases hv0 : ev = 0
      · subst hv0
        clear hbad
        go_wp2_with fail
        go_roundw
        case rel => exact ⟨1, by omega, by go_num, Lib.hid ⟨fun _ => hev.out, fun h => by omega⟩, hM⟩
        case measure => simp [intOf]
      · have hv1 : (ev == 0) = false := by simpa using hv0
        replace hbad := Lib.hid (hbad.out hv0)
        replace hv0 := Lib.hid hv0
        obtain ⟨z0, z1, z2, zl, zf⟩ := hM.cellsF 2 rfl
        have hM8 := hM.setT 2 rfl (.slice none 0 0) (.slice none 0 0) (.slice none 0 0)
        simp only [List.set_cons_zero, List.set_cons_succ] at hM8
        clear hM
        go_wp2_with fail
        generalize World.setCell _ _ _ = w9 at *
        obtain ⟨rq0, rq1, rq2, -⟩ := hM8.cellsT 2 rfl
        refine bodyPost_ret (v := .tuple #[.agg #[(.slice none 0 0), (.slice none 0 0), (.slice none 0 0)], .int .i64 ev]) (by simp [results, Tryz.results14, go_sem, rq0, rq1, rq2]) rfl ?_
        rw [hbad.out.1, hbad.out.2]
        exact ⟨[_, _, _], rfl, noT_R _, hM8.ex⟩
    · have hvt := Lib.hid (hv.out.1 (by omega))
      have y0 : _ = some (Value.slice b1 p.cls.length d1) := (hM.box 3 rfl).facts.1 3
      have y1 : _ = some (Value.slice b2 p.vals.length d2) := (hM.box 3 rfl).facts.1 4
      have y2 : _ = some (Value.slice b3 p.parts.length d3) := (hM.box 3 rfl).facts.1 5
      have yl := (hM.box 3 rfl).lt
      go_upto_region 4 with (fail)
      replace hM := hM.ext (Ext.new wr (.cells #[.slice b1 p.cls.length d1, .slice b2 p.vals.length d2, .slice b3 p.parts.length d3] 27))
      have ho := Proofs.YtnhcplmcddlgnaaGreat.Own.new wr #[.slice b1 p.cls.length d1, .slice b2 p.vals.length d2, .slice b3 p.parts.length d3] 27
      clear y0 y1 y2 yl
      generalize World.alloc _ _ = w3 at *
      generalize wr.heap.size = g7 at *
      obtain ⟨x0, x1, x2⟩ : w3.cell? ⟨g7, 0, none⟩ = some (.slice b1 p.cls.length d1) ∧ w3.cell? ⟨g7, 1, none⟩ = some (.slice b2 p.vals.length d2) ∧ w3.cell? ⟨g7, 2, none⟩ = some (.slice b3 p.parts.length d3) := ⟨ho.facts.1 0, ho.facts.1 1, ho.facts.1 2⟩
      have xl := ho.lt
      have hvc := Lib.hid (valid_c p _ w3 (mono_ThingR _ _ _ _ hM.ple hs) (by omega))
      clear ho
      go_wp2_with fail
      refine RetV_at hvc.out ?_
      intro w4 hx4
      replace hM := hM.ext hx4
      clear hvc hx4 x0 x1 x2 xl
      have hbad := Lib.hid (with_p (t := t) (p := p) hvt.out)
      generalize hev : validV p = ev at *
      replace hev := Lib.hid hev
      by_cases hv0 : ev = 0
      · subst hv0
        clear hbad
        go_wp2_with fail
        go_roundw
        case rel => exact ⟨2, by omega, by go_num, Lib.hid ⟨fun _ => hvt.out, fun _ => hev.out⟩, hM⟩
        case measure => simp [intOf]
      · have hv1 : (ev == 0) = false := by simpa using hv0
        replace hbad := Lib.hid (hbad.out hv0)
        replace hv0 := Lib.hid hv0
        obtain ⟨z0, z1, z2, zl, zf⟩ := hM.cellsF 2 rfl
        have hM8 := hM.setT 2 rfl (.slice none 0 0) (.slice none 0 0) (.slice none 0 0)
        simp only [List.set_cons_zero, List.set_cons_succ] at hM8
        clear hM
        go_wp2_with fail
        generalize World.setCell _ _ _ = w9 at *
        obtain ⟨rq0, rq1, rq2, -⟩ := hM8.cellsT 2 rfl
        refine bodyPost_ret (v := .tuple #[.agg #[(.slice none 0 0), (.slice none 0 0), (.slice none 0 0)], .int .i64 ev]) (by simp [results, Tryz.results14, go_sem, rq0, rq1, rq2]) rfl ?_
        rw [hbad.out.1, hbad.out.2]
        exact ⟨[_, _, _], rfl, noT_R _, hM8.ex⟩
    · have hvt := Lib.hid (hv.out.1 (by omega))
      have hvp := Lib.hid (hv.out.2 (by omega))
      clear hv
      obtain ⟨z0, z1, z2, zl⟩ := hM.cellsT 0 rfl
      have hcc := Lib.hid (thclone_c t _ wr (mono_ThingR _ _ _ _ hM.ple hr) (by omega))
      go_upto_region 8 with (fail)
      go_wp2_with fail
      refine hcc.out.mono ?_
      rintro e w2 ⟨v1, v2, v3, H', rfl, hI, hV, hO, hub, hx2⟩
      obtain ⟨H2, hl2, hl3, hM2⟩ := hM.take hx2 hO mono_ThingR hub
      simp only [List.cons_append, List.nil_append] at hM2
      replace hI := hI.mono mono_IntR hl3
      replace hV := hV.mono mono_ValR hl3
      obtain ⟨i1, j1, rfl, -, hI⟩ := hI.form
      obtain ⟨i2, j2, rfl, -, hV⟩ := hV.form
      obtain ⟨i3, j3, rfl, -⟩ := hM2.form 4 rfl
      clear hcc hM hx2 hO hub z0 z1 z2 zl
      go_upto_region 9 with (fail)
      have hM := hM2.new' #[.slice i1 t.cls.length j1, .slice i2 t.vals.length j2, .slice i3 t.parts.length j3] 27 (n := w2.heap.size) rfl
      simp only [List.cons_append, List.nil_append] at hM
      clear hM2
      generalize World.alloc _ _ = w3 at *
      generalize w2.heap.size = g9 at *
      obtain ⟨q0, q1, q2, ql⟩ := hM.cellsT 5 rfl
      have hix := Lib.hid (indexFunc_thing (fun x => decide (cmpT x p > 0)) 30 #[.pointer (some ⟨g2, 0, none⟩)] _ t.parts w3 (hM.rep 4 rfl) (fun args w => enterFn Tryz.func30 rfl rfl args w) (fun w' e x hx cs hc => with1_c x p g2 cs _ w' hc (mono_ThingR _ _ _ _ ((hl2.trans hM.ple).trans e.ple) hs) ((hM.ext e).box 1 rfl)))
      obtain ⟨k, hkl, hk1, hk2, hins⟩ := insR_idx p t.parts
      replace hins := Lib.hid hins
      by_cases hkn : k < t.parts.length
      · rw [hk1 hkn] at hix
        clear hk1 hk2
        go_wp2_with fail
        refine RetV_at hix.out ?_
        intro w4 hx4
        replace hM := hM.ext hx4
        clear hix hx4 q0 q1 q2 ql
        obtain ⟨q0, q1, q2, ql⟩ := hM.cellsT 5 rfl
        go_upto_region 12 with (fail)
        clear q0 q1 q2 ql
        obtain ⟨q0, q1, q2, ql⟩ := hM.cellsT 5 rfl
        obtain ⟨z0, z1, z2, zl⟩ := hM.cellsT 1 rfl
        have hcc := Lib.hid (fun W (e : Ext w4 W) => thclone_c p _ W (mono_ThingR _ _ _ _ ((hl2.trans hM.ple).trans e.ple) hs) (by omega))
        (refine wp_region_I 6 (by kernel_rfl) (by kernel_rfl) ?_; simp only [List.toList_toArray, List.take_succ_cons, List.take_zero, List.drop_succ_cons, List.drop_zero])
        iterate 4 (refine walkI_is (u := ?_) rfl (by simp) rfl ?_ ?_; rotate_left; (focus (intro A w' hS hA K hK; (simp only [List.map_cons, List.map_nil, knows, Is, Op.operands, Call.operands, List.lookup_cons, List.lookup_nil, Nat.reduceBEq, Bool.false_eq_true, if_false, if_true, Act.eval, Array.getD_eq_getD_getElem?, List.getElem?_toArray, List.getElem?_cons_succ, List.getElem?_cons_zero, Option.getD_some, and_true, true_and, List.append_toArray, List.nil_append, List.cons_append, List.toList_toArray, Array.toList_append, Option.toArray, List.append_nil] at hA); first | fail | (obtain ⟨hSc, hSf, hSs⟩ := hS.cells; go_simp; exact hK _ (by first | exact Ext.rfl' _ | exact Ext.new _ _ | assumption)))); (try simp only [List.nil_append, List.cons_append]))
        (refine walkI_step (fun v w' => ∃ cs : List Value, v = .agg cs.toArray ∧ ThingR (up H2 w4 w') cs p) rfl (by simp) rfl (fun v w1 w2 hx ⟨cs, h1, h2⟩ hy => ⟨cs, h1, mono_ThingR _ _ _ _ (up_then hx hy) h2⟩) ?_ ?_; (focus (intro A w' hS hA K hK; (simp only [List.map_cons, List.map_nil, knows, Is, Op.operands, Call.operands, List.lookup_cons, List.lookup_nil, Nat.reduceBEq, Bool.false_eq_true, if_false, if_true, Act.eval, Array.getD_eq_getD_getElem?, List.getElem?_toArray, List.getElem?_cons_succ, List.getElem?_cons_zero, Option.getD_some, and_true, true_and, List.append_toArray, List.nil_append, List.cons_append, List.toList_toArray, Array.toList_append, Option.toArray, List.append_nil] at hA); (go_simp; refine (hcc.out _ hS).mono ?_; rintro e w6 ⟨v1, v2, v3, H', rfl, i1, i2, i3, hu, h6⟩; exact hK _ _ h6 ⟨[v1, v2, v3], rfl, mono_ThingR _ _ _ _ (up_sub hM.ple hS) (mono_ThingR _ _ _ _ (up_noH) (clone_thing i1 i2 i3 hu))⟩))); (try simp only [List.nil_append, List.cons_append]))
        (refine walkI_step (fun v w' => ∃ (g : Nat) (cs : List Value) (H' : PH), v = .slice (some ⟨g, 0, none⟩) 1 1 ∧ Own w' g cs.toArray 27 ∧ PLe H2 H' ∧ PLe H' (up H2 w4 w') ∧ H' g = none ∧ ThingR H' cs p ∧ w4.heap.size ≤ g) rfl (by simp) rfl (fun v w1 w2 hx ⟨g, cs, H', h1, h2, h3, h4, h5, h6, h7⟩ hy => ⟨g, cs, H', h1, h2.keep hy, h3, h4.trans (up_then hx hy), h5, h6, h7⟩) ?_ ?_; (focus (intro A w' hS hA K hK; (simp only [List.map_cons, List.map_nil, knows, Is, Op.operands, Call.operands, List.lookup_cons, List.lookup_nil, Nat.reduceBEq, Bool.false_eq_true, if_false, if_true, Act.eval, Array.getD_eq_getD_getElem?, List.getElem?_toArray, List.getElem?_cons_succ, List.getElem?_cons_zero, Option.getD_some, and_true, true_and, List.append_toArray, List.nil_append, List.cons_append, List.toList_toArray, Array.toList_append, Option.toArray, List.append_nil] at hA); (have hsz : w4.heap.size ≤ w'.heap.size := hS.size; obtain ⟨cs, hA1, hA2⟩ := hA; obtain ⟨y1, u1, y2, u2, y3, u3, rfl, -⟩ := hA2.form; go_simp; exact hK _ _ (Ext.new _ _) ⟨_, [_, _, _], up H2 w4 w', rfl, Proofs.YtnhcplmcddlgnaaGreat.Own.new _ _ _, ple_up hM.ple, up_then hS (Ext.new _ _), up_fresh hM.ple hsz (Nat.le_refl _), hA2, hsz⟩))); (try simp only [List.nil_append, List.cons_append]))
        (refine walkI_nil ?_; simp only [List.nil_append, List.cons_append, fins, Is, forall_eq, Act.put, List.setIfInBounds_toArray, List.set_cons_zero, List.set_cons_succ])
        rintro w6 hx6 v42 - v43 ⟨gv, cs, H3, rfl, ho, hu1, hu2, hu3, hT, hgv⟩
        have hM6 := hM.growBox hx6 hu1 hu2 ho hgv hu3
        simp only [List.cons_append, List.nil_append] at hM6
        have hM7 : Mem w H [ownT (.slice i3 t.parts.length j3) t.parts, box gv cs.toArray 27, boxT g1 (.slice a1 t.cls.length c1) (.slice a2 t.vals.length c2) (.slice a3 t.parts.length c3), boxT g2 (.slice b1 p.cls.length d1) (.slice b2 p.vals.length d2) (.slice b3 p.parts.length d3), boxT g3 (.slice none 0 0) (.slice none 0 0) (.slice none 0 0), box g4 #[.slice a1 t.cls.length c1, .slice a2 t.vals.length c2, .slice a3 t.parts.length c3, .slice b1 p.cls.length d1, .slice b2 p.vals.length d2, .slice b3 p.parts.length d3] 27, boxT g9 (.slice i1 t.cls.length j1) (.slice i2 t.vals.length j2) (.slice i3 t.parts.length j3)] H3 w6 := hM6.pick [4, 6, 0, 1, 2, 3, 5] (by decide)
        have hin := Lib.hid (insert_c t.parts p k _ gv cs w w6 H H3 _ hM7 hT hkl (by have := t.parts_le; omega))
        rw [← hins.out] at hin
        have hI3 := hI.mono mono_IntR hu1
        have hV3 := hV.mono mono_ValR hu1
        clear q0 q1 q2 ql z0 z1 z2 zl hcc hM hM6 hM7 ho hu2 hu3 hT hgv hx6
        go_wp2_with fail
        refine hin.out.mono ?_
        rintro e w8 ⟨v8, rfl, hM8⟩
        clear hin
        obtain ⟨i8, j8, rfl, -⟩ := hM8.form 0 rfl
        obtain ⟨m, hm⟩ : ∃ m, (insR cmpT p t.parts).length = m := ⟨_, rfl⟩
        rw [hm] at hM8 ⊢
        obtain ⟨q0, q1, q2, ql, qf⟩ := hM8.cellsF 6 rfl
        have hM9 : Mem w H [ownT (.slice i8 m j8) (insR cmpT p t.parts), box gv cs.toArray 27, boxT g1 (.slice a1 t.cls.length c1) (.slice a2 t.vals.length c2) (.slice a3 t.parts.length c3), boxT g2 (.slice b1 p.cls.length d1) (.slice b2 p.vals.length d2) (.slice b3 p.parts.length d3), boxT g3 (.slice none 0 0) (.slice none 0 0) (.slice none 0 0), box g4 #[.slice a1 t.cls.length c1, .slice a2 t.vals.length c2, .slice a3 t.parts.length c3, .slice b1 p.cls.length d1, .slice b2 p.vals.length d2, .slice b3 p.parts.length d3] 27, boxT g9 (.slice i1 t.cls.length j1) (.slice i2 t.vals.length j2) (.slice i8 m j8)] H3 _ := hM8.set 6 rfl 2 (.slice i8 m j8)
        clear hM8
        go_upto_region 13 with (fail)
        generalize World.setCell _ _ _ = w10 at *
        clear q0 q1 q2 ql qf
        obtain ⟨q0, q1, q2, ql⟩ := hM9.cellsT 6 rfl
        have hjr : ThingR (ph w10) [.slice i1 t.cls.length j1, .slice i2 t.vals.length j2, .slice i8 m j8] (joinT t p) := thingR_of (hI3.mono mono_IntR hM9.ple) (hV3.mono mono_ValR hM9.ple) (hM9.rep 0 rfl)
        have hvc := Lib.hid (valid_c (joinT t p) _ w10 hjr (by rw [join_bulk]; omega))
        replace hm := Lib.hid hm
        clear hjr
        go_wp2_with fail
        refine RetV_at hvc.out ?_
        intro w11 hx11
        replace hM9 := hM9.ext hx11
        clear hvc hx11 q0 q1 q2 ql
        obtain ⟨q0, q1, q2, ql⟩ := hM9.cellsT 6 rfl
        have hjb := Lib.hid (with_j hvt.out hvp.out)
        have hjo := Lib.hid (with_ok hvt.out hvp.out)
        generalize validV (joinT t p) = ev at *
        by_cases hv0 : ev = 0
        · subst hv0
          replace hjo := Lib.hid (hjo.out rfl)
          clear hjb
          obtain ⟨z0, z1, z2, zl, zf⟩ := hM9.cellsF 4 rfl
          have hM8 := hM9.setT 4 rfl (.slice i1 t.cls.length j1) (.slice i2 t.vals.length j2) (.slice i8 m j8)
          simp only [List.set_cons_zero, List.set_cons_succ] at hM8
          clear hM9
          go_wp2_with fail
          generalize World.setCell _ _ _ = w9 at *
          obtain ⟨rq0, rq1, rq2, -⟩ := hM8.cellsT 4 rfl
          refine bodyPost_ret (v := .tuple #[.agg #[(.slice i1 t.cls.length j1), (.slice i2 t.vals.length j2), (.slice i8 m j8)], .int .i64 0]) (by simp [results, Tryz.results14, go_sem, rq0, rq1, rq2]) rfl ?_
          rw [hjo.out.1, hjo.out.2]
          exact ⟨[_, _, _], rfl, thingR_of (hI3.mono mono_IntR hM8.ub) (hV3.mono mono_ValR hM8.ub) (hM8.repUp 0 rfl), hM8.ex⟩
        · have hv1 : (ev == 0) = false := by simpa using hv0
          replace hjb := Lib.hid (hjb.out hv0)
          replace hv0 := Lib.hid hv0
          clear hjo q0 q1 q2 ql
          obtain ⟨z0, z1, z2, zl, zf⟩ := hM9.cellsF 4 rfl
          have hM8 := hM9.setT 4 rfl (.slice none 0 0) (.slice none 0 0) (.slice none 0 0)
          simp only [List.set_cons_zero, List.set_cons_succ] at hM8
          clear hM9
          go_wp2_with fail
          generalize World.setCell _ _ _ = w9 at *
          obtain ⟨rq0, rq1, rq2, -⟩ := hM8.cellsT 4 rfl
          refine bodyPost_ret (v := .tuple #[.agg #[(.slice none 0 0), (.slice none 0 0), (.slice none 0 0)], .int .i64 ev]) (by simp [results, Tryz.results14, go_sem, rq0, rq1, rq2]) rfl ?_
          rw [hjb.out.1, hjb.out.2]
          exact ⟨[_, _, _], rfl, noT_R _, hM8.ex⟩
      · rw [hk2 (by omega)] at hix
        obtain rfl : k = t.parts.length := by omega
        clear hk1 hk2
        go_wp2_with fail
        refine RetV_at hix.out ?_
        intro w4 hx4
        replace hM := hM.ext hx4
        clear hix hx4 q0 q1 q2 ql
        obtain ⟨q0, q1, q2, ql⟩ := hM.cellsT 5 rfl
        go_upto_region 12 with (fail)
        clear q0 q1 q2 ql
        obtain ⟨q0, q1, q2, ql⟩ := hM.cellsT 5 rfl
        obtain ⟨z0, z1, z2, zl⟩ := hM.cellsT 1 rfl
        have hcc := Lib.hid (fun W (e : Ext w4 W) => thclone_c p _ W (mono_ThingR _ _ _ _ ((hl2.trans hM.ple).trans e.ple) hs) (by omega))
        (refine wp_region_I 6 (by kernel_rfl) (by kernel_rfl) ?_; simp only [List.toList_toArray, List.take_succ_cons, List.take_zero, List.drop_succ_cons, List.drop_zero])
        iterate 4 (refine walkI_is (u := ?_) rfl (by simp) rfl ?_ ?_; rotate_left; (focus (intro A w' hS hA K hK; (simp only [List.map_cons, List.map_nil, knows, Is, Op.operands, Call.operands, List.lookup_cons, List.lookup_nil, Nat.reduceBEq, Bool.false_eq_true, if_false, if_true, Act.eval, Array.getD_eq_getD_getElem?, List.getElem?_toArray, List.getElem?_cons_succ, List.getElem?_cons_zero, Option.getD_some, and_true, true_and, List.append_toArray, List.nil_append, List.cons_append, List.toList_toArray, Array.toList_append, Option.toArray, List.append_nil] at hA); first | fail | (obtain ⟨hSc, hSf, hSs⟩ := hS.cells; go_simp; exact hK _ (by first | exact Ext.rfl' _ | exact Ext.new _ _ | assumption)))); (try simp only [List.nil_append, List.cons_append]))
        (refine walkI_step (fun v w' => ∃ cs : List Value, v = .agg cs.toArray ∧ ThingR (up H2 w4 w') cs p) rfl (by simp) rfl (fun v w1 w2 hx ⟨cs, h1, h2⟩ hy => ⟨cs, h1, mono_ThingR _ _ _ _ (up_then hx hy) h2⟩) ?_ ?_; (focus (intro A w' hS hA K hK; (simp only [List.map_cons, List.map_nil, knows, Is, Op.operands, Call.operands, List.lookup_cons, List.lookup_nil, Nat.reduceBEq, Bool.false_eq_true, if_false, if_true, Act.eval, Array.getD_eq_getD_getElem?, List.getElem?_toArray, List.getElem?_cons_succ, List.getElem?_cons_zero, Option.getD_some, and_true, true_and, List.append_toArray, List.nil_append, List.cons_append, List.toList_toArray, Array.toList_append, Option.toArray, List.append_nil] at hA); (go_simp; refine (hcc.out _ hS).mono ?_; rintro e w6 ⟨v1, v2, v3, H', rfl, i1, i2, i3, hu, h6⟩; exact hK _ _ h6 ⟨[v1, v2, v3], rfl, mono_ThingR _ _ _ _ (up_sub hM.ple hS) (mono_ThingR _ _ _ _ (up_noH) (clone_thing i1 i2 i3 hu))⟩))); (try simp only [List.nil_append, List.cons_append]))
        (refine walkI_step (fun v w' => ∃ (g : Nat) (cs : List Value) (H' : PH), v = .slice (some ⟨g, 0, none⟩) 1 1 ∧ Own w' g cs.toArray 27 ∧ PLe H2 H' ∧ PLe H' (up H2 w4 w') ∧ H' g = none ∧ ThingR H' cs p ∧ w4.heap.size ≤ g) rfl (by simp) rfl (fun v w1 w2 hx ⟨g, cs, H', h1, h2, h3, h4, h5, h6, h7⟩ hy => ⟨g, cs, H', h1, h2.keep hy, h3, h4.trans (up_then hx hy), h5, h6, h7⟩) ?_ ?_; (focus (intro A w' hS hA K hK; (simp only [List.map_cons, List.map_nil, knows, Is, Op.operands, Call.operands, List.lookup_cons, List.lookup_nil, Nat.reduceBEq, Bool.false_eq_true, if_false, if_true, Act.eval, Array.getD_eq_getD_getElem?, List.getElem?_toArray, List.getElem?_cons_succ, List.getElem?_cons_zero, Option.getD_some, and_true, true_and, List.append_toArray, List.nil_append, List.cons_append, List.toList_toArray, Array.toList_append, Option.toArray, List.append_nil] at hA); (have hsz : w4.heap.size ≤ w'.heap.size := hS.size; obtain ⟨cs, hA1, hA2⟩ := hA; obtain ⟨y1, u1, y2, u2, y3, u3, rfl, -⟩ := hA2.form; go_simp; exact hK _ _ (Ext.new _ _) ⟨_, [_, _, _], up H2 w4 w', rfl, Proofs.YtnhcplmcddlgnaaGreat.Own.new _ _ _, ple_up hM.ple, up_then hS (Ext.new _ _), up_fresh hM.ple hsz (Nat.le_refl _), hA2, hsz⟩))); (try simp only [List.nil_append, List.cons_append]))
        (refine walkI_nil ?_; simp only [List.nil_append, List.cons_append, fins, Is, forall_eq, Act.put, List.setIfInBounds_toArray, List.set_cons_zero, List.set_cons_succ])
        rintro w6 hx6 v42 - v43 ⟨gv, cs, H3, rfl, ho, hu1, hu2, hu3, hT, hgv⟩
        have hM6 := hM.growBox hx6 hu1 hu2 ho hgv hu3
        simp only [List.cons_append, List.nil_append] at hM6
        have hM7 : Mem w H [ownT (.slice i3 t.parts.length j3) t.parts, box gv cs.toArray 27, boxT g1 (.slice a1 t.cls.length c1) (.slice a2 t.vals.length c2) (.slice a3 t.parts.length c3), boxT g2 (.slice b1 p.cls.length d1) (.slice b2 p.vals.length d2) (.slice b3 p.parts.length d3), boxT g3 (.slice none 0 0) (.slice none 0 0) (.slice none 0 0), box g4 #[.slice a1 t.cls.length c1, .slice a2 t.vals.length c2, .slice a3 t.parts.length c3, .slice b1 p.cls.length d1, .slice b2 p.vals.length d2, .slice b3 p.parts.length d3] 27, boxT g9 (.slice i1 t.cls.length j1) (.slice i2 t.vals.length j2) (.slice i3 t.parts.length j3)] H3 w6 := hM6.pick [4, 6, 0, 1, 2, 3, 5] (by decide)
        have hin := Lib.hid (insert_c t.parts p t.parts.length _ gv cs w w6 H H3 _ hM7 hT hkl (by have := t.parts_le; omega))
        rw [← hins.out] at hin
        have hI3 := hI.mono mono_IntR hu1
        have hV3 := hV.mono mono_ValR hu1
        clear q0 q1 q2 ql z0 z1 z2 zl hcc hM hM6 hM7 ho hu2 hu3 hT hgv hx6
        go_wp2_with fail
        refine hin.out.mono ?_
        rintro e w8 ⟨v8, rfl, hM8⟩
        clear hin
        obtain ⟨i8, j8, rfl, -⟩ := hM8.form 0 rfl
        obtain ⟨m, hm⟩ : ∃ m, (insR cmpT p t.parts).length = m := ⟨_, rfl⟩
        rw [hm] at hM8 ⊢
        obtain ⟨q0, q1, q2, ql, qf⟩ := hM8.cellsF 6 rfl
        have hM9 : Mem w H [ownT (.slice i8 m j8) (insR cmpT p t.parts), box gv cs.toArray 27, boxT g1 (.slice a1 t.cls.length c1) (.slice a2 t.vals.length c2) (.slice a3 t.parts.length c3), boxT g2 (.slice b1 p.cls.length d1) (.slice b2 p.vals.length d2) (.slice b3 p.parts.length d3), boxT g3 (.slice none 0 0) (.slice none 0 0) (.slice none 0 0), box g4 #[.slice a1 t.cls.length c1, .slice a2 t.vals.length c2, .slice a3 t.parts.length c3, .slice b1 p.cls.length d1, .slice b2 p.vals.length d2, .slice b3 p.parts.length d3] 27, boxT g9 (.slice i1 t.cls.length j1) (.slice i2 t.vals.length j2) (.slice i8 m j8)] H3 _ := hM8.set 6 rfl 2 (.slice i8 m j8)
        clear hM8
        go_upto_region 13 with (fail)
        generalize World.setCell _ _ _ = w10 at *
        clear q0 q1 q2 ql qf
        obtain ⟨q0, q1, q2, ql⟩ := hM9.cellsT 6 rfl
        have hjr : ThingR (ph w10) [.slice i1 t.cls.length j1, .slice i2 t.vals.length j2, .slice i8 m j8] (joinT t p) := thingR_of (hI3.mono mono_IntR hM9.ple) (hV3.mono mono_ValR hM9.ple) (hM9.rep 0 rfl)
        have hvc := Lib.hid (valid_c (joinT t p) _ w10 hjr (by rw [join_bulk]; omega))
        replace hm := Lib.hid hm
        clear hjr
        go_wp2_with fail
        refine RetV_at hvc.out ?_
        intro w11 hx11
        replace hM9 := hM9.ext hx11
        clear hvc hx11 q0 q1 q2 ql
        obtain ⟨q0, q1, q2, ql⟩ := hM9.cellsT 6 rfl
        have hjb := Lib.hid (with_j hvt.out hvp.out)
        have hjo := Lib.hid (with_ok hvt.out hvp.out)
        generalize validV (joinT t p) = ev at *
        by_cases hv0 : ev = 0
        · subst hv0
          replace hjo := Lib.hid (hjo.out rfl)
          clear hjb
          obtain ⟨z0, z1, z2, zl, zf⟩ := hM9.cellsF 4 rfl
          have hM8 := hM9.setT 4 rfl (.slice i1 t.cls.length j1) (.slice i2 t.vals.length j2) (.slice i8 m j8)
          simp only [List.set_cons_zero, List.set_cons_succ] at hM8
          clear hM9
          go_wp2_with fail
          generalize World.setCell _ _ _ = w9 at *
          obtain ⟨rq0, rq1, rq2, -⟩ := hM8.cellsT 4 rfl
          refine bodyPost_ret (v := .tuple #[.agg #[(.slice i1 t.cls.length j1), (.slice i2 t.vals.length j2), (.slice i8 m j8)], .int .i64 0]) (by simp [results, Tryz.results14, go_sem, rq0, rq1, rq2]) rfl ?_
          rw [hjo.out.1, hjo.out.2]
          exact ⟨[_, _, _], rfl, thingR_of (hI3.mono mono_IntR hM8.ub) (hV3.mono mono_ValR hM8.ub) (hM8.repUp 0 rfl), hM8.ex⟩
        · have hv1 : (ev == 0) = false := by simpa using hv0
          replace hjb := Lib.hid (hjb.out hv0)
          replace hv0 := Lib.hid hv0
          clear hjo q0 q1 q2 ql
          obtain ⟨z0, z1, z2, zl, zf⟩ := hM9.cellsF 4 rfl
          have hM8 := hM9.setT 4 rfl (.slice none 0 0) (.slice none 0 0) (.slice none 0 0)
          simp only [List.set_cons_zero, List.set_cons_succ] at hM8
          clear hM9
          go_wp2_with fail
          generalize World.setCell _ _ _ = w9 at *
          obtain ⟨rq0, rq1, rq2, -⟩ := hM8.cellsT 4 rfl
          refine bodyPost_ret (v := .tuple #[.agg #[(.slice none 0 0), (.slice none 0 0), (.slice none 0 0)], .int .i64 ev]) (by simp [results, Tryz.results14, go_sem, rq0, rq1, rq2]) rfl ?_
          rw [hjb.out.1, hjb.out.2]
          exact ⟨[_, _, _], rfl, noT_R _, hM8.ex⟩
end Go.Proofs.YtnhcplmcddlgnaaGreat
