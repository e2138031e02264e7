/- ThingWith: the walk of the law. -/
import Derived.Test.YtnhcplmcddlgnaaGreatProg
import Derived.WalkKit
import Derived.WalkSpells
import Derived.WalkLawsBesides
import Derived.BigQuiet
import Derived.Deep.QuietTactic
import Derived.Lib.Hide
import Derived.Deep.DeepFit
import Derived.Handy
import Derived.Deep.LoopGhost
import Derived.Deep.DeepCutAuto
import Derived.Deep.Light
import Derived.OrdersHeld
import Derived.OrdersIn
import Derived.TacticsIn
import Derived.RangeFuncCalls
import Derived.Lib.Zigzag
import Derived.Lib.SliceRun
import Derived.Lib.VarintDec
import Derived.LoopIn
import Derived.LoopNIn
import Derived.OwnWalkIn
import Derived.RangeFuncBound
import Derived.RangeFuncFrom
import Derived.RangeFuncLeaves
import Derived.RangeFuncNested
import Derived.Shelf.Abstract
import Derived.Shelf.RegionOpen
import Derived.Laws.Bits64
import Derived.Laws.Bits64b
import Derived.Lib.SlBytesRow
import Derived.Lib.BufferRead
import Derived.Laws.Rows
import Derived.Laws.CopyRow
import Derived.Laws.StructEq
import Derived.Shelf.SlGeneric
import Derived.Shelf.SlSortCmp.WholeK
import Derived.Shelf.SlSortCmp.NoneTotal
import Derived.Ground.SlsfProg
import Derived.Sort.Grow
import Derived.Shelf.Slices.Clone
import Derived.Shelf.Slices.Turned
import Derived.Shelf.Slices.In.SortNone
import Derived.Shelf.Sort.Plain
import Derived.Sort.OwnSortedInts
import Derived.Deep.CutBlock
import Derived.Test.YtnhcplmcddlgnaaGreatTN00
import Derived.Test.YtnhcplmcddlgnaaGreatTN01
import Derived.Test.YtnhcplmcddlgnaaGreatTN02
import Derived.Test.YtnhcplmcddlgnaaGreatTN03
import Derived.Test.YtnhcplmcddlgnaaGreatTN04
import Derived.Test.YtnhcplmcddlgnaaGreatTN05
import Derived.Test.YtnhcplmcddlgnaaGreatTN06
import Derived.Test.YtnhcplmcddlgnaaGreatTN07
import Derived.Test.YtnhcplmcddlgnaaGreatTN08
import Derived.Test.YtnhcplmcddlgnaaGreatTN09
import Derived.Test.YtnhcplmcddlgnaaGreatTN10
import Derived.Test.YtnhcplmcddlgnaaGreatTN11
import Derived.Test.YtnhcplmcddlgnaaGreatTN12
import Derived.Test.YtnhcplmcddlgnaaGreatTN13
import Derived.Test.YtnhcplmcddlgnaaGreatTN14
import Derived.Test.YtnhcplmcddlgnaaGreatTN15
import Derived.Test.YtnhcplmcddlgnaaGreatTW00
import Derived.Test.YtnhcplmcddlgnaaGreatTW01
namespace Go.Proofs.YtnhcplmcddlgnaaGreat
open Go.RowKit Go.Shelf
set_option linter.unusedSimpArgs false
set_option linter.unusedVariables false
theorem thingsBase {h : PH} {a : Option Addr} {n cap : Nat} {xs : List Thing} (hr : ThingsR h (.slice a n cap) xs) (h0 : 0 < xs.length) : ∃ b o, a = some ⟨b, o, none⟩ := by
  obtain ⟨b, o, cs, h1, -⟩ := hr.get 0 h0
  exact ⟨b, o, h1⟩
theorem thingsAt2 {w : World} {b o n cap : Nat} {xs : List Thing} (hr : ThingsR (ph w) (.slice (some ⟨b, o, none⟩) n cap) xs) (k : Nat) (hk : k < xs.length) :
    ∃ a1 c1 a2 c2 a3 c3, w.cell? ⟨b, o + k * 3, none⟩ = some (.slice a1 xs[k].cls.length c1) ∧ w.cell? ⟨b, o + k * 3 + 1, none⟩ = some (.slice a2 xs[k].vals.length c2) ∧
      w.cell? ⟨b, o + k * 3 + 2, none⟩ = some (.slice a3 xs[k].parts.length c3) ∧ ThingR (ph w) [.slice a1 xs[k].cls.length c1, .slice a2 xs[k].vals.length c2, .slice a3 xs[k].parts.length c3] xs[k] ∧ b < w.heap.size := by
  obtain ⟨b', o', a1, c1, a2, c2, a3, c3, e, h⟩ := ThingsR.at hr k hk
  simp only [Option.some.injEq, Addr.mk.injEq, and_true] at e
  obtain ⟨rfl, rfl⟩ := e
  exact ⟨a1, c1, a2, c2, a3, c3, h⟩
theorem Mem.fillT {w0 w w' : World} {H0 H : PH} {L : List Chunk} (h : Mem w0 H0 L H w) (i : Nat) (hi : L[i]? = some nop) (e : Ext w w') {g : Nat} {c : Array Value} {T : TypeId} (ho : Own w' g c T) (hg : w.heap.size ≤ g) : Mem w0 H0 (L.set i (Proofs.YtnhcplmcddlgnaaGreat.box g c T)) H w' :=
  h.put i hi (c' := Proofs.YtnhcplmcddlgnaaGreat.box g c T) ho (fun k hk => .inr (by cases hk; exact hg)) (h.ex.then e) fun k hk _ => e.block k hk
/-- the state of the region that calls With -/
def WJ (sc sm sx se sa : Nat) (W : World) (u : Thing) (er : Int) : Pj.Inv := fun dn s wx => ∃ (H : PH) (b : Nat) (cs : List Value), Mem W (ph W) [if dn 13 then box b cs.toArray 27 else if dn 12 then box b zeroT 27 else nop] H wx ∧ (dn 12 = true → s sa = .pointer (some ⟨b, 0, none⟩)) ∧
  (dn 8 = true → ∃ cs : List Value, s sc = .tuple #[.agg cs.toArray, .int .i64 er] ∧ ThingR H cs u) ∧
  (dn 9 = true → ∃ cs : List Value, s sm = .tuple #[.agg cs.toArray, .int .i64 er] ∧ ThingR H cs u) ∧
  (dn 10 = true → ∃ cs : List Value, s sx = .agg cs.toArray ∧ ThingR H cs u) ∧
  (dn 11 = true → s se = .int .i64 er) ∧ (dn 13 = true → ThingR H cs u) ∧ (dn 13 = true → dn 12 = true)
theorem withV_bulk (x y : Thing) : (withV x y).bulk ≤ x.bulk + y.bulk := by
  unfold withV
  split
  · rw [join_bulk]; exact Nat.le_refl _
  · have := x.bulk_pos; have e : noT.bulk = 1 := by simp [Thing.bulk, bulks]
    omega
theorem with_fine {x y : Thing} (h : withE x y = 0) : (withV x y).size = x.size + y.size ∧ withV x y = joinT x y ∧ validV (joinT x y) = 0 := by
  by_cases h1 : validV x = 0
  · by_cases h2 : validV y = 0
    · by_cases h3 : validV (joinT x y) = 0
      · rw [(with_ok h1 h2 h3).2]; exact ⟨join_size x y, rfl, h3⟩
      · rw [(with_j h1 h2 h3).1] at h; exact absurd h h3
    · rw [(with_p h1 h2).1] at h; exact absurd h h2
  · rw [(with_t y h1).1] at h; exact absurd h h1
theorem norm_some {x : Thing} (h : normE x = 0) : normT (normV x) = some (normV x) := by
  cases hn : normT x with
  | none => rw [(norm_no hn).1] at h; cases h
  | some u =>
    by_cases hv : validV u = 0
    · rw [(norm_ok hn hv).2]; exact normT_twice hn
    · rw [(norm_bad hn hv).1] at h; exact absurd h hv
/-- a normal form with one more normal form is its own normal form -/
theorem with_norm {x y : Thing} (hx : normE x = 0) (hy : normE y = 0) (h : withE (normV x) (normV y) = 0) : normE (withV (normV x) (normV y)) = 0 ∧ normV (withV (normV x) (normV y)) = withV (normV x) (normV y) := by
  obtain ⟨-, e, h3⟩ := with_fine h
  rw [e]
  exact norm_ok (join_norm (norm_some hx) (norm_some hy)) h3
set_option maxRecDepth 100000 in
set_option maxHeartbeats 16000000 in
theorem withLaw_c (vl vm : Value) (l m : List Int) (at_ how by_ : Int) (w : World) (hl : IntsR (ph w) vl l) (hm : IntsR (ph w) vm m) (hll : l.length ≤ 140737488355328) (hml : m.length ≤ 140737488355328) (hat : I64 at_) (hhow : I64 how) (hby : I64 by_) :
    Calls Tryz.prog 4 #[vl, vm, .int .i64 at_, .int .i64 how, .int .i64 by_] w (RetV w (.bool true)) := by
  go_enter Tryz.func4, Tryz.ntmps4
  go_wp2_with fail
  refine (things_c _ _ l m at_ how by_ _ (hl.mono mono_IntR (Ext.ple (by with_reducible repeat (first | assumption | exact Ext.rfl' _ | exact Ext.new _ _ | refine Ext.alloc' ?_ _ | refine Ext.drew' ?_ | refine Ext.drewN' ?_ _ | (refine Ext.set' ?_ ?_ _; rotate_left; focus (first | omega | (simp; done) | (simp; omega))) | (refine Ext.then (b := ?_) ?_ ?_; rotate_left; rotate_left; assumption))))) (hm.mono mono_IntR (Ext.ple (by with_reducible repeat (first | assumption | exact Ext.rfl' _ | exact Ext.new _ _ | refine Ext.alloc' ?_ _ | refine Ext.drew' ?_ | refine Ext.drewN' ?_ _ | (refine Ext.set' ?_ ?_ _; rotate_left; focus (first | omega | (simp; done) | (simp; omega))) | (refine Ext.then (b := ?_) ?_ ?_; rotate_left; rotate_left; assumption))))) hll hml hat hhow hby).mono ?_
  rintro e w1 ⟨H', v, xs, rfl, hO, hub, hxl, hbk, hb1⟩
  have hR := hO.rep mono_ThingR (hub.trans (up_ple (noH_le _) hb1))
  have hb : Ext w w1 := (by with_reducible repeat (first | assumption | exact Ext.rfl' _ | exact Ext.new _ _ | refine Ext.alloc' ?_ _ | refine Ext.drew' ?_ | refine Ext.drewN' ?_ _ | (refine Ext.set' ?_ ?_ _; rotate_left; focus (first | omega | (simp; done) | (simp; omega))) | (refine Ext.then (b := ?_) ?_ ?_; rotate_left; rotate_left; assumption)))
  obtain ⟨a, c, rfl, hxb, hR⟩ := hR.form
  obtain ⟨ab, ao, rfl⟩ := thingsBase hR (by omega)
  clear hO hub hb1 hl hm hxl
  go_wp2_with fail
  go_loopw [12] (fun i wr => ∃ k : Nat, k ≤ xs.length ∧ i = .int .i64 k ∧ Ext w1 wr) (fun i _ => xs.length - (intOf i).toNat)
  case atStart => exact ⟨0, by omega, rfl, (by with_reducible repeat (first | assumption | exact Ext.rfl' _ | exact Ext.new _ _ | refine Ext.alloc' ?_ _ | refine Ext.drew' ?_ | refine Ext.drewN' ?_ _ | (refine Ext.set' ?_ ?_ _; rotate_left; focus (first | omega | (simp; done) | (simp; omega))) | (refine Ext.then (b := ?_) ?_ ?_; rotate_left; rotate_left; assumption)))⟩
  case round =>
    obtain ⟨i, hi, rfl, hwr⟩ := hrel
    by_cases hlt : i < xs.length
    · obtain ⟨b1, d1, b2, d2, b3, d3, h0, h1, h2, hE, hbl⟩ := thingsAt2 (hR.mono mono_ThingR hwr.ple) i hlt
      have hB := hbk _ (List.getElem_mem hlt)
      have hnb := normV_bulk xs[i]
      have hc1 := Lib.hid (fun W (e : Ext wr W) => normal_c xs[i] (ph W) _ W (PLe.refl _) (mono_ThingR _ _ _ _ e.ple hE) (by omega))
      have hnm := Lib.hid (fun y => with_norm (x := xs[i]) (y := y))
      generalize hae : normV xs[i] = a at *
      generalize hre : normE xs[i] = er at *
      generalize hxe : xs[i] = x at *
      replace hae := Lib.hid hae
      replace hre := Lib.hid hre
      replace hxe := Lib.hid hxe
      go_wp2_with fail
      refine (hc1.out _ (by with_reducible repeat (first | assumption | exact Ext.rfl' _ | exact Ext.new _ _ | refine Ext.alloc' ?_ _ | refine Ext.drew' ?_ | refine Ext.drewN' ?_ _ | (refine Ext.set' ?_ ?_ _; rotate_left; focus (first | omega | (simp; done) | (simp; omega))) | (refine Ext.then (b := ?_) ?_ ?_; rotate_left; rotate_left; assumption)))).mono ?_
      rintro e w2 ⟨cs, rfl, hA, hx2⟩
      replace hA := mono_ThingR _ _ _ _ (up_ple (PLe.refl _) hx2) hA
      obtain ⟨f1, g1, f2, g2, f3, g3, rfl, -⟩ := hA.form
      clear h0 h1 h2 hbl hc1
      go_upto_region 6 with (fail)
      have ho := Proofs.YtnhcplmcddlgnaaGreat.Own.new w2 #[.slice f1 a.cls.length g1, .slice f2 a.vals.length g2, .slice f3 a.parts.length g3] 27
      have e3 : Ext w2 _ := Ext.new w2 (.cells #[.slice f1 a.cls.length g1, .slice f2 a.vals.length g2, .slice f3 a.parts.length g3] 27)
      generalize World.alloc _ _ = w3 at *
      generalize w2.heap.size = ga at *
      have x0 : w3.cell? ⟨ga, 0, none⟩ = some (.slice f1 a.cls.length g1) := ho.facts.1 0
      have x1 : w3.cell? ⟨ga, 1, none⟩ = some (.slice f2 a.vals.length g2) := ho.facts.1 1
      have x2 : w3.cell? ⟨ga, 2, none⟩ = some (.slice f3 a.parts.length g3) := ho.facts.1 2
      have xl := ho.lt
      replace hA := mono_ThingR _ _ _ _ e3.ple hA
      clear ho
      have hw3 := (hwr.then hx2).then e3
      clear hx2 e3 hE hwr
      go_wp2_with fail
      go_loopw [15] (fun i wr => ∃ k : Nat, k ≤ xs.length ∧ i = .int .i64 k ∧ Ext w3 wr) (fun i _ => xs.length - (intOf i).toNat)
      case atStart => exact ⟨0, by omega, rfl, (by with_reducible repeat (first | assumption | exact Ext.rfl' _ | exact Ext.new _ _ | refine Ext.alloc' ?_ _ | refine Ext.drew' ?_ | refine Ext.drewN' ?_ _ | (refine Ext.set' ?_ ?_ _; rotate_left; focus (first | omega | (simp; done) | (simp; omega))) | (refine Ext.then (b := ?_) ?_ ?_; rotate_left; rotate_left; assumption)))⟩
      case round =>
        obtain ⟨k, hk, rfl, hwr⟩ := hrel
        have hw4 := hw3.then hwr
        by_cases hkl : k < xs.length
        · obtain ⟨b1, d1, b2, d2, b3, d3, h0, h1, h2, hE, hbl⟩ := thingsAt2 (hR.mono mono_ThingR hw4.ple) i hlt
          obtain ⟨r1, s1, r2, s2, r3, s3, y0, y1, y2, hF, kbl⟩ := thingsAt2 (hR.mono mono_ThingR hw4.ple) k hkl
          rw [hxe.out] at h0 h1 h2 hE
          have hBy := hbk _ (List.getElem_mem hkl)
          generalize xs[k] = y at *
          have hcw := Lib.hid (fun H W (hl : PLe (ph wr) H) (hP : PLe H (ph W)) => with_c x y H _ _ W hP (mono_ThingR _ _ _ _ hl hE) (mono_ThingR _ _ _ _ hl hF) (by omega) (by omega))
          have hwf := Lib.hid (with_fine (x := x) (y := y))
          have hub := withV_bulk x y
          have hcv := Lib.hid (fun H W (e : Ext wr W) (hl : PLe (ph W) H) (V : World) (hP : PLe H (ph V)) => rwith_c x y H _ _ V hP (mono_ThingR _ _ _ _ (e.ple.trans hl) hE) (mono_ThingR _ _ _ _ (e.ple.trans hl) hF) (by omega) (by omega))
          generalize withV x y = u at *
          generalize withE x y = eu at *
          go_upto_region 9 with (fail)
          (refine Pj.wp_region_J 14 (WJ 63 54 64 65 16 wr u eu) (by kernel_rfl) (by kernel_rfl) (⟨ph wr, 0, [], ((Mem.start wr (ph wr) (fun _ _ h => h)).ext (Ext.rfl' wr).drew').pick [0] (by decide), by simp, by simp, by simp, by simp, by simp, by simp, by simp⟩) ?_; simp only [List.toList_toArray, List.take_succ_cons, List.take_zero, List.drop_succ_cons, List.drop_zero])
          iterate 8 (refine Pj.walkI_is (u := ?_) rfl (by simp) rfl (fun dn s w h => h) ?_ ?_; rotate_left; (focus (intro A w' dn hS hJ hdn hA K hK; (try simp only [List.map_cons, List.map_nil, Pj.knows, Pj.Is, Pj.Any, Op.operands, Call.operands, List.lookup_cons, List.lookup_nil, Nat.reduceBEq, Bool.false_eq_true, if_false, if_true, Act.eval, Array.getD_eq_getD_getElem?, List.getElem?_toArray, List.getElem?_cons_succ, List.getElem?_cons_zero, Option.getD_some, and_true, true_and, List.append_toArray, List.nil_append, List.cons_append, List.toList_toArray, Array.toList_append, Option.toArray, List.append_nil] at hA); first | fail | (obtain ⟨hSc, hSf, hSs⟩ := hS.cells; go_simp; exact hK))); (try simp only [List.nil_append, List.cons_append]))
          (refine Pj.walkI_step rfl (by simp) rfl ?_ ?_; (focus (intro A w' dn hS hJ hd0 hdn hA K hK; (try simp only [List.map_cons, List.map_nil, Pj.knows, Pj.Is, Pj.Any, Op.operands, Call.operands, List.lookup_cons, List.lookup_nil, Nat.reduceBEq, Bool.false_eq_true, if_false, if_true, Act.eval, Array.getD_eq_getD_getElem?, List.getElem?_toArray, List.getElem?_cons_succ, List.getElem?_cons_zero, Option.getD_some, and_true, true_and, List.append_toArray, List.nil_append, List.cons_append, List.toList_toArray, Array.toList_append, Option.toArray, List.append_nil] at hA); (obtain ⟨H, b', cs', i2, i7, j8, j9, j10, j11, j13, hcl⟩ := hJ; go_simp; refine (hcw.out H _ i2.le i2.ple).mono ?_; rintro e w'' ⟨cs, rfl, h4, hx''⟩; have hu := ple_up (w' := w'') i2.ple; exact hK _ _ (hS.then hx'') ⟨_, b', cs', i2.up hx'', i7, fun _ => ⟨cs, rfl, h4⟩, fun h => (j9 h).imp fun cs h => ⟨h.1, mono_ThingR _ _ _ _ hu h.2⟩, fun h => (j10 h).imp fun cs h => ⟨h.1, mono_ThingR _ _ _ _ hu h.2⟩, j11, fun h => mono_ThingR _ _ _ _ hu (j13 h), hcl⟩))); (try simp only [List.nil_append, List.cons_append]))
          (refine Pj.walkI_step rfl (by simp) rfl ?_ ?_; (focus (intro A w' dn hS hJ hd0 hdn hA K hK; (try simp only [List.map_cons, List.map_nil, Pj.knows, Pj.Is, Pj.Any, Op.operands, Call.operands, List.lookup_cons, List.lookup_nil, Nat.reduceBEq, Bool.false_eq_true, if_false, if_true, Act.eval, Array.getD_eq_getD_getElem?, List.getElem?_toArray, List.getElem?_cons_succ, List.getElem?_cons_zero, Option.getD_some, and_true, true_and, List.append_toArray, List.nil_append, List.cons_append, List.toList_toArray, Array.toList_append, Option.toArray, List.append_nil] at hA); (obtain ⟨H, b', cs', i2, i7, j8, j9, j10, j11, j13, hcl⟩ := hJ; obtain ⟨cs, e2, k2⟩ := j8 (hdn 8 (List.contains_iff_mem.1 (by kernel_rfl))); unfold Pj.sl at e2; simp only [Array.getD_eq_getD_getElem?] at e2; go_simp; exact hK _ _ hS ⟨H, b', cs', i2, i7, j8, fun _ => ⟨cs, rfl, k2⟩, j10, j11, j13, hcl⟩))); (try simp only [List.nil_append, List.cons_append]))
          (refine Pj.walkI_step rfl (by simp) rfl ?_ ?_; (focus (intro A w' dn hS hJ hd0 hdn hA K hK; (try simp only [List.map_cons, List.map_nil, Pj.knows, Pj.Is, Pj.Any, Op.operands, Call.operands, List.lookup_cons, List.lookup_nil, Nat.reduceBEq, Bool.false_eq_true, if_false, if_true, Act.eval, Array.getD_eq_getD_getElem?, List.getElem?_toArray, List.getElem?_cons_succ, List.getElem?_cons_zero, Option.getD_some, and_true, true_and, List.append_toArray, List.nil_append, List.cons_append, List.toList_toArray, Array.toList_append, Option.toArray, List.append_nil] at hA); (obtain ⟨H, b', cs', i2, i7, j8, j9, j10, j11, j13, hcl⟩ := hJ; obtain ⟨cs, e2, k2⟩ := j9 (hdn 9 (List.contains_iff_mem.1 (by kernel_rfl))); unfold Pj.sl at e2; simp only [Array.getD_eq_getD_getElem?] at e2; go_simp; exact hK _ _ hS ⟨H, b', cs', i2, i7, j8, j9, fun _ => ⟨cs, rfl, k2⟩, j11, j13, hcl⟩))); (try simp only [List.nil_append, List.cons_append]))
          (refine Pj.walkI_step rfl (by simp) rfl ?_ ?_; (focus (intro A w' dn hS hJ hd0 hdn hA K hK; (try simp only [List.map_cons, List.map_nil, Pj.knows, Pj.Is, Pj.Any, Op.operands, Call.operands, List.lookup_cons, List.lookup_nil, Nat.reduceBEq, Bool.false_eq_true, if_false, if_true, Act.eval, Array.getD_eq_getD_getElem?, List.getElem?_toArray, List.getElem?_cons_succ, List.getElem?_cons_zero, Option.getD_some, and_true, true_and, List.append_toArray, List.nil_append, List.cons_append, List.toList_toArray, Array.toList_append, Option.toArray, List.append_nil] at hA); (obtain ⟨H, b', cs', i2, i7, j8, j9, j10, j11, j13, hcl⟩ := hJ; obtain ⟨cs, e2, k2⟩ := j9 (hdn 9 (List.contains_iff_mem.1 (by kernel_rfl))); unfold Pj.sl at e2; simp only [Array.getD_eq_getD_getElem?] at e2; go_simp; exact hK _ _ hS ⟨H, b', cs', i2, i7, j8, j9, j10, fun _ => rfl, j13, hcl⟩))); (try simp only [List.nil_append, List.cons_append]))
          (refine Pj.walkI_step rfl (by simp) rfl ?_ ?_; (focus (intro A w' dn hS hJ hd0 hdn hA K hK; (try simp only [List.map_cons, List.map_nil, Pj.knows, Pj.Is, Pj.Any, Op.operands, Call.operands, List.lookup_cons, List.lookup_nil, Nat.reduceBEq, Bool.false_eq_true, if_false, if_true, Act.eval, Array.getD_eq_getD_getElem?, List.getElem?_toArray, List.getElem?_cons_succ, List.getElem?_cons_zero, Option.getD_some, and_true, true_and, List.append_toArray, List.nil_append, List.cons_append, List.toList_toArray, Array.toList_append, Option.toArray, List.append_nil] at hA); (obtain ⟨H, b', cs', i2, i7, j8, j9, j10, j11, j13, hcl⟩ := hJ; have hd12 : dn 12 = false := hd0; have hd13 : dn 13 = false := (Bool.eq_false_iff.2 fun hq => absurd (hcl hq) (by simp [hd12])); rw [hd13, hd12] at i2; have i3 := i2.fillT 0 rfl (Ext.new w' (.cells zeroT 27)) (Own.new w' zeroT 27) (Nat.le_refl _); go_simp; exact hK _ _ (hS.alloc' _) ⟨H, w'.heap.size, cs', by simpa [Pj.upd, hd13] using i3, fun _ => rfl, j8, j9, j10, j11, j13, fun _ => rfl⟩))); (try simp only [List.nil_append, List.cons_append]))
          (refine Pj.walkI_none 1000 (by rfl) (by exact Nat.le_of_ble_eq_true rfl) (by rfl) ?_ ?_; (focus (intro A w' dn hS hJ hd0 hdn hA K hK; (try simp only [List.map_cons, List.map_nil, Pj.knows, Pj.Is, Pj.Any, Op.operands, Call.operands, List.lookup_cons, List.lookup_nil, Nat.reduceBEq, Bool.false_eq_true, if_false, if_true, Act.eval, Array.getD_eq_getD_getElem?, List.getElem?_toArray, List.getElem?_cons_succ, List.getElem?_cons_zero, Option.getD_some, and_true, true_and, List.append_toArray, List.nil_append, List.cons_append, List.toList_toArray, Array.toList_append, Option.toArray, List.append_nil] at hA); (obtain ⟨H, b', cs', i2, i7, j8, j9, j10, j11, j13, hcl⟩ := hJ; have hd13 : dn 13 = false := hd0; have hd12 : dn 12 = true := hdn 12 (List.contains_iff_mem.1 (by kernel_rfl)); obtain ⟨cs, e2, k2⟩ := j10 (hdn 10 (List.contains_iff_mem.1 (by kernel_rfl))); have e7 := i7 hd12; unfold Pj.sl at e2 e7; simp only [Array.getD_eq_getD_getElem?] at e2 e7; obtain ⟨p1, q1, p2, q2, p3, q3, rfl, -⟩ := k2.form; rw [hd13, hd12] at i2; have i3 : Mem wr (ph wr) [box b' #[.slice none 0 0, .slice none 0 0, .slice none 0 0] 27] H w' := i2; obtain ⟨q0, qq1, qq2, ql, qf⟩ := i3.cellsF 0 rfl; have i4 := i3.setT 0 rfl (.slice p1 (u).cls.length q1) (.slice p2 (u).vals.length q2) (.slice p3 (u).parts.length q3); simp only [List.set_cons_zero] at i4; go_simp; exact hK _ i4.ex ⟨H, b', _, by simpa [Pj.upd] using i4, i7, j8, j9, j10, j11, fun _ => k2, fun _ => hd12⟩))); (try simp only [List.nil_append, List.cons_append]))
          (refine Pj.walkI_nil ?_; simp only [List.nil_append, List.cons_append, Pj.fins, Pj.Is, Pj.Any, forall_eq, true_implies, Act.put, List.setIfInBounds_toArray, List.set_cons_zero, List.set_cons_succ, List.set_nil, forall_const])
          intro w6 hx8 v63 v54 v64 v65 v16 hJ
          obtain ⟨H, gb, cs, i2, i7, -, -, -, j11, j13, -⟩ := hJ
          have e7 : v16 = .pointer (some ⟨gb, 0, none⟩) := i7 rfl
          have hU := j13 rfl
          obtain ⟨f4, g4, f5, g5, f6, g6, rfl, -⟩ := (hU).form
          have e65 : v65 = .int .i64 eu := j11 rfl
          have hM : Mem wr (ph wr) [box gb #[.slice f4 (u).cls.length g4, .slice f5 (u).vals.length g5, .slice f6 (u).parts.length g6] 27] H w6 := i2
          clear i2 i7 j11 j13 hx8
          subst e7 e65
          have hx6 := hM.ex
          obtain ⟨m0, m1, m2, ml⟩ := hM.cellsT 0 rfl
          replace hU := mono_ThingR _ _ _ _ hM.ple hU
          clear hM
          go_upto_region 10 with (fail)
          replace h0 := hx6.cell1 h0
          replace h1 := hx6.cell1 h1
          replace h2 := hx6.cell1 h2
          replace hbl := cell_lt h0
          replace y0 := hx6.cell1 y0
          replace y1 := hx6.cell1 y1
          replace y2 := hx6.cell1 y2
          replace kbl := cell_lt y0
          have hcv2 := Lib.hid (fun H W (hl : PLe (ph w6) H) (hP : PLe H (ph W)) => hcv.out H w6 hx6 hl W hP)
          (refine Pj.wp_region_J 14 (WJ 75 66 76 77 18 w6 u eu) (by kernel_rfl) (by kernel_rfl) (⟨ph w6, 0, [], ((Mem.start w6 (ph w6) (fun _ _ h => h)).ext (Ext.rfl' w6).drew').pick [0] (by decide), by simp, by simp, by simp, by simp, by simp, by simp, by simp⟩) ?_; simp only [List.toList_toArray, List.take_succ_cons, List.take_zero, List.drop_succ_cons, List.drop_zero])
          iterate 8 (refine Pj.walkI_is (u := ?_) rfl (by simp) rfl (fun dn s w h => h) ?_ ?_; rotate_left; (focus (intro A w' dn hS hJ hdn hA K hK; (try simp only [List.map_cons, List.map_nil, Pj.knows, Pj.Is, Pj.Any, Op.operands, Call.operands, List.lookup_cons, List.lookup_nil, Nat.reduceBEq, Bool.false_eq_true, if_false, if_true, Act.eval, Array.getD_eq_getD_getElem?, List.getElem?_toArray, List.getElem?_cons_succ, List.getElem?_cons_zero, Option.getD_some, and_true, true_and, List.append_toArray, List.nil_append, List.cons_append, List.toList_toArray, Array.toList_append, Option.toArray, List.append_nil] at hA); first | fail | (obtain ⟨hSc, hSf, hSs⟩ := hS.cells; go_simp; exact hK))); (try simp only [List.nil_append, List.cons_append]))
          (refine Pj.walkI_step rfl (by simp) rfl ?_ ?_; (focus (intro A w' dn hS hJ hd0 hdn hA K hK; (try simp only [List.map_cons, List.map_nil, Pj.knows, Pj.Is, Pj.Any, Op.operands, Call.operands, List.lookup_cons, List.lookup_nil, Nat.reduceBEq, Bool.false_eq_true, if_false, if_true, Act.eval, Array.getD_eq_getD_getElem?, List.getElem?_toArray, List.getElem?_cons_succ, List.getElem?_cons_zero, Option.getD_some, and_true, true_and, List.append_toArray, List.nil_append, List.cons_append, List.toList_toArray, Array.toList_append, Option.toArray, List.append_nil] at hA); (obtain ⟨H, b', cs', i2, i7, j8, j9, j10, j11, j13, hcl⟩ := hJ; go_simp; refine (hcv2.out H _ i2.le i2.ple).mono ?_; rintro e w'' ⟨cs, rfl, h4, hx''⟩; have hu := ple_up (w' := w'') i2.ple; exact hK _ _ (hS.then hx'') ⟨_, b', cs', i2.up hx'', i7, fun _ => ⟨cs, rfl, h4⟩, fun h => (j9 h).imp fun cs h => ⟨h.1, mono_ThingR _ _ _ _ hu h.2⟩, fun h => (j10 h).imp fun cs h => ⟨h.1, mono_ThingR _ _ _ _ hu h.2⟩, j11, fun h => mono_ThingR _ _ _ _ hu (j13 h), hcl⟩))); (try simp only [List.nil_append, List.cons_append]))
          (refine Pj.walkI_step rfl (by simp) rfl ?_ ?_; (focus (intro A w' dn hS hJ hd0 hdn hA K hK; (try simp only [List.map_cons, List.map_nil, Pj.knows, Pj.Is, Pj.Any, Op.operands, Call.operands, List.lookup_cons, List.lookup_nil, Nat.reduceBEq, Bool.false_eq_true, if_false, if_true, Act.eval, Array.getD_eq_getD_getElem?, List.getElem?_toArray, List.getElem?_cons_succ, List.getElem?_cons_zero, Option.getD_some, and_true, true_and, List.append_toArray, List.nil_append, List.cons_append, List.toList_toArray, Array.toList_append, Option.toArray, List.append_nil] at hA); (obtain ⟨H, b', cs', i2, i7, j8, j9, j10, j11, j13, hcl⟩ := hJ; obtain ⟨cs, e2, k2⟩ := j8 (hdn 8 (List.contains_iff_mem.1 (by kernel_rfl))); unfold Pj.sl at e2; simp only [Array.getD_eq_getD_getElem?] at e2; go_simp; exact hK _ _ hS ⟨H, b', cs', i2, i7, j8, fun _ => ⟨cs, rfl, k2⟩, j10, j11, j13, hcl⟩))); (try simp only [List.nil_append, List.cons_append]))
          (refine Pj.walkI_step rfl (by simp) rfl ?_ ?_; (focus (intro A w' dn hS hJ hd0 hdn hA K hK; (try simp only [List.map_cons, List.map_nil, Pj.knows, Pj.Is, Pj.Any, Op.operands, Call.operands, List.lookup_cons, List.lookup_nil, Nat.reduceBEq, Bool.false_eq_true, if_false, if_true, Act.eval, Array.getD_eq_getD_getElem?, List.getElem?_toArray, List.getElem?_cons_succ, List.getElem?_cons_zero, Option.getD_some, and_true, true_and, List.append_toArray, List.nil_append, List.cons_append, List.toList_toArray, Array.toList_append, Option.toArray, List.append_nil] at hA); (obtain ⟨H, b', cs', i2, i7, j8, j9, j10, j11, j13, hcl⟩ := hJ; obtain ⟨cs, e2, k2⟩ := j9 (hdn 9 (List.contains_iff_mem.1 (by kernel_rfl))); unfold Pj.sl at e2; simp only [Array.getD_eq_getD_getElem?] at e2; go_simp; exact hK _ _ hS ⟨H, b', cs', i2, i7, j8, j9, fun _ => ⟨cs, rfl, k2⟩, j11, j13, hcl⟩))); (try simp only [List.nil_append, List.cons_append]))
          (refine Pj.walkI_step rfl (by simp) rfl ?_ ?_; (focus (intro A w' dn hS hJ hd0 hdn hA K hK; (try simp only [List.map_cons, List.map_nil, Pj.knows, Pj.Is, Pj.Any, Op.operands, Call.operands, List.lookup_cons, List.lookup_nil, Nat.reduceBEq, Bool.false_eq_true, if_false, if_true, Act.eval, Array.getD_eq_getD_getElem?, List.getElem?_toArray, List.getElem?_cons_succ, List.getElem?_cons_zero, Option.getD_some, and_true, true_and, List.append_toArray, List.nil_append, List.cons_append, List.toList_toArray, Array.toList_append, Option.toArray, List.append_nil] at hA); (obtain ⟨H, b', cs', i2, i7, j8, j9, j10, j11, j13, hcl⟩ := hJ; obtain ⟨cs, e2, k2⟩ := j9 (hdn 9 (List.contains_iff_mem.1 (by kernel_rfl))); unfold Pj.sl at e2; simp only [Array.getD_eq_getD_getElem?] at e2; go_simp; exact hK _ _ hS ⟨H, b', cs', i2, i7, j8, j9, j10, fun _ => rfl, j13, hcl⟩))); (try simp only [List.nil_append, List.cons_append]))
          (refine Pj.walkI_step rfl (by simp) rfl ?_ ?_; (focus (intro A w' dn hS hJ hd0 hdn hA K hK; (try simp only [List.map_cons, List.map_nil, Pj.knows, Pj.Is, Pj.Any, Op.operands, Call.operands, List.lookup_cons, List.lookup_nil, Nat.reduceBEq, Bool.false_eq_true, if_false, if_true, Act.eval, Array.getD_eq_getD_getElem?, List.getElem?_toArray, List.getElem?_cons_succ, List.getElem?_cons_zero, Option.getD_some, and_true, true_and, List.append_toArray, List.nil_append, List.cons_append, List.toList_toArray, Array.toList_append, Option.toArray, List.append_nil] at hA); (obtain ⟨H, b', cs', i2, i7, j8, j9, j10, j11, j13, hcl⟩ := hJ; have hd12 : dn 12 = false := hd0; have hd13 : dn 13 = false := (Bool.eq_false_iff.2 fun hq => absurd (hcl hq) (by simp [hd12])); rw [hd13, hd12] at i2; have i3 := i2.fillT 0 rfl (Ext.new w' (.cells zeroT 27)) (Own.new w' zeroT 27) (Nat.le_refl _); go_simp; exact hK _ _ (hS.alloc' _) ⟨H, w'.heap.size, cs', by simpa [Pj.upd, hd13] using i3, fun _ => rfl, j8, j9, j10, j11, j13, fun _ => rfl⟩))); (try simp only [List.nil_append, List.cons_append]))
          (refine Pj.walkI_none 1000 (by rfl) (by exact Nat.le_of_ble_eq_true rfl) (by rfl) ?_ ?_; (focus (intro A w' dn hS hJ hd0 hdn hA K hK; (try simp only [List.map_cons, List.map_nil, Pj.knows, Pj.Is, Pj.Any, Op.operands, Call.operands, List.lookup_cons, List.lookup_nil, Nat.reduceBEq, Bool.false_eq_true, if_false, if_true, Act.eval, Array.getD_eq_getD_getElem?, List.getElem?_toArray, List.getElem?_cons_succ, List.getElem?_cons_zero, Option.getD_some, and_true, true_and, List.append_toArray, List.nil_append, List.cons_append, List.toList_toArray, Array.toList_append, Option.toArray, List.append_nil] at hA); (obtain ⟨H, b', cs', i2, i7, j8, j9, j10, j11, j13, hcl⟩ := hJ; have hd13 : dn 13 = false := hd0; have hd12 : dn 12 = true := hdn 12 (List.contains_iff_mem.1 (by kernel_rfl)); obtain ⟨cs, e2, k2⟩ := j10 (hdn 10 (List.contains_iff_mem.1 (by kernel_rfl))); have e7 := i7 hd12; unfold Pj.sl at e2 e7; simp only [Array.getD_eq_getD_getElem?] at e2 e7; obtain ⟨p1, q1, p2, q2, p3, q3, rfl, -⟩ := k2.form; rw [hd13, hd12] at i2; have i3 : Mem w6 (ph w6) [box b' #[.slice none 0 0, .slice none 0 0, .slice none 0 0] 27] H w' := i2; obtain ⟨q0, qq1, qq2, ql, qf⟩ := i3.cellsF 0 rfl; have i4 := i3.setT 0 rfl (.slice p1 (u).cls.length q1) (.slice p2 (u).vals.length q2) (.slice p3 (u).parts.length q3); simp only [List.set_cons_zero] at i4; go_simp; exact hK _ i4.ex ⟨H, b', _, by simpa [Pj.upd] using i4, i7, j8, j9, j10, j11, fun _ => k2, fun _ => hd12⟩))); (try simp only [List.nil_append, List.cons_append]))
          (refine Pj.walkI_nil ?_; simp only [List.nil_append, List.cons_append, Pj.fins, Pj.Is, Pj.Any, forall_eq, true_implies, Act.put, List.setIfInBounds_toArray, List.set_cons_zero, List.set_cons_succ, List.set_nil, forall_const])
          intro w7 hx8 v63 v54 v64 v65 v16 hJ
          obtain ⟨H, gc, cs, i2, i7, -, -, -, j11, j13, -⟩ := hJ
          have e7 : v16 = .pointer (some ⟨gc, 0, none⟩) := i7 rfl
          have hU2 := j13 rfl
          obtain ⟨f7, g7, f8, g8, f9, g9, rfl, -⟩ := (hU2).form
          have e65 : v65 = .int .i64 eu := j11 rfl
          have hM : Mem w6 (ph w6) [box gc #[.slice f7 (u).cls.length g7, .slice f8 (u).vals.length g8, .slice f9 (u).parts.length g9] 27] H w7 := i2
          clear i2 i7 j11 j13 hx8
          subst e7 e65
          have hx7 := hM.ex
          obtain ⟨n0, n1, n2, nl⟩ := hM.cellsT 0 rfl
          replace hU2 := mono_ThingR _ _ _ _ hM.ple hU2
          clear hM
          go_upto_region 11 with (fail)
          replace h0 := hx7.cell1 h0
          replace h1 := hx7.cell1 h1
          replace h2 := hx7.cell1 h2
          replace hbl := cell_lt h0
          replace y0 := hx7.cell1 y0
          replace y1 := hx7.cell1 y1
          replace y2 := hx7.cell1 y2
          replace kbl := cell_lt y0
          replace m0 := hx7.cell1 m0
          replace m1 := hx7.cell1 m1
          replace m2 := hx7.cell1 m2
          replace ml := cell_lt m0
          replace hU := mono_ThingR _ _ _ _ hx7.ple hU
          have hx67 := hx6.then hx7
          clear hcw hcv hcv2 hx6 hx7
          have hs1 := Lib.hid (fun W (e : Ext w7 W) => rsame_c u u _ _ W (mono_ThingR _ _ _ _ e.ple hU) (mono_ThingR _ _ _ _ e.ple hU2) (by omega) (by omega))
          rw [cmpT_self] at hs1
          by_cases heu : eu = 0
          · obtain ⟨hz, -⟩ := hwf.out heu
            subst heu
            have hsx := x.size_le_bulk
            have hsy := y.size_le_bulk
            have hsu := u.size_le_bulk
            have hz1 := Lib.hid (fun W (e : Ext w7 W) => size_c u _ W (mono_ThingR _ _ _ _ e.ple hU) (by omega))
            have hz2 := Lib.hid (fun W (e : Ext w7 W) => size_c x _ W (mono_ThingR _ _ _ _ (hx67.then e).ple hE) (by omega))
            have hz3 := Lib.hid (fun W (e : Ext w7 W) => size_c y _ W (mono_ThingR _ _ _ _ (hx67.then e).ple hF) (by omega))
            rw [hz, Int.natCast_add] at hz1
            have hws : IntKind.i64.wrap ((x.size : Int) + (y.size : Int)) = (x.size : Int) + (y.size : Int) := by rw [IntKind.wrap_i64]; omega
            replace hz := Lib.hid hz
            clear hwf
            (refine wp_region_I 29 (by kernel_rfl) (by kernel_rfl) ?_; simp only [List.toList_toArray, List.take_succ_cons, List.take_zero, List.drop_succ_cons, List.drop_zero])
            iterate 4 (refine walkI_is (u := ?_) rfl (by simp) rfl ?_ ?_; rotate_left; (focus (intro A w' hS hA K hK; (simp only [List.map_cons, List.map_nil, knows, Is, Op.operands, Call.operands, List.lookup_cons, List.lookup_nil, Nat.reduceBEq, Bool.false_eq_true, if_false, if_true, Act.eval, Array.getD_eq_getD_getElem?, List.getElem?_toArray, List.getElem?_cons_succ, List.getElem?_cons_zero, Option.getD_some, and_true, true_and, List.append_toArray, List.nil_append, List.cons_append, List.toList_toArray, Array.toList_append, Option.toArray, List.append_nil] at hA); first | fail | (obtain ⟨hSc, hSf, hSs⟩ := hS.cells; go_simp; exact hK _ (by first | exact Ext.rfl' _ | exact Ext.new _ _ | assumption)))); (try simp only [List.nil_append, List.cons_append]))
            iterate 2 (refine walkI_yesis (u := ?_) rfl (by simp) rfl rfl rfl ?_ ?_; rotate_left; (focus (intro A w' hS hA K hK; (simp only [List.map_cons, List.map_nil, knows, Is, Op.operands, Call.operands, List.lookup_cons, List.lookup_nil, Nat.reduceBEq, Bool.false_eq_true, if_false, if_true, Act.eval, Array.getD_eq_getD_getElem?, List.getElem?_toArray, List.getElem?_cons_succ, List.getElem?_cons_zero, Option.getD_some, and_true, true_and, List.append_toArray, List.nil_append, List.cons_append, List.toList_toArray, Array.toList_append, Option.toArray, List.append_nil] at hA); first | fail | (obtain ⟨hSc, hSf, hSs⟩ := hS.cells; go_simp; exact hK _ (by first | exact Ext.rfl' _ | exact Ext.new _ _ | assumption)))); (try simp only [List.nil_append, List.cons_append]))
            (refine walkI_yesis (u := ?_) rfl (by simp) rfl rfl rfl ?_ ?_; rotate_left; (focus (intro A w' hS hA K hK; (simp only [List.map_cons, List.map_nil, knows, Is, Op.operands, Call.operands, List.lookup_cons, List.lookup_nil, Nat.reduceBEq, Bool.false_eq_true, if_false, if_true, Act.eval, Array.getD_eq_getD_getElem?, List.getElem?_toArray, List.getElem?_cons_succ, List.getElem?_cons_zero, Option.getD_some, and_true, true_and, List.append_toArray, List.nil_append, List.cons_append, List.toList_toArray, Array.toList_append, Option.toArray, List.append_nil] at hA); first | (go_simp; refine RetV_at (hs1.out _ hS) ?_; intro w'' hx''; exact hK _ hx'') | (obtain ⟨hSc, hSf, hSs⟩ := hS.cells; go_simp; exact hK _ (by first | exact Ext.rfl' _ | exact Ext.new _ _ | assumption)))); (try simp only [List.nil_append, List.cons_append]))
            (refine walkI_yesis (u := ?_) rfl (by simp) rfl rfl rfl ?_ ?_; rotate_left; (focus (intro A w' hS hA K hK; (simp only [List.map_cons, List.map_nil, knows, Is, Op.operands, Call.operands, List.lookup_cons, List.lookup_nil, Nat.reduceBEq, Bool.false_eq_true, if_false, if_true, Act.eval, Array.getD_eq_getD_getElem?, List.getElem?_toArray, List.getElem?_cons_succ, List.getElem?_cons_zero, Option.getD_some, and_true, true_and, List.append_toArray, List.nil_append, List.cons_append, List.toList_toArray, Array.toList_append, Option.toArray, List.append_nil] at hA); first | fail | (obtain ⟨hSc, hSf, hSs⟩ := hS.cells; go_simp; exact hK _ (by first | exact Ext.rfl' _ | exact Ext.new _ _ | assumption)))); (try simp only [List.nil_append, List.cons_append]))
            iterate 2 (refine walkI_is (u := ?_) rfl (by simp) rfl ?_ ?_; rotate_left; (focus (intro A w' hS hA K hK; (simp only [List.map_cons, List.map_nil, knows, Is, Op.operands, Call.operands, List.lookup_cons, List.lookup_nil, Nat.reduceBEq, Bool.false_eq_true, if_false, if_true, Act.eval, Array.getD_eq_getD_getElem?, List.getElem?_toArray, List.getElem?_cons_succ, List.getElem?_cons_zero, Option.getD_some, and_true, true_and, List.append_toArray, List.nil_append, List.cons_append, List.toList_toArray, Array.toList_append, Option.toArray, List.append_nil] at hA); first | fail | (obtain ⟨hSc, hSf, hSs⟩ := hS.cells; go_simp; exact hK _ (by first | exact Ext.rfl' _ | exact Ext.new _ _ | assumption)))); (try simp only [List.nil_append, List.cons_append]))
            iterate 4 (refine walkI_yesis (u := ?_) rfl (by simp) rfl rfl rfl ?_ ?_; rotate_left; (focus (intro A w' hS hA K hK; (simp only [List.map_cons, List.map_nil, knows, Is, Op.operands, Call.operands, List.lookup_cons, List.lookup_nil, Nat.reduceBEq, Bool.false_eq_true, if_false, if_true, Act.eval, Array.getD_eq_getD_getElem?, List.getElem?_toArray, List.getElem?_cons_succ, List.getElem?_cons_zero, Option.getD_some, and_true, true_and, List.append_toArray, List.nil_append, List.cons_append, List.toList_toArray, Array.toList_append, Option.toArray, List.append_nil] at hA); first | fail | (obtain ⟨hSc, hSf, hSs⟩ := hS.cells; go_simp; exact hK _ (by first | exact Ext.rfl' _ | exact Ext.new _ _ | assumption)))); (try simp only [List.nil_append, List.cons_append]))
            (refine walkI_yesis (u := ?_) rfl (by simp) rfl rfl rfl ?_ ?_; rotate_left; (focus (intro A w' hS hA K hK; (simp only [List.map_cons, List.map_nil, knows, Is, Op.operands, Call.operands, List.lookup_cons, List.lookup_nil, Nat.reduceBEq, Bool.false_eq_true, if_false, if_true, Act.eval, Array.getD_eq_getD_getElem?, List.getElem?_toArray, List.getElem?_cons_succ, List.getElem?_cons_zero, Option.getD_some, and_true, true_and, List.append_toArray, List.nil_append, List.cons_append, List.toList_toArray, Array.toList_append, Option.toArray, List.append_nil] at hA); first | (go_simp; refine RetV_at (hz1.out _ hS) ?_; intro w'' hx''; exact hK _ hx'') | (obtain ⟨hSc, hSf, hSs⟩ := hS.cells; go_simp; exact hK _ (by first | exact Ext.rfl' _ | exact Ext.new _ _ | assumption)))); (try simp only [List.nil_append, List.cons_append]))
            iterate 4 (refine walkI_yesis (u := ?_) rfl (by simp) rfl rfl rfl ?_ ?_; rotate_left; (focus (intro A w' hS hA K hK; (simp only [List.map_cons, List.map_nil, knows, Is, Op.operands, Call.operands, List.lookup_cons, List.lookup_nil, Nat.reduceBEq, Bool.false_eq_true, if_false, if_true, Act.eval, Array.getD_eq_getD_getElem?, List.getElem?_toArray, List.getElem?_cons_succ, List.getElem?_cons_zero, Option.getD_some, and_true, true_and, List.append_toArray, List.nil_append, List.cons_append, List.toList_toArray, Array.toList_append, Option.toArray, List.append_nil] at hA); first | fail | (obtain ⟨hSc, hSf, hSs⟩ := hS.cells; go_simp; exact hK _ (by first | exact Ext.rfl' _ | exact Ext.new _ _ | assumption)))); (try simp only [List.nil_append, List.cons_append]))
            (refine walkI_yesis (u := ?_) rfl (by simp) rfl rfl rfl ?_ ?_; rotate_left; (focus (intro A w' hS hA K hK; (simp only [List.map_cons, List.map_nil, knows, Is, Op.operands, Call.operands, List.lookup_cons, List.lookup_nil, Nat.reduceBEq, Bool.false_eq_true, if_false, if_true, Act.eval, Array.getD_eq_getD_getElem?, List.getElem?_toArray, List.getElem?_cons_succ, List.getElem?_cons_zero, Option.getD_some, and_true, true_and, List.append_toArray, List.nil_append, List.cons_append, List.toList_toArray, Array.toList_append, Option.toArray, List.append_nil] at hA); first | (go_simp; refine RetV_at (hz2.out _ hS) ?_; intro w'' hx''; exact hK _ hx'') | (obtain ⟨hSc, hSf, hSs⟩ := hS.cells; go_simp; exact hK _ (by first | exact Ext.rfl' _ | exact Ext.new _ _ | assumption)))); (try simp only [List.nil_append, List.cons_append]))
            iterate 4 (refine walkI_yesis (u := ?_) rfl (by simp) rfl rfl rfl ?_ ?_; rotate_left; (focus (intro A w' hS hA K hK; (simp only [List.map_cons, List.map_nil, knows, Is, Op.operands, Call.operands, List.lookup_cons, List.lookup_nil, Nat.reduceBEq, Bool.false_eq_true, if_false, if_true, Act.eval, Array.getD_eq_getD_getElem?, List.getElem?_toArray, List.getElem?_cons_succ, List.getElem?_cons_zero, Option.getD_some, and_true, true_and, List.append_toArray, List.nil_append, List.cons_append, List.toList_toArray, Array.toList_append, Option.toArray, List.append_nil] at hA); first | fail | (obtain ⟨hSc, hSf, hSs⟩ := hS.cells; go_simp; exact hK _ (by first | exact Ext.rfl' _ | exact Ext.new _ _ | assumption)))); (try simp only [List.nil_append, List.cons_append]))
            (refine walkI_yesis (u := ?_) rfl (by simp) rfl rfl rfl ?_ ?_; rotate_left; (focus (intro A w' hS hA K hK; (simp only [List.map_cons, List.map_nil, knows, Is, Op.operands, Call.operands, List.lookup_cons, List.lookup_nil, Nat.reduceBEq, Bool.false_eq_true, if_false, if_true, Act.eval, Array.getD_eq_getD_getElem?, List.getElem?_toArray, List.getElem?_cons_succ, List.getElem?_cons_zero, Option.getD_some, and_true, true_and, List.append_toArray, List.nil_append, List.cons_append, List.toList_toArray, Array.toList_append, Option.toArray, List.append_nil] at hA); first | (go_simp; refine RetV_at (hz3.out _ hS) ?_; intro w'' hx''; exact hK _ hx'') | (obtain ⟨hSc, hSf, hSs⟩ := hS.cells; go_simp; exact hK _ (by first | exact Ext.rfl' _ | exact Ext.new _ _ | assumption)))); (try simp only [List.nil_append, List.cons_append]))
            iterate 3 (refine walkI_yesis (u := ?_) rfl (by simp) rfl rfl rfl ?_ ?_; rotate_left; (focus (intro A w' hS hA K hK; (simp only [List.map_cons, List.map_nil, knows, Is, Op.operands, Call.operands, List.lookup_cons, List.lookup_nil, Nat.reduceBEq, Bool.false_eq_true, if_false, if_true, Act.eval, Array.getD_eq_getD_getElem?, List.getElem?_toArray, List.getElem?_cons_succ, List.getElem?_cons_zero, Option.getD_some, and_true, true_and, List.append_toArray, List.nil_append, List.cons_append, List.toList_toArray, Array.toList_append, Option.toArray, List.append_nil] at hA); first | fail | (obtain ⟨hSc, hSf, hSs⟩ := hS.cells; go_simp; exact hK _ (by first | exact Ext.rfl' _ | exact Ext.new _ _ | assumption)))); (try simp only [List.nil_append, List.cons_append]))
            (refine walkI_is (u := ?_) rfl (by simp) rfl ?_ ?_; rotate_left; (focus (intro A w' hS hA K hK; (simp only [List.map_cons, List.map_nil, knows, Is, Op.operands, Call.operands, List.lookup_cons, List.lookup_nil, Nat.reduceBEq, Bool.false_eq_true, if_false, if_true, Act.eval, Array.getD_eq_getD_getElem?, List.getElem?_toArray, List.getElem?_cons_succ, List.getElem?_cons_zero, Option.getD_some, and_true, true_and, List.append_toArray, List.nil_append, List.cons_append, List.toList_toArray, Array.toList_append, Option.toArray, List.append_nil] at hA); first | fail | (obtain ⟨hSc, hSf, hSs⟩ := hS.cells; go_simp; exact hK _ (by first | exact Ext.rfl' _ | exact Ext.new _ _ | assumption)))); (try simp only [List.nil_append, List.cons_append]))
            (refine walkI_nil ?_; simp only [List.nil_append, List.cons_append, fins, Is, forall_eq, Act.put, List.setIfInBounds_toArray, List.set_cons_zero, List.set_cons_succ])
            intro w8 hx8
            clear hz1 hz2 hz3 hws hz hsx hsy hsu
            have hw8 := (hwr.then hx67).then hx8
            replace y0 := hx8.cell1 y0
            replace y1 := hx8.cell1 y1
            replace y2 := hx8.cell1 y2
            replace kbl := cell_lt y0
            replace hF := mono_ThingR _ _ _ _ (hx67.then hx8).ple hF
            replace hA := mono_ThingR _ _ _ _ hw8.ple hA
            replace x0 := hw8.cell1 x0
            replace x1 := hw8.cell1 x1
            replace x2 := hw8.cell1 x2
            replace xl := cell_lt x0
            clear h0 h1 h2 hbl m0 m1 m2 ml n0 n1 n2 nl hx67 hx8 hwr hs1 hE hU hU2
            have hcn := Lib.hid (normal_c y (ph w8) _ w8 (PLe.refl _) hF (by omega))
            have hby := normV_bulk y
            have hny := Lib.hid (hnm.out y)
            generalize normV y = b at *
            generalize normE y = es at *
            go_wp2_with fail
            refine hcn.out.mono ?_
            rintro e w9 ⟨cs, rfl, hC, hx9⟩
            replace hC := mono_ThingR _ _ _ _ (up_ple (PLe.refl _) hx9) hC
            obtain ⟨p1, q1, p2, q2, p3, q3, rfl, -⟩ := hC.form
            replace x0 := hx9.cell1 x0
            replace x1 := hx9.cell1 x1
            replace x2 := hx9.cell1 x2
            replace xl := cell_lt x0
            replace hA := mono_ThingR _ _ _ _ hx9.ple hA
            have hw9 := hw8.then hx9
            clear hx9 hw8 hcn hF y0 y1 y2 kbl
            go_upto_region 14 with (fail)
            have ho := Proofs.YtnhcplmcddlgnaaGreat.Own.new w9 #[.slice p1 b.cls.length q1, .slice p2 b.vals.length q2, .slice p3 b.parts.length q3] 27
            have e10 : Ext w9 _ := Ext.new w9 (.cells #[.slice p1 b.cls.length q1, .slice p2 b.vals.length q2, .slice p3 b.parts.length q3] 27)
            generalize World.alloc _ _ = w10 at *
            generalize w9.heap.size = gd at *
            have z0 : w10.cell? ⟨gd, 0, none⟩ = some (.slice p1 b.cls.length q1) := ho.facts.1 0
            have z1 : w10.cell? ⟨gd, 1, none⟩ = some (.slice p2 b.vals.length q2) := ho.facts.1 1
            have z2 : w10.cell? ⟨gd, 2, none⟩ = some (.slice p3 b.parts.length q3) := ho.facts.1 2
            have zl := ho.lt
            replace hC := mono_ThingR _ _ _ _ e10.ple hC
            clear ho
            replace x0 := e10.cell1 x0
            replace x1 := e10.cell1 x1
            replace x2 := e10.cell1 x2
            replace xl := cell_lt x0
            replace hA := mono_ThingR _ _ _ _ e10.ple hA
            have hw10 := hw9.then e10
            clear e10 hw9
            by_cases her : er = 0
            · by_cases hes : es = 0
              · have hnn := Lib.hid (hny.out her hes)
                subst her hes
                have hcw := Lib.hid (with_c a b (ph w10) _ _ w10 (PLe.refl _) hA hC (by omega) (by omega))
                have hdb := withV_bulk a b
                generalize withV a b = d at *
                generalize withE a b = eh at *
                clear hny
                go_wp2_with fail
                refine hcw.out.mono ?_
                rintro e w11 ⟨cs, rfl, hD, hx11⟩
                replace hD := mono_ThingR _ _ _ _ (up_ple (PLe.refl _) hx11) hD
                obtain ⟨p4, q4, p5, q5, p6, q6, rfl, -⟩ := hD.form
                have hw11 := hw10.then hx11
                clear hx11 hw10 hcw hA hC x0 x1 x2 xl z0 z1 z2 zl
                go_upto_region 16 with (fail)
                have ho := Proofs.YtnhcplmcddlgnaaGreat.Own.new w11 #[.slice p4 d.cls.length q4, .slice p5 d.vals.length q5, .slice p6 d.parts.length q6] 27
                have e12 : Ext w11 _ := Ext.new w11 (.cells #[.slice p4 d.cls.length q4, .slice p5 d.vals.length q5, .slice p6 d.parts.length q6] 27)
                generalize World.alloc _ _ = w12 at *
                generalize w11.heap.size = ge at *
                have z0 : w12.cell? ⟨ge, 0, none⟩ = some (.slice p4 d.cls.length q4) := ho.facts.1 0
                have z1 : w12.cell? ⟨ge, 1, none⟩ = some (.slice p5 d.vals.length q5) := ho.facts.1 1
                have z2 : w12.cell? ⟨ge, 2, none⟩ = some (.slice p6 d.parts.length q6) := ho.facts.1 2
                have zl := ho.lt
                replace hD := mono_ThingR _ _ _ _ e12.ple hD
                clear ho
                have hw12 := hw11.then e12
                clear e12 hw11
                have hcn := Lib.hid (normal_c d (ph w12) _ w12 (PLe.refl _) hD (by omega))
                have hnb := normV_bulk d
                generalize normV d = n at *
                generalize normE d = nh at *
                go_wp2_with fail
                refine hcn.out.mono ?_
                rintro e w13 ⟨cs, rfl, hG, hx13⟩
                replace hG := mono_ThingR _ _ _ _ (up_ple (PLe.refl _) hx13) hG
                obtain ⟨p7, q7, p8, q8, p9, q9, rfl, -⟩ := hG.form
                replace z0 := hx13.cell1 z0
                replace z1 := hx13.cell1 z1
                replace z2 := hx13.cell1 z2
                replace zl := cell_lt z0
                replace hD := mono_ThingR _ _ _ _ hx13.ple hD
                have hw13 := hw12.then hx13
                clear hx13 hw12 hcn
                go_upto_region 17 with (fail)
                have ho := Proofs.YtnhcplmcddlgnaaGreat.Own.new w13 #[.slice p7 n.cls.length q7, .slice p8 n.vals.length q8, .slice p9 n.parts.length q9] 27
                have e14 : Ext w13 _ := Ext.new w13 (.cells #[.slice p7 n.cls.length q7, .slice p8 n.vals.length q8, .slice p9 n.parts.length q9] 27)
                generalize World.alloc _ _ = w14 at *
                generalize w13.heap.size = gf at *
                have y0 : w14.cell? ⟨gf, 0, none⟩ = some (.slice p7 n.cls.length q7) := ho.facts.1 0
                have y1 : w14.cell? ⟨gf, 1, none⟩ = some (.slice p8 n.vals.length q8) := ho.facts.1 1
                have y2 : w14.cell? ⟨gf, 2, none⟩ = some (.slice p9 n.parts.length q9) := ho.facts.1 2
                have yl := ho.lt
                replace hG := mono_ThingR _ _ _ _ e14.ple hG
                clear ho
                replace z0 := e14.cell1 z0
                replace z1 := e14.cell1 z1
                replace z2 := e14.cell1 z2
                replace zl := cell_lt z0
                replace hD := mono_ThingR _ _ _ _ e14.ple hD
                have hw14 := hw13.then e14
                clear e14 hw13
                by_cases heh : eh = 0
                · obtain ⟨hk1, hk2⟩ := hnn.out heh
                  subst heh hk1 hk2
                  have hs2 := Lib.hid (rsame_c n n _ _ w14 hD hG (by omega) (by omega))
                  rw [cmpT_self] at hs2
                  clear hnn hD hG
                  go_wp2_with fail
                  refine RetV_at hs2.out ?_
                  intro w15 hx15
                  have hw15 := hw14.then hx15
                  clear hx15 hw14 z0 z1 z2 zl y0 y1 y2 yl hs2
                  go_wp2_with fail
                  go_roundw
                  case rel => exact ⟨k + 1, by omega, by go_num, hw15⟩
                  case measure => simp [intOf]; omega
                · have heh1 : (eh == 0) = false := by simpa using heh
                  replace heh := Lib.hid heh
                  clear hnn hD hG z0 z1 z2 zl y0 y1 y2 yl
                  go_wp2_with fail
                  go_roundw
                  case rel => exact ⟨k + 1, by omega, by go_num, hw14⟩
                  case measure => simp [intOf]; omega
              · have hes1 : (es == 0) = false := by simpa using hes
                replace hes := Lib.hid hes
                subst her
                clear hny hA hC x0 x1 x2 xl z0 z1 z2 zl
                go_wp2_with fail
                go_roundw
                case rel => exact ⟨k + 1, by omega, by go_num, hw10⟩
                case measure => simp [intOf]; omega
            · have her1 : (er == 0) = false := by simpa using her
              replace her := Lib.hid her
              clear hny hA hC x0 x1 x2 xl z0 z1 z2 zl
              go_wp2_with fail
              go_roundw
              case rel => exact ⟨k + 1, by omega, by go_num, hw10⟩
              case measure => simp [intOf]; omega
          · have heu1 : (eu == 0) = false := by simpa using heu
            replace heu := Lib.hid heu
            clear hwf
            (refine wp_region_I 29 (by kernel_rfl) (by kernel_rfl) ?_; simp only [List.toList_toArray, List.take_succ_cons, List.take_zero, List.drop_succ_cons, List.drop_zero])
            iterate 4 (refine walkI_is (u := ?_) rfl (by simp) rfl ?_ ?_; rotate_left; (focus (intro A w' hS hA K hK; (simp only [List.map_cons, List.map_nil, knows, Is, Op.operands, Call.operands, List.lookup_cons, List.lookup_nil, Nat.reduceBEq, Bool.false_eq_true, if_false, if_true, Act.eval, Array.getD_eq_getD_getElem?, List.getElem?_toArray, List.getElem?_cons_succ, List.getElem?_cons_zero, Option.getD_some, and_true, true_and, List.append_toArray, List.nil_append, List.cons_append, List.toList_toArray, Array.toList_append, Option.toArray, List.append_nil] at hA); first | fail | (obtain ⟨hSc, hSf, hSs⟩ := hS.cells; go_simp; exact hK _ (by first | exact Ext.rfl' _ | exact Ext.new _ _ | assumption)))); (try simp only [List.nil_append, List.cons_append]))
            iterate 2 (refine walkI_yesis (u := ?_) rfl (by simp) rfl rfl rfl ?_ ?_; rotate_left; (focus (intro A w' hS hA K hK; (simp only [List.map_cons, List.map_nil, knows, Is, Op.operands, Call.operands, List.lookup_cons, List.lookup_nil, Nat.reduceBEq, Bool.false_eq_true, if_false, if_true, Act.eval, Array.getD_eq_getD_getElem?, List.getElem?_toArray, List.getElem?_cons_succ, List.getElem?_cons_zero, Option.getD_some, and_true, true_and, List.append_toArray, List.nil_append, List.cons_append, List.toList_toArray, Array.toList_append, Option.toArray, List.append_nil] at hA); first | fail | (obtain ⟨hSc, hSf, hSs⟩ := hS.cells; go_simp; exact hK _ (by first | exact Ext.rfl' _ | exact Ext.new _ _ | assumption)))); (try simp only [List.nil_append, List.cons_append]))
            (refine walkI_yesis (u := ?_) rfl (by simp) rfl rfl rfl ?_ ?_; rotate_left; (focus (intro A w' hS hA K hK; (simp only [List.map_cons, List.map_nil, knows, Is, Op.operands, Call.operands, List.lookup_cons, List.lookup_nil, Nat.reduceBEq, Bool.false_eq_true, if_false, if_true, Act.eval, Array.getD_eq_getD_getElem?, List.getElem?_toArray, List.getElem?_cons_succ, List.getElem?_cons_zero, Option.getD_some, and_true, true_and, List.append_toArray, List.nil_append, List.cons_append, List.toList_toArray, Array.toList_append, Option.toArray, List.append_nil] at hA); first | (go_simp; refine RetV_at (hs1.out _ hS) ?_; intro w'' hx''; exact hK _ hx'') | (obtain ⟨hSc, hSf, hSs⟩ := hS.cells; go_simp; exact hK _ (by first | exact Ext.rfl' _ | exact Ext.new _ _ | assumption)))); (try simp only [List.nil_append, List.cons_append]))
            (refine walkI_yesis (u := ?_) rfl (by simp) rfl rfl rfl ?_ ?_; rotate_left; (focus (intro A w' hS hA K hK; (simp only [List.map_cons, List.map_nil, knows, Is, Op.operands, Call.operands, List.lookup_cons, List.lookup_nil, Nat.reduceBEq, Bool.false_eq_true, if_false, if_true, Act.eval, Array.getD_eq_getD_getElem?, List.getElem?_toArray, List.getElem?_cons_succ, List.getElem?_cons_zero, Option.getD_some, and_true, true_and, List.append_toArray, List.nil_append, List.cons_append, List.toList_toArray, Array.toList_append, Option.toArray, List.append_nil] at hA); first | fail | (obtain ⟨hSc, hSf, hSs⟩ := hS.cells; go_simp; exact hK _ (by first | exact Ext.rfl' _ | exact Ext.new _ _ | assumption)))); (try simp only [List.nil_append, List.cons_append]))
            iterate 2 (refine walkI_is (u := ?_) rfl (by simp) rfl ?_ ?_; rotate_left; (focus (intro A w' hS hA K hK; (simp only [List.map_cons, List.map_nil, knows, Is, Op.operands, Call.operands, List.lookup_cons, List.lookup_nil, Nat.reduceBEq, Bool.false_eq_true, if_false, if_true, Act.eval, Array.getD_eq_getD_getElem?, List.getElem?_toArray, List.getElem?_cons_succ, List.getElem?_cons_zero, Option.getD_some, and_true, true_and, List.append_toArray, List.nil_append, List.cons_append, List.toList_toArray, Array.toList_append, Option.toArray, List.append_nil] at hA); first | fail | (obtain ⟨hSc, hSf, hSs⟩ := hS.cells; go_simp; exact hK _ (by first | exact Ext.rfl' _ | exact Ext.new _ _ | assumption)))); (try simp only [List.nil_append, List.cons_append]))
            iterate 3 (refine walkI_yesis (u := ?_) rfl (by simp) rfl rfl rfl ?_ ?_; rotate_left; (focus (intro A w' hS hA K hK; (simp only [List.map_cons, List.map_nil, knows, Is, Op.operands, Call.operands, List.lookup_cons, List.lookup_nil, Nat.reduceBEq, Bool.false_eq_true, if_false, if_true, Act.eval, Array.getD_eq_getD_getElem?, List.getElem?_toArray, List.getElem?_cons_succ, List.getElem?_cons_zero, Option.getD_some, and_true, true_and, List.append_toArray, List.nil_append, List.cons_append, List.toList_toArray, Array.toList_append, Option.toArray, List.append_nil] at hA); first | fail | (obtain ⟨hSc, hSf, hSs⟩ := hS.cells; go_simp; exact hK _ (by first | exact Ext.rfl' _ | exact Ext.new _ _ | assumption)))); (try simp only [List.nil_append, List.cons_append]))
            iterate 14 (refine walkI_no rfl (by simp) rfl rfl rfl ?_ ?_; (focus (simp [undef]; done)); (try simp only [List.nil_append, List.cons_append]))
            (refine walkI_yesis (u := ?_) rfl (by simp) rfl rfl rfl ?_ ?_; rotate_left; (focus (intro A w' hS hA K hK; (simp only [List.map_cons, List.map_nil, knows, Is, Op.operands, Call.operands, List.lookup_cons, List.lookup_nil, Nat.reduceBEq, Bool.false_eq_true, if_false, if_true, Act.eval, Array.getD_eq_getD_getElem?, List.getElem?_toArray, List.getElem?_cons_succ, List.getElem?_cons_zero, Option.getD_some, and_true, true_and, List.append_toArray, List.nil_append, List.cons_append, List.toList_toArray, Array.toList_append, Option.toArray, List.append_nil] at hA); first | fail | (obtain ⟨hSc, hSf, hSs⟩ := hS.cells; go_simp; exact hK _ (by first | exact Ext.rfl' _ | exact Ext.new _ _ | assumption)))); (try simp only [List.nil_append, List.cons_append]))
            (refine walkI_is (u := ?_) rfl (by simp) rfl ?_ ?_; rotate_left; (focus (intro A w' hS hA K hK; (simp only [List.map_cons, List.map_nil, knows, Is, Op.operands, Call.operands, List.lookup_cons, List.lookup_nil, Nat.reduceBEq, Bool.false_eq_true, if_false, if_true, Act.eval, Array.getD_eq_getD_getElem?, List.getElem?_toArray, List.getElem?_cons_succ, List.getElem?_cons_zero, Option.getD_some, and_true, true_and, List.append_toArray, List.nil_append, List.cons_append, List.toList_toArray, Array.toList_append, Option.toArray, List.append_nil] at hA); first | fail | (obtain ⟨hSc, hSf, hSs⟩ := hS.cells; go_simp; exact hK _ (by first | exact Ext.rfl' _ | exact Ext.new _ _ | assumption)))); (try simp only [List.nil_append, List.cons_append]))
            (refine walkI_nil ?_; simp only [List.nil_append, List.cons_append, fins, Is, forall_eq, Act.put, List.setIfInBounds_toArray, List.set_cons_zero, List.set_cons_succ])
            intro w8 hx8
            have hw8 := (hwr.then hx67).then hx8
            replace y0 := hx8.cell1 y0
            replace y1 := hx8.cell1 y1
            replace y2 := hx8.cell1 y2
            replace kbl := cell_lt y0
            replace hF := mono_ThingR _ _ _ _ (hx67.then hx8).ple hF
            replace hA := mono_ThingR _ _ _ _ hw8.ple hA
            replace x0 := hw8.cell1 x0
            replace x1 := hw8.cell1 x1
            replace x2 := hw8.cell1 x2
            replace xl := cell_lt x0
            clear h0 h1 h2 hbl m0 m1 m2 ml n0 n1 n2 nl hx67 hx8 hwr hs1 hE hU hU2
            have hcn := Lib.hid (normal_c y (ph w8) _ w8 (PLe.refl _) hF (by omega))
            have hby := normV_bulk y
            have hny := Lib.hid (hnm.out y)
            generalize normV y = b at *
            generalize normE y = es at *
            go_wp2_with fail
            refine hcn.out.mono ?_
            rintro e w9 ⟨cs, rfl, hC, hx9⟩
            replace hC := mono_ThingR _ _ _ _ (up_ple (PLe.refl _) hx9) hC
            obtain ⟨p1, q1, p2, q2, p3, q3, rfl, -⟩ := hC.form
            replace x0 := hx9.cell1 x0
            replace x1 := hx9.cell1 x1
            replace x2 := hx9.cell1 x2
            replace xl := cell_lt x0
            replace hA := mono_ThingR _ _ _ _ hx9.ple hA
            have hw9 := hw8.then hx9
            clear hx9 hw8 hcn hF y0 y1 y2 kbl
            go_upto_region 14 with (fail)
            have ho := Proofs.YtnhcplmcddlgnaaGreat.Own.new w9 #[.slice p1 b.cls.length q1, .slice p2 b.vals.length q2, .slice p3 b.parts.length q3] 27
            have e10 : Ext w9 _ := Ext.new w9 (.cells #[.slice p1 b.cls.length q1, .slice p2 b.vals.length q2, .slice p3 b.parts.length q3] 27)
            generalize World.alloc _ _ = w10 at *
            generalize w9.heap.size = gd at *
            have z0 : w10.cell? ⟨gd, 0, none⟩ = some (.slice p1 b.cls.length q1) := ho.facts.1 0
            have z1 : w10.cell? ⟨gd, 1, none⟩ = some (.slice p2 b.vals.length q2) := ho.facts.1 1
            have z2 : w10.cell? ⟨gd, 2, none⟩ = some (.slice p3 b.parts.length q3) := ho.facts.1 2
            have zl := ho.lt
            replace hC := mono_ThingR _ _ _ _ e10.ple hC
            clear ho
            replace x0 := e10.cell1 x0
            replace x1 := e10.cell1 x1
            replace x2 := e10.cell1 x2
            replace xl := cell_lt x0
            replace hA := mono_ThingR _ _ _ _ e10.ple hA
            have hw10 := hw9.then e10
            clear e10 hw9
            by_cases her : er = 0
            · by_cases hes : es = 0
              · have hnn := Lib.hid (hny.out her hes)
                subst her hes
                have hcw := Lib.hid (with_c a b (ph w10) _ _ w10 (PLe.refl _) hA hC (by omega) (by omega))
                have hdb := withV_bulk a b
                generalize withV a b = d at *
                generalize withE a b = eh at *
                clear hny
                go_wp2_with fail
                refine hcw.out.mono ?_
                rintro e w11 ⟨cs, rfl, hD, hx11⟩
                replace hD := mono_ThingR _ _ _ _ (up_ple (PLe.refl _) hx11) hD
                obtain ⟨p4, q4, p5, q5, p6, q6, rfl, -⟩ := hD.form
                have hw11 := hw10.then hx11
                clear hx11 hw10 hcw hA hC x0 x1 x2 xl z0 z1 z2 zl
                go_upto_region 16 with (fail)
                have ho := Proofs.YtnhcplmcddlgnaaGreat.Own.new w11 #[.slice p4 d.cls.length q4, .slice p5 d.vals.length q5, .slice p6 d.parts.length q6] 27
                have e12 : Ext w11 _ := Ext.new w11 (.cells #[.slice p4 d.cls.length q4, .slice p5 d.vals.length q5, .slice p6 d.parts.length q6] 27)
                generalize World.alloc _ _ = w12 at *
                generalize w11.heap.size = ge at *
                have z0 : w12.cell? ⟨ge, 0, none⟩ = some (.slice p4 d.cls.length q4) := ho.facts.1 0
                have z1 : w12.cell? ⟨ge, 1, none⟩ = some (.slice p5 d.vals.length q5) := ho.facts.1 1
                have z2 : w12.cell? ⟨ge, 2, none⟩ = some (.slice p6 d.parts.length q6) := ho.facts.1 2
                have zl := ho.lt
                replace hD := mono_ThingR _ _ _ _ e12.ple hD
                clear ho
                have hw12 := hw11.then e12
                clear e12 hw11
                have hcn := Lib.hid (normal_c d (ph w12) _ w12 (PLe.refl _) hD (by omega))
                have hnb := normV_bulk d
                generalize normV d = n at *
                generalize normE d = nh at *
                go_wp2_with fail
                refine hcn.out.mono ?_
                rintro e w13 ⟨cs, rfl, hG, hx13⟩
                replace hG := mono_ThingR _ _ _ _ (up_ple (PLe.refl _) hx13) hG
                obtain ⟨p7, q7, p8, q8, p9, q9, rfl, -⟩ := hG.form
                replace z0 := hx13.cell1 z0
                replace z1 := hx13.cell1 z1
                replace z2 := hx13.cell1 z2
                replace zl := cell_lt z0
                replace hD := mono_ThingR _ _ _ _ hx13.ple hD
                have hw13 := hw12.then hx13
                clear hx13 hw12 hcn
                go_upto_region 17 with (fail)
                have ho := Proofs.YtnhcplmcddlgnaaGreat.Own.new w13 #[.slice p7 n.cls.length q7, .slice p8 n.vals.length q8, .slice p9 n.parts.length q9] 27
                have e14 : Ext w13 _ := Ext.new w13 (.cells #[.slice p7 n.cls.length q7, .slice p8 n.vals.length q8, .slice p9 n.parts.length q9] 27)
                generalize World.alloc _ _ = w14 at *
                generalize w13.heap.size = gf at *
                have y0 : w14.cell? ⟨gf, 0, none⟩ = some (.slice p7 n.cls.length q7) := ho.facts.1 0
                have y1 : w14.cell? ⟨gf, 1, none⟩ = some (.slice p8 n.vals.length q8) := ho.facts.1 1
                have y2 : w14.cell? ⟨gf, 2, none⟩ = some (.slice p9 n.parts.length q9) := ho.facts.1 2
                have yl := ho.lt
                replace hG := mono_ThingR _ _ _ _ e14.ple hG
                clear ho
                replace z0 := e14.cell1 z0
                replace z1 := e14.cell1 z1
                replace z2 := e14.cell1 z2
                replace zl := cell_lt z0
                replace hD := mono_ThingR _ _ _ _ e14.ple hD
                have hw14 := hw13.then e14
                clear e14 hw13
                by_cases heh : eh = 0
                · obtain ⟨hk1, hk2⟩ := hnn.out heh
                  subst heh hk1 hk2
                  have hs2 := Lib.hid (rsame_c n n _ _ w14 hD hG (by omega) (by omega))
                  rw [cmpT_self] at hs2
                  clear hnn hD hG
                  go_wp2_with fail
                  refine RetV_at hs2.out ?_
                  intro w15 hx15
                  have hw15 := hw14.then hx15
                  clear hx15 hw14 z0 z1 z2 zl y0 y1 y2 yl hs2
                  go_wp2_with fail
                  go_roundw
                  case rel => exact ⟨k + 1, by omega, by go_num, hw15⟩
                  case measure => simp [intOf]; omega
                · have heh1 : (eh == 0) = false := by simpa using heh
                  replace heh := Lib.hid heh
                  clear hnn hD hG z0 z1 z2 zl y0 y1 y2 yl
                  go_wp2_with fail
                  go_roundw
                  case rel => exact ⟨k + 1, by omega, by go_num, hw14⟩
                  case measure => simp [intOf]; omega
              · have hes1 : (es == 0) = false := by simpa using hes
                replace hes := Lib.hid hes
                subst her
                clear hny hA hC x0 x1 x2 xl z0 z1 z2 zl
                go_wp2_with fail
                go_roundw
                case rel => exact ⟨k + 1, by omega, by go_num, hw10⟩
                case measure => simp [intOf]; omega
            · have her1 : (er == 0) = false := by simpa using her
              replace her := Lib.hid her
              clear hny hA hC x0 x1 x2 xl z0 z1 z2 zl
              go_wp2_with fail
              go_roundw
              case rel => exact ⟨k + 1, by omega, by go_num, hw10⟩
              case measure => simp [intOf]; omega
        · obtain ⟨b1, d1, b2, d2, b3, d3, h0, h1, h2, hE, hbl⟩ := thingsAt2 (hR.mono mono_ThingR hw4.ple) i hlt
          rw [hxe.out] at h0 h1 h2 hE
          have hcn := Lib.hid (normal_c x (ph wr) _ wr (PLe.refl _) hE (by omega))
          rw [hae.out, hre.out] at hcn
          replace hA := mono_ThingR _ _ _ _ hwr.ple hA
          replace x0 := hwr.cell1 x0
          replace x1 := hwr.cell1 x1
          replace x2 := hwr.cell1 x2
          replace xl := cell_lt x0
          clear hwr hw3 hE
          go_upto_region 19 with (fail)
          replace hkl := Lib.hid hkl
          go_wp2_with fail
          refine hcn.out.mono ?_
          rintro e w5 ⟨cs, rfl, hC, hx5⟩
          replace hC := mono_ThingR _ _ _ _ (up_ple (PLe.refl _) hx5) hC
          obtain ⟨p1, q1, p2, q2, p3, q3, rfl, -⟩ := hC.form
          replace x0 := hx5.cell1 x0
          replace x1 := hx5.cell1 x1
          replace x2 := hx5.cell1 x2
          replace xl := cell_lt x0
          replace hA := mono_ThingR _ _ _ _ hx5.ple hA
          have hw5 := hw4.then hx5
          clear hx5 hw4 hcn h0 h1 h2 hbl
          go_upto_region 20 with (fail)
          have ho := Proofs.YtnhcplmcddlgnaaGreat.Own.new w5 #[.slice p1 a.cls.length q1, .slice p2 a.vals.length q2, .slice p3 a.parts.length q3] 27
          have e6 : Ext w5 _ := Ext.new w5 (.cells #[.slice p1 a.cls.length q1, .slice p2 a.vals.length q2, .slice p3 a.parts.length q3] 27)
          generalize World.alloc _ _ = w6 at *
          generalize w5.heap.size = gg at *
          have z0 : w6.cell? ⟨gg, 0, none⟩ = some (.slice p1 a.cls.length q1) := ho.facts.1 0
          have z1 : w6.cell? ⟨gg, 1, none⟩ = some (.slice p2 a.vals.length q2) := ho.facts.1 1
          have z2 : w6.cell? ⟨gg, 2, none⟩ = some (.slice p3 a.parts.length q3) := ho.facts.1 2
          have zl := ho.lt
          replace hC := mono_ThingR _ _ _ _ e6.ple hC
          clear ho
          replace x0 := e6.cell1 x0
          replace x1 := e6.cell1 x1
          replace x2 := e6.cell1 x2
          replace xl := cell_lt x0
          replace hA := mono_ThingR _ _ _ _ e6.ple hA
          have hw6 := hw5.then e6
          clear e6 hw5
          have hs1 := Lib.hid (rsame_c a a _ _ w6 hC hA (by omega) (by omega))
          rw [cmpT_self] at hs1
          go_wp2_with fail
          refine RetV_at hs1.out ?_
          intro w7 hx7
          have hw7 := hw6.then hx7
          clear hx7 hw6 hs1 x0 x1 x2 xl z0 z1 z2 zl hA hC
          go_wp2_with fail
          go_roundw
          case rel => exact ⟨i + 1, by omega, by go_num, hw7⟩
          case measure => simp [intOf]; omega
    · clear hR
      go_wp2_with fail
      refine RetV_at (lives_c _) ?_
      intro w3 hb3
      go_wp2_with fail
      go_ret
      exact ⟨rfl, (by with_reducible repeat (first | assumption | exact Ext.rfl' _ | exact Ext.new _ _ | refine Ext.alloc' ?_ _ | refine Ext.drew' ?_ | refine Ext.drewN' ?_ _ | (refine Ext.set' ?_ ?_ _; rotate_left; focus (first | omega | (simp; done) | (simp; omega))) | (refine Ext.then (b := ?_) ?_ ?_; rotate_left; rotate_left; assumption)))⟩
end Go.Proofs.YtnhcplmcddlgnaaGreat
