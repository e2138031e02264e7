/- generators: Spoilt of formula.; FormulaValid: the generated formulas, and the law.; the law FormulaValid: the walk.; From a walk to a row's post.; From a walk to a row's post, where the arguments may lie in memory. -/
import Derived.Deep.CutBlock
import Derived.Test.YtbpilielamjnoaaGreatProg
import Derived.WalkKit
import Derived.WalkSpells
import Derived.WalkLawsBesides
import Derived.BigQuiet
import Derived.Deep.QuietTactic
import Derived.Lib.Hide
import Derived.Deep.DeepFit
import Derived.Handy
import Derived.Deep.LoopGhost
import Derived.Deep.DeepCutAuto
import Derived.Deep.Light
import Derived.LoopIn
import Derived.LoopNIn
import Derived.OwnWalkIn
import Derived.RangeFuncBound
import Derived.RangeFuncCalls
import Derived.RangeFuncFrom
import Derived.RangeFuncLeaves
import Derived.RangeFuncNested
import Derived.Shelf.Abstract
import Derived.Shelf.RegionOpen
import Derived.OrdersHeld
import Derived.OrdersIn
import Derived.TacticsIn
import Derived.Laws.Rows
import Derived.Laws.CopyRow
import Derived.Lib.SliceRun
import Derived.Maps.OwnSet
import Derived.TacticsInMore
import Derived.WalkMore
import Derived.WideLaws
import Derived.Deep.MidRow
import Derived.Laws.MakeOwn
import Derived.Laws.EntriesVeiled
import Derived.Sort.Grow
import Derived.Shelf.SlSortCmp.WholeK
import Derived.Shelf.SlSortCmp.NoneTotal
import Derived.OwnWalk
import Derived.Shelf.SlGeneric
import Derived.Ground.SlsfProg
import Derived.Test.YtbpilielamjnoaaGreatRows
import Derived.ProofKit
import Derived.OpenShut
import Derived.Carry
import Derived.SizedLaws
import Derived.Test.YtbpilielamjnoaaGreatFQ00
import Derived.Test.YtbpilielamjnoaaGreatFQ01
import Derived.Test.YtbpilielamjnoaaGreatFQ02
import Derived.Test.YtbpilielamjnoaaGreatFQ03
import Derived.Test.YtbpilielamjnoaaGreatFQ04
import Derived.Test.YtbpilielamjnoaaGreatFQ05
import Derived.Test.YtbpilielamjnoaaGreatFQ06
import Derived.Test.YtbpilielamjnoaaGreatFQ07
import Derived.Test.YtbpilielamjnoaaGreatFQ08
import Derived.Test.YtbpilielamjnoaaGreatFQ09
import Derived.Test.YtbpilielamjnoaaGreatFQ10
import Derived.Test.YtbpilielamjnoaaGreatFQ11
import Derived.Test.YtbpilielamjnoaaGreatFQ12
import Derived.Test.YtbpilielamjnoaaGreatFQ13
import Derived.Test.YtbpilielamjnoaaGreatFQ14
import Derived.Test.YtbpilielamjnoaaGreatFQ15
import Derived.Test.YtbpilielamjnoaaGreatFQ16
import Derived.Test.YtbpilielamjnoaaGreatFQ17
import Derived.Test.YtbpilielamjnoaaGreatFQ18
import Derived.Test.YtbpilielamjnoaaGreatFV00
namespace Go.Proofs.YtbpilielamjnoaaGreat
open Go.RowKit Go.Shelf
set_option linter.unusedSimpArgs false
set_option linter.unusedVariables false
def SpQ (w : World) (H0 : PH) (m : Nat) (e : Ending) (w' : World) : Prop :=
  ∃ g a3 c3 a4 c4, e = .returned (fmV g a3 c3 a4 c4) ∧ FmR (up H0 w w') (fmC g a3 c3 a4 c4) g ∧ g.bulk ≤ m ∧ Ext w w'
def SpS (w : World) (H0 : PH) (m : Nat) (wx : World) : Prop :=
  ∃ (op n : Int) (iv kv : Value) (il : List Itv) (kl : List Fm) (H : PH), Mem w H0 [box w.heap.size #[.int .i64 op, .int .i64 n, iv, kv] 29, box (w.heap.size + 1) zeroFa 29] H wx ∧
    I64 op ∧ I64 n ∧ ItvsR H iv il ∧ FmsR H kv kl ∧ 1 + il.length + sumN Fm.bulk kl ≤ m
theorem tdiv_I64 {x k : Int} (hx : I64 x) (hk : k ∈ [(2 : Int), 3, 4, 6, 9]) : I64 (x.tdiv k) := by
  unfold I64 at *
  simp only [List.mem_cons, List.not_mem_nil, or_false] at hk
  by_cases h : 0 ≤ x
  · rw [Int.tdiv_eq_ediv_of_nonneg h]
    rcases hk with rfl | rfl | rfl | rfl | rfl <;> omega
  · have e : x.tdiv k = -((-x).tdiv k) := by rw [Int.neg_tdiv, Int.neg_neg]
    rw [e, Int.tdiv_eq_ediv_of_nonneg (by omega)]
    rcases hk with rfl | rfl | rfl | rfl | rfl <;> omega
theorem wrap_I64 {x : Int} (hx : I64 x) : IntKind.i64.wrap x = x := wrap_id hx.1 hx.2
theorem up_ext {H : PH} {W w w' : World} (e : Ext w w') : PLe (up H W w) (up H W w') := by
  intro k o hk
  unfold up at *
  split at hk
  · rename_i h; rw [if_pos h]; exact hk
  · rename_i h; rw [if_neg h]
    have hlt : k < w.heap.size := (Array.getElem?_eq_some_iff.1 hk).1
    rw [← hk]; exact e.block k hlt
abbrev fmA4 (op n : Int) (iv kv : Value) : Array Value := #[.int .i64 op, .int .i64 n, iv, kv]
theorem SpS.of {w wx : World} {H0 H : PH} {m : Nat} {op n : Int} {iv kv : Value} {il : List Itv} {kl : List Fm}
    (hM : Mem w H0 [box w.heap.size (fmA4 op n iv kv) 29, box (w.heap.size + 1) #[.int .i64 0, .int .i64 0, .slice none 0 0, .slice none 0 0] 29, own mono_FmR 4 29 kv kl, own mono_ItvR 8 96 iv il] H wx)
    (ho : I64 op) (hn : I64 n) (hb : 1 + il.length + sumN Fm.bulk kl ≤ m) : SpS w H0 m wx := by
  obtain ⟨H1, _, hN1, hK⟩ := hM.freezeS 2 rfl
  obtain ⟨H2, hl2, hN2, hI⟩ := hN1.freezeS 3 rfl
  exact ⟨op, n, iv, kv, il, kl, H2, by simpa using hN2.pick [0, 1] (by decide), ho, hn, hI, hK.mono mono_FmR hl2, hb⟩
theorem sumN_snoc (ks : List Fm) (f : Fm) : sumN Fm.bulk (ks ++ [f]) = sumN Fm.bulk ks + f.bulk := by
  induction ks with
  | nil => simp [sumN]
  | cons x xs ih => simp only [List.cons_append, sumN, ih]; omega
theorem sumN_rep (m : Nat) : sumN Fm.bulk (List.replicate m noF) = m := by
  induction m with
  | zero => rfl
  | succ m ih => rw [List.replicate_succ, sumN, ih]; simp [noF, Fm.bulk, fbulks]; omega
theorem sumN_put : ∀ (ks : List Fm) (k : Nat) (g : Fm) (h : k < ks.length), sumN Fm.bulk (ks.set k g) + ks[k].bulk = sumN Fm.bulk ks + g.bulk
  | [], _, _, h => by simp at h
  | x :: xs, 0, g, _ => by simp [sumN]; omega
  | x :: xs, k + 1, g, h => by
    have := sumN_put xs k g (by simpa using h)
    simp only [List.set_cons_succ, sumN, List.getElem_cons_succ]; omega
set_option maxRecDepth 100000 in
set_option maxHeartbeats 8000000 in
theorem spoilt07_c {H0 : PH} (f : Fm) : ∀ (cs : List Value) (at' how by' : Int) (w : World), PLe H0 (ph w) → FmR H0 cs f → I64 at' → I64 how → I64 by' → f.bulk ≤ 100000 →
    Calls Tryz.prog 41 #[.agg cs.toArray, .int .i64 at', .int .i64 how, .int .i64 by'] w (SpQ w H0 (2 * f.bulk + 100)) := by
  induction f using Fm.ind with
  | h f ih =>
  intro cs at' how by' w hl hr ia ihw ib hb
  obtain ⟨a3, c3, a4, c4, rfl, i1, i2, hil, hkl, hi, hk⟩ := hr.form
  have hbe : 1 + f.inn.length + sumN Fm.bulk f.kids ≤ f.bulk := Nat.le_of_eq f.bulk_eq.symm
  have hkb := f.kids_le
  unfold fmC at *
  replace ih := Lib.hid ih
  have hM0 := ((((Mem.start w H0 hl).new' #[.int .i64 f.op, .int .i64 f.n, .slice a3 f.inn.length c3, .slice a4 f.kids.length c4] 29 (n := w.heap.size) (by simp)).new' zeroFa 29 (n := w.heap.size + 1) (by simp)).new' #[] 29 (n := w.heap.size + 1 + 1) (by simp)).asOwn 2 rfl mono_FmR (sz := 4) (xs := ([] : List Fm)) (n := 0) (by simp) (by simp [maxLen]) rfl rfl
  simp only [List.cons_append, List.nil_append, List.set_cons_zero, List.set_cons_succ, List.length_nil] at hM0
  have hS0 := Src.ofRep hk hM0.ple
  clear hr
  go_enter Tryz.func41, Tryz.ntmps41
  go_wp2_with (first | (at_builtin; refine wpList_append_M 2 rfl _ _ 23 rfl Tryz.underlying23 infoFm rfl rfl rfl hM0 rfl hS0 one_FmR (by simp; omega) (by simp; omega) ?f1))
  case f1 =>
  intro v1 w1 hM1
  try simp only [List.set_cons_zero, List.set_cons_succ, List.nil_append] at hM1
  obtain ⟨ka, kc, rfl, -⟩ := hM1.form 2 rfl
  obtain ⟨uc, uf⟩ := (hM1.box 0 rfl).facts
  have uf3 := uf 3
  have uc3 : _ = some (Value.slice a4 f.kids.length c4) := uc 3
  have ul := (hM1.box 0 rfl).lt
  have hM2 := hM1.set 0 rfl 3 (.slice ka f.kids.length kc)
  simp only [List.set_cons_zero, List.setIfInBounds_toArray, List.set_cons_succ] at hM2
  clear uc uf hM0 hM1 hS0
  go_upto_region 2 with (fail)
  generalize World.setCell _ _ _ = w2 at *
  clear uf3 uc3 ul
  obtain ⟨uc, uf⟩ := (hM2.box 0 rfl).facts
  have uf2 := uf 2
  have uc2 : _ = some (Value.slice a3 f.inn.length c3) := uc 2
  have ul := (hM2.box 0 rfl).lt
  have hM3 := (hM2.new' #[] 96 (n := w2.heap.size) rfl).asOwn 3 rfl mono_ItvR (sz := 8) (xs := ([] : List Itv)) (n := 0) (by simp) (by simp [maxLen]) rfl rfl
  simp only [List.cons_append, List.nil_append, List.set_cons_zero, List.set_cons_succ, List.length_nil] at hM3
  have hS3 := Src.ofRep hi hM3.ple
  clear uc uf
  go_wp2_with (first | (at_builtin; refine wpList_append_M 3 rfl _ _ 27 rfl Tryz.underlying27 infoItv rfl rfl rfl hM3 rfl hS3 one_ItvR (by simp; omega) (by simp; omega) ?f2))
  case f2 =>
  intro v3 w3 hM4
  try simp only [List.set_cons_zero, List.set_cons_succ, List.nil_append] at hM4
  obtain ⟨ja, jc, rfl, -⟩ := hM4.form 3 rfl
  clear uf2 uc2 ul
  obtain ⟨uc, uf⟩ := (hM4.box 0 rfl).facts
  have uf2 := uf 2
  have uc2 : _ = some (Value.slice a3 f.inn.length c3) := uc 2
  have ul := (hM4.box 0 rfl).lt
  have hM5 := hM4.set 0 rfl 2 (.slice ja f.inn.length jc)
  simp only [List.set_cons_zero, List.setIfInBounds_toArray, List.set_cons_succ] at hM5
  clear uc uf hM2 hM3 hM4 hS3
  go_upto_region 3 with (fail)
  generalize World.setCell _ _ _ = w4 at *
  clear uf2 uc2 ul
  obtain ⟨uc, uf⟩ := (hM5.box 0 rfl).facts
  have uc3 : _ = some (Value.slice ka f.kids.length kc) := uc 3
  have ul := (hM5.box 0 rfl).lt
  go_cut [31] (fun v wx => ∃ b : Bool, v = .bool b ∧ Hid (b = true → 0 < f.kids.length) ∧ Ext w4 wx)
  case first =>
    by_cases hk0 : 0 < f.kids.length
    · have b0 : decide (0 < f.kids.length) = true := by simpa using hk0
      go_wp2_with fail
      refine RetV_at (around_c at' 3 _ ia (by omega) (by omega)) ?_
      intro w5 hx5
      go_wp2_with fail
      go_meet
      case rel => exact ⟨_, rfl, Lib.hid fun _ => hk0, hx5⟩
    · have b0 : decide (0 < f.kids.length) = false := by simpa using hk0
      go_wp2_with fail
      go_meet
      case rel => exact ⟨_, rfl, Lib.hid (by simp), Ext.rfl' _⟩
  case rest =>
  obtain ⟨b, rfl, hbk, hx5⟩ := hcut
  replace hM5 := hM5.ext hx5
  clear uc uf uc3 ul hx5
  cases b with
  | true =>
    obtain hkp := hbk.out rfl
    have i3' : I64 (at'.tdiv 3) := tdiv_I64 ia (by simp)
    have i9' : I64 (at'.tdiv 9) := tdiv_I64 ia (by simp)
    have r3 := wrap_I64 i3'
    have r9 := wrap_I64 i9'
    clear ia hbk
    obtain ⟨uc, uf⟩ := (hM5.box 0 rfl).facts
    have uc3 : _ = some (Value.slice ka f.kids.length kc) := uc 3
    have ul := (hM5.box 0 rfl).lt
    clear uc uf
    go_wp2_with fail
    refine RetV_at (around_c (at'.tdiv 3) f.kids.length _ i3' (by omega) (by omega)) ?_
    intro w6 hx6
    obtain ⟨q0, q1⟩ := aroundV_range i3' (show (0 : Int) < f.kids.length by omega)
    obtain ⟨k, hk6⟩ : ∃ k : Nat, aroundV (at'.tdiv 3) f.kids.length = k := ⟨(aroundV (at'.tdiv 3) f.kids.length).toNat, by omega⟩
    rw [hk6] at q1 ⊢
    have hkn : k < f.kids.length := by omega
    clear hk6 q0 q1 uc3 ul
    replace hM5 := hM5.ext hx6
    clear hx6
    obtain ⟨uc, uf⟩ := (hM5.box 0 rfl).facts
    have uc3 : _ = some (Value.slice ka f.kids.length kc) := uc 3
    have ul := (hM5.box 0 rfl).lt
    obtain ⟨gb, gcap, gcs, e1, gl, gc, gR, gbl⟩ := hM5.get 2 rfl k hkn
    cases e1
    have gR0 := Lib.hid gR
    obtain ⟨x3, y3, x4, y4, rfl, -⟩ := gR.form
    have g0 : w6.cell? ⟨gb, k * 4, none⟩ = some (Value.int .i64 f.kids[k].op) := gc 0 (by omega)
    have g1 : _ = some (Value.int .i64 f.kids[k].n) := gc 1 (by omega)
    have g2 : _ = some (Value.slice x3 f.kids[k].inn.length y3) := gc 2 (by omega)
    have g3 : _ = some (Value.slice x4 f.kids[k].kids.length y4) := gc 3 (by omega)
    have hih := Lib.hid (ih.out f.kids[k] (List.getElem_mem hkn))
    have hkbk := Fm.kid_le (List.getElem_mem hkn)
    have hput := fun g => sumN_put f.kids k g hkn
    generalize hX : f.kids[k] = X at *
    clear hX gR gc uc uf gl
    have hlW := hM5.le.trans hM5.ple
    unfold fmC at gR0
    go_upto_region 5 with (fail)
    (refine wp_region_I 13 (by kernel_rfl) (by kernel_rfl) ?_; simp only [List.toList_toArray, List.take_succ_cons, List.take_zero, List.drop_succ_cons, List.drop_zero])
    iterate 12 (refine walkI_is (u := ?_) rfl (by simp) rfl ?_ ?_; rotate_left; (focus (intro A w' hS hA K hK; (simp only [List.map_cons, List.map_nil, knows, Is, Op.operands, Call.operands, List.lookup_cons, List.lookup_nil, Nat.reduceBEq, Bool.false_eq_true, if_false, if_true, Act.eval, Array.getD_eq_getD_getElem?, List.getElem?_toArray, List.getElem?_cons_succ, List.getElem?_cons_zero, Option.getD_some, and_true, true_and, List.append_toArray, List.nil_append, List.cons_append, List.toList_toArray, Array.toList_append, Option.toArray, List.append_nil] at hA); (obtain ⟨hSc, hSf, hSs⟩ := hS.cells; go_simp; exact hK _ (by first | exact Ext.rfl' _ | exact Ext.new _ _ | assumption)))); (try simp only [List.nil_append, List.cons_append]))
    (refine walkI_step ((fun v wx => ∃ g b3 d3 b4 d4, v = fmV g b3 d3 b4 d4 ∧ FmR (up H0 w6 wx) (fmC g b3 d3 b4 d4) g ∧ g.bulk ≤ 2 * X.bulk + 100)) rfl (by simp) rfl ((fun v w w' _ ⟨g, b3, d3, b4, d4, e, hr, hb⟩ e' => ⟨g, b3, d3, b4, d4, e, mono_FmR _ _ _ _ (up_ext e') hr, hb⟩)) ?_ ?_; (focus (intro A w' hS hA K hK; (simp only [List.map_cons, List.map_nil, knows, Is, Op.operands, Call.operands, List.lookup_cons, List.lookup_nil, Nat.reduceBEq, Bool.false_eq_true, if_false, if_true, Act.eval, Array.getD_eq_getD_getElem?, List.getElem?_toArray, List.getElem?_cons_succ, List.getElem?_cons_zero, Option.getD_some, and_true, true_and, List.append_toArray, List.nil_append, List.cons_append, List.toList_toArray, Array.toList_append, Option.toArray, List.append_nil] at hA); (go_simp; refine (hih.out _ _ _ _ _ (hlW.trans hS.ple) gR0.out i9' ihw ib (by omega)).mono ?_; rintro e w7 ⟨g, b3, d3, b4, d4, rfl, hF, hgb, hx7⟩; exact hK _ _ hx7 ⟨g, b3, d3, b4, d4, rfl, mono_FmR _ _ _ _ (up_sub hlW hS) hF, hgb⟩))); (try simp only [List.nil_append, List.cons_append]))
    (refine walkI_nil ?_; simp only [List.nil_append, List.cons_append, fins, Is, forall_eq, Act.put, List.setIfInBounds_toArray, List.set_cons_zero, List.set_cons_succ])
    intro w7 hx7 vv ⟨g, b3, d3, b4, d4, e, hF, hgb⟩
    subst e
    replace hM5 := hM5.up hx7
    clear g0 g1 g2 g3 hih gR0 uc3 ul
    go_upto_region 6 with (refine wpList_store_M (xs := f.kids) (n := f.kids.length) (cap := kc) (g := gb) rfl 29 _ _ rfl k rfl (cs := fmC g b3 d3 b4 d4) rfl (x' := g) hM5 2 rfl hkn hF rfl (fun u hu => one_FmR _ _ hF u hu) (by kernel_rfl) ?c5)
    case c5 =>
    intro w8 hM8
    try simp only [List.set_cons_zero, List.set_cons_succ] at hM8
    have hcut : SpS w H0 (2 * f.bulk + 100) w8 := SpS.of hM8 i1 i2 (by have := hput g; omega)
    clear hM5 hx7 hput
    obtain ⟨op, n, iv, kv, il, kl, H, hM, ho, hn, hI, hK, hbd⟩ := hcut
    obtain ⟨ia, ic, rfl, -, hI⟩ := hI.form
    obtain ⟨ka, kc, rfl, -, hK⟩ := hK.form
    obtain ⟨uc, uf⟩ := (hM.box 0 rfl).facts
    have ul := (hM.box 0 rfl).lt
    have q0 : _ = some (Value.int .i64 op) := uc 0
    have q1 : _ = some (Value.int .i64 n) := uc 1
    have q2 : _ = some (Value.slice ia il.length ic) := uc 2
    have q3 : _ = some (Value.slice ka kl.length kc) := uc 3
    obtain ⟨vc, vf⟩ := (hM.box 1 rfl).facts
    have vl := (hM.box 1 rfl).lt
    have p0 : _ = some (Value.int .i64 0) := vc 0
    have p1 : _ = some (Value.int .i64 0) := vc 1
    have p2 : _ = some (Value.slice none 0 0) := vc 2
    have p3 : _ = some (Value.slice none 0 0) := vc 3
    have hM9 := hM.set4 1 rfl (.int .i64 op) (.int .i64 n) (.slice ia il.length ic) (.slice ka kl.length kc)
    simp only [List.set_cons_zero, List.set_cons_succ] at hM9
    clear uc vc hM
    go_wp2_with fail
    generalize ((((World.setCell _ _ _).setCell _ _).setCell _ _).setCell _ _) = w9 at *
    obtain ⟨q, -⟩ := (hM9.box 1 rfl).facts
    have q0 : _ = some (Value.int .i64 op) := q 0
    have q1 : _ = some (Value.int .i64 n) := q 1
    have q2 : _ = some (Value.slice ia il.length ic) := q 2
    have q3 : _ = some (Value.slice ka kl.length kc) := q 3
    refine bodyPost_ret (v := .agg #[.int .i64 op, .int .i64 n, .slice ia il.length ic, .slice ka kl.length kc]) (by simp [results, Tryz.results41, go_sem, q0, q1, q2, q3]) rfl ?_
    exact ⟨.mk op n il kl, ia, ic, ka, kc, rfl, mono_FmR _ _ _ _ hM9.ub (FmR.of ho hn hI hK), by rw [Fm.bulk_eq]; exact hbd, hM9.ex⟩
  | false =>
    clear hbk
    go_wp2_with fail
    refine RetV_at (around_c how 8 _ ihw (by omega) (by omega)) ?_
    intro w6 hx6
    obtain ⟨q0, q1⟩ := aroundV_range ihw (show (0 : Int) < 8 by omega)
    replace hM5 := hM5.ext hx6
    generalize aroundV how 8 = q at *
    clear hx6 ihw ih ia
    go_upto_block 0 with (fail)
    obtain ⟨uc, uf⟩ := (hM5.box 0 rfl).facts
    have uf0 := uf 0
    have uf1 := uf 1
    have uf2 := uf 2
    have uf3 := uf 3
    have uc0 : _ = some (Value.int .i64 f.op) := uc 0
    have uc1 : _ = some (Value.int .i64 f.n) := uc 1
    have uc2 : _ = some (Value.slice ja f.inn.length jc) := uc 2
    have uc3 : _ = some (Value.slice ka f.kids.length kc) := uc 3
    have ul := (hM5.box 0 rfl).lt
    clear uc uf
    by_cases h6 : q = 6
    · subst h6
      have hN := (hM5.new' #[.int .i64 4, .int .i64 0, .slice none 0 0, .slice none 0 0] 29 (n := w6.heap.size) rfl).nil mono_FmR 4 29
      simp only [List.cons_append, List.nil_append] at hN
      obtain ⟨j0, j1⟩ := aroundV_range ib (show (0 : Int) < 10 by omega)
      have hard := Lib.hid (fun w => around_c by' 10 w ib (by omega) (by omega))
      generalize aroundV by' 10 = rr at *
      obtain ⟨r, rfl⟩ : ∃ r : Nat, rr = r := ⟨rr.toNat, by omega⟩
      have hw85 : IntKind.i64.wrap (85 + (r : Int)) = 85 + (r : Int) := wrap_id (by omega) (by omega)
      clear hM5 uf0 uf1 uf2 uf3 uc0 uc1 uc2 uc3 ul q0 q1
      go_wp2_with fail
      go_loopw [11] (fun vi wr => ∃ (m : Nat) (gv : Value) (gs : List Fm), m ≤ 85 + r ∧ vi = .int .i64 m ∧ Hid (gs = List.replicate m noF) ∧ gs.length ≤ 1000 ∧ Mem w H0 [box w.heap.size #[.int .i64 f.op, .int .i64 f.n, .slice ja f.inn.length jc, .slice ka f.kids.length kc] 29, box (w.heap.size + 1) #[.int .i64 0, .int .i64 0, .slice none 0 0, .slice none 0 0] 29, own mono_FmR 4 29 (.slice ka f.kids.length kc) f.kids, own mono_ItvR 8 96 (.slice ja f.inn.length jc) f.inn, box w6.heap.size #[.int .i64 4, .int .i64 0, .slice none 0 0, gv] 29, own mono_FmR 4 29 gv gs] H0 wr) (fun vi _ => 85 + r - (intOf vi).toNat)
      case atStart => exact ⟨0, _, [], by omega, rfl, Lib.hid rfl, by simp, hN⟩
      case round =>
        clear hN
        obtain ⟨m, gv, gs, hm, rfl, hgs, hgl, hN⟩ := hrel
        obtain ⟨ga, gc, rfl, -⟩ := hN.form 5 rfl
        by_cases hlt : m < 85 + r
        · have b0 : decide ((m : Int) < 85 + (r : Int)) = true := by simp; omega
          go_wp2_with fail
          refine RetV_at (hard.out _) ?_
          intro w7 hx7
          replace hN := hN.ext hx7
          clear hx7
          obtain ⟨uc, uf⟩ := (hN.box 4 rfl).facts
          have uc3 : _ = some (Value.slice ga gs.length gc) := uc 3
          have ul := (hN.box 4 rfl).lt
          clear uc uf
          have hN2 := hN.ext (Ext.new w7 (.cells #[.int .i64 0, .int .i64 0, .slice none 0 0, .slice none 0 0] 29))
          have hS := Src.lit1 (H := H0) (E := FmR) (sz := 4) (w := w7.alloc (.cells #[.int .i64 0, .int .i64 0, .slice none 0 0, .slice none 0 0] 29)) (b := w7.heap.size) (x := noF) (cs := fmC noF none 0 none 0) (noF_R _) rfl (fun j => by rw [(Proofs.YtbpilielamjnoaaGreat.Own.new _ _ _).facts.1]; simp [fmC, noF, Fm.op, Fm.n, Fm.inn, Fm.kids])
          go_wp2_with (first | (at_builtin; refine wpList_append_M 5 rfl _ _ 23 rfl Tryz.underlying23 infoFm rfl rfl rfl hN2 rfl hS one_FmR (by simp; omega) (by simp; omega) ?f5))
          case f5 =>
          intro v8 w8 hN3
          try simp only [List.set_cons_zero, List.set_cons_succ] at hN3
          clear hN hN2 hS uc3 ul
          have hgs2 : Hid (gs ++ [noF] = List.replicate (m + 1) noF) := Lib.hid (by rw [hgs.out, List.replicate_succ'])
          have hgl2 : (gs ++ [noF]).length ≤ 1000 := by rw [hgs2.out, List.length_replicate]; omega
          generalize gs ++ [noF] = gs' at *
          obtain ⟨na, nc, rfl, -⟩ := hN3.form 5 rfl
          obtain ⟨uc, uf⟩ := (hN3.box 4 rfl).facts
          have uf3 := uf 3
          have uc3 : _ = some (Value.slice ga gs.length gc) := uc 3
          have ul := (hN3.box 4 rfl).lt
          clear uc uf
          have hN4 := hN3.set 4 rfl 3 (.slice na gs'.length nc)
          simp only [List.set_cons_zero, List.setIfInBounds_toArray, List.set_cons_succ] at hN4
          clear hN3
          go_wp2_with fail
          go_roundw
          case rel => exact ⟨m + 1, _, gs', by omega, by go_num, hgs2, hgl2, hN4⟩
          case measure => simp [intOf]; omega
        · have b0 : decide ((m : Int) < 85 + (r : Int)) = false := by simp; omega
          go_wp2_with fail
          refine RetV_at (hard.out _) ?_
          intro w7 hx7
          replace hN := hN.ext hx7
          clear hx7
          have hgb : sumN Fm.bulk gs = m := by rw [hgs.out]; exact sumN_rep m
          clear hgs
          obtain ⟨H1, hl1, hN1, hK⟩ := hN.freezeS 2 rfl
          obtain ⟨H2, hl2, hN2, hI⟩ := hN1.freezeS 3 rfl
          obtain ⟨H3, hl3, hN3, hG⟩ := hN2.freezeS 5 rfl
          replace hN3 := hN3.pick [0, 1, 4] (by decide)
          simp only [List.set_cons_succ, List.set_cons_zero, List.map_cons, List.map_nil, List.getElem?_cons_succ, List.getElem?_cons_zero, Option.getD_some] at hN3
          have hfR : FmR H3 (fmC (.mk f.op f.n f.inn f.kids) ja jc ka kc) (.mk f.op f.n f.inn f.kids) := FmR.of i1 i2 (hI.mono mono_ItvR hl3) (hK.mono mono_FmR (hl2.trans hl3))
          have hgR : FmR H3 (fmC (.mk 4 0 [] gs) none 0 ga gc) (.mk 4 0 [] gs) := FmR.of (by simp [Fm.op, I64]) (by simp [Fm.n, I64]) (SliceRep.nil _ _ _) hG
          obtain ⟨uc, uf⟩ := (hN3.box 0 rfl).facts
          have uc0 : _ = some (Value.int .i64 f.op) := uc 0
          have uc1 : _ = some (Value.int .i64 f.n) := uc 1
          have uc2 : _ = some (Value.slice ja f.inn.length jc) := uc 2
          have uc3 : _ = some (Value.slice ka f.kids.length kc) := uc 3
          have ul := (hN3.box 0 rfl).lt
          obtain ⟨tc, tf⟩ := (hN3.box 2 rfl).facts
          have tc0 : _ = some (Value.int .i64 4) := tc 0
          have tc1 : _ = some (Value.int .i64 0) := tc 1
          have tc2 : _ = some (Value.slice none 0 0) := tc 2
          have tc3 : _ = some (Value.slice ga gs.length gc) := tc 3
          have tl := (hN3.box 2 rfl).lt
          obtain ⟨vc, vf⟩ := (hN3.box 1 rfl).facts
          have vl := (hN3.box 1 rfl).lt
          have p0 : _ = some (Value.int .i64 0) := vc 0
          have p1 : _ = some (Value.int .i64 0) := vc 1
          have p2 : _ = some (Value.slice none 0 0) := vc 2
          have p3 : _ = some (Value.slice none 0 0) := vc 3
          have hN5 := ((hN3.set4 1 rfl (.int .i64 5) (.int .i64 0) (.slice none 0 0) (.slice (some ⟨w7.heap.size, 0, none⟩) 2 2)).new' #[.int .i64 f.op, .int .i64 f.n, .slice ja f.inn.length jc, .slice ka f.kids.length kc, .int .i64 4, .int .i64 0, .slice none 0 0, .slice ga gs.length gc] 29 (n := w7.heap.size) (by simp)).asOwn 3 rfl mono_FmR (sz := 4) (xs := [.mk f.op f.n f.inn f.kids, .mk 4 0 [] gs]) (n := 2) (by simp) (by simp [maxLen]) rfl ⟨_, _, rfl, rfl, hfR, _, [], rfl, rfl, hgR, rfl⟩
          simp only [List.set_cons_zero, List.set_cons_succ, List.cons_append, List.nil_append] at hN5
          obtain ⟨H6, hl6, hN6, hR6⟩ := hN5.freezeS 3 rfl
          simp only [List.set_cons_zero, List.set_cons_succ] at hN6
          clear uc uf tc tf vc hN hN1 hN2 hN3 hN5 hG hI hK hfR hgR
          go_wp2_with fail
          generalize World.alloc _ _ = w9 at *
          obtain ⟨q, -⟩ := (hN6.box 1 rfl).facts
          have q0 : _ = some (Value.int .i64 5) := q 0
          have q1 : _ = some (Value.int .i64 0) := q 1
          have q2 : _ = some (Value.slice none 0 0) := q 2
          have q3 : _ = some (Value.slice (some ⟨w7.heap.size, 0, none⟩) 2 2) := q 3
          refine bodyPost_ret (v := .agg #[.int .i64 5, .int .i64 0, .slice none 0 0, .slice (some ⟨w7.heap.size, 0, none⟩) 2 2]) (by simp [results, Tryz.results41, go_sem, q0, q1, q2, q3]) rfl ?_
          refine ⟨.mk 5 0 [] [.mk f.op f.n f.inn f.kids, .mk 4 0 [] gs], none, 0, some ⟨w7.heap.size, 0, none⟩, 2, rfl, mono_FmR _ _ _ _ hN6.ub (FmR.of (by simp [Fm.op, I64]) (by simp [Fm.n, I64]) (SliceRep.nil _ _ _) hR6), ?_, hN6.ex⟩
          have e1 : (Fm.mk f.op f.n f.inn f.kids).bulk = f.bulk := by rw [← Fm.eta]
          have e2 : (Fm.mk 4 0 [] gs).bulk = 1 + m := by rw [Fm.bulk_eq]; simp [Fm.inn, Fm.kids, hgb]
          rw [Fm.bulk_eq]
          show 1 + 0 + ((Fm.mk f.op f.n f.inn f.kids).bulk + ((Fm.mk 4 0 [] gs).bulk + 0)) ≤ _
          rw [e1, e2]
          omega
    go_cut [] (fun wx => SpS w H0 (2 * f.bulk + 100) wx)
    case first =>
      obtain rfl | rfl | rfl | rfl | rfl | rfl | rfl : q = 0 ∨ q = 1 ∨ q = 2 ∨ q = 3 ∨ q = 4 ∨ q = 5 ∨ q = 7 := by omega
      · have hli := Own.new w6 #[.int .i64 by', .int .i64 (-1), .int .i64 7, .int .i64 0, .int .i64 4, .int .i64 6] 3
        have hM6 := hM5.ext (Ext.new w6 (.cells #[.int .i64 by', .int .i64 (-1), .int .i64 7, .int .i64 0, .int .i64 4, .int .i64 6] 3))
        go_wp2_with fail
        refine RetV_at (around_c by' 6 _ ib (by omega) (by omega)) ?_
        intro w7 hx7
        obtain ⟨j0, j1⟩ := aroundV_range ib (show (0 : Int) < 6 by omega)
        obtain ⟨j, hj⟩ : ∃ j : Nat, aroundV by' 6 = j := ⟨(aroundV by' 6).toNat, by omega⟩
        rw [hj] at j1 ⊢
        clear hj j0
        have hM7 := hM6.ext hx7
        replace hli := hli.keep hx7
        clear uf0 uf1 uf2 uf3 uc0 uc1 uc2 uc3 ul
        obtain ⟨uc, uf⟩ := (hM7.box 0 rfl).facts
        have uf0 := uf 0
        have uf1 := uf 1
        have uc0 : _ = some (Value.int .i64 f.op) := uc 0
        have uc1 : _ = some (Value.int .i64 f.n) := uc 1
        have ul := (hM7.box 0 rfl).lt
        have hll := hli.lt
        clear uc uf
        have hjm : j < 6 := by omega
        obtain ⟨nv, hnv, hcn⟩ : ∃ nv : Int, I64 nv ∧ w7.cell? ⟨w6.heap.size, j, none⟩ = some (.int .i64 nv) := by
          rw [hli.facts.1 j]
          rcases j with _ | _ | _ | _ | _ | _ | _ | j
          all_goals first | omega | exact ⟨_, ib, rfl⟩ | (refine ⟨_, ?_, rfl⟩; simp [I64])
        have hM8 := hM7.set 0 rfl 0 (.int .i64 nv)
        simp only [List.set_cons_zero, List.setIfInBounds_toArray, List.set_cons_succ] at hM8
        clear hM5 hM6 hM7 hx7 hli
        go_wp2_with fail
        go_meet
        case rel => exact SpS.of hM8 hnv i2 (by omega)
      · have hli := Own.new w6 #[.int .i64 by', .int .i64 (-1), .int .i64 0, .int .i64 31, .int .i64 32, .int .i64 63, .int .i64 64] 3
        have hM6 := hM5.ext (Ext.new w6 (.cells #[.int .i64 by', .int .i64 (-1), .int .i64 0, .int .i64 31, .int .i64 32, .int .i64 63, .int .i64 64] 3))
        go_wp2_with fail
        refine RetV_at (around_c by' 7 _ ib (by omega) (by omega)) ?_
        intro w7 hx7
        obtain ⟨j0, j1⟩ := aroundV_range ib (show (0 : Int) < 7 by omega)
        obtain ⟨j, hj⟩ : ∃ j : Nat, aroundV by' 7 = j := ⟨(aroundV by' 7).toNat, by omega⟩
        rw [hj] at j1 ⊢
        clear hj j0
        have hM7 := hM6.ext hx7
        replace hli := hli.keep hx7
        clear uf0 uf1 uf2 uf3 uc0 uc1 uc2 uc3 ul
        obtain ⟨uc, uf⟩ := (hM7.box 0 rfl).facts
        have uf0 := uf 0
        have uf1 := uf 1
        have uc0 : _ = some (Value.int .i64 f.op) := uc 0
        have uc1 : _ = some (Value.int .i64 f.n) := uc 1
        have ul := (hM7.box 0 rfl).lt
        have hll := hli.lt
        clear uc uf
        have hjm : j < 7 := by omega
        obtain ⟨nv, hnv, hcn⟩ : ∃ nv : Int, I64 nv ∧ w7.cell? ⟨w6.heap.size, j, none⟩ = some (.int .i64 nv) := by
          rw [hli.facts.1 j]
          rcases j with _ | _ | _ | _ | _ | _ | _ | j
          all_goals first | omega | exact ⟨_, ib, rfl⟩ | (refine ⟨_, ?_, rfl⟩; simp [I64])
        have hM8 := hM7.set 0 rfl 1 (.int .i64 nv)
        simp only [List.set_cons_zero, List.setIfInBounds_toArray, List.set_cons_succ] at hM8
        clear hM5 hM6 hM7 hx7 hli
        go_wp2_with fail
        go_meet
        case rel => exact SpS.of hM8 i1 hnv (by omega)
      · have hM6 := hM5.ext (Ext.new w6 (.cells #[.int .i64 by', .int .i64 1, .int .i64 5, .int .i64 1, .bool false, .bool false, .bool false, .bool false] 96))
        have hS := Src.lit1 (H := H0) (E := ItvR) (sz := 8) (w := w6.alloc (.cells #[.int .i64 by', .int .i64 1, .int .i64 5, .int .i64 1, .bool false, .bool false, .bool false, .bool false] 96)) (b := w6.heap.size) (x := ⟨⟨by', 1⟩, ⟨5, 1⟩, false, false, false, false⟩) (cs := [.int .i64 by', .int .i64 1, .int .i64 5, .int .i64 1, .bool false, .bool false, .bool false, .bool false]) ⟨rfl, ⟨ib, by simp [I64]⟩, by simp [I64], by simp [I64]⟩ rfl (fun j => by rw [(Proofs.YtbpilielamjnoaaGreat.Own.new _ _ _).facts.1]; simp)
        go_wp2_with (first | (at_builtin; refine wpList_append_M 3 rfl _ _ 27 rfl Tryz.underlying27 infoItv rfl rfl rfl hM6 rfl hS one_ItvR (by simp; omega) (by simp; omega) ?f5))
        case f5 =>
        intro v7 w7 hM7
        try simp only [List.set_cons_zero, List.set_cons_succ] at hM7
        obtain ⟨il2, hil2⟩ : ∃ il2 : List Itv, il2 = f.inn ++ [⟨⟨by', 1⟩, ⟨5, 1⟩, false, false, false, false⟩] := ⟨_, rfl⟩
        have hll2 : il2.length ≤ f.inn.length + 1 := by rw [hil2]; simp
        rw [← hil2] at hM7
        clear hil2
        obtain ⟨va, vc, rfl, -⟩ := hM7.form 3 rfl
        clear uf0 uf1 uf2 uf3 uc0 uc1 uc2 uc3 ul
        obtain ⟨uc, uf⟩ := (hM7.box 0 rfl).facts
        have uf2 := uf 2
        have uf3 := uf 3
        have uc2 : _ = some (Value.slice ja f.inn.length jc) := uc 2
        have uc3 : _ = some (Value.slice ka f.kids.length kc) := uc 3
        have ul := (hM7.box 0 rfl).lt
        have hM8 := hM7.set 0 rfl 2 (.slice va il2.length vc)
        simp only [List.set_cons_zero, List.setIfInBounds_toArray, List.set_cons_succ] at hM8
        clear uc uf hM5 hM6 hM7 hS
        go_wp2_with fail
        go_meet
        case rel => exact SpS.of hM8 i1 i2 (by omega)
      · have hS := hM5.src 3 rfl
        go_wp2_with (first | (at_builtin; refine wpList_append_M 3 rfl _ _ 27 rfl Tryz.underlying27 infoItv rfl rfl rfl hM5 rfl hS one_ItvR (by omega) (by omega) ?f5))
        case f5 =>
        intro v7 w7 hM7
        try simp only [List.set_cons_zero, List.set_cons_succ] at hM7
        obtain ⟨il2, hil2⟩ : ∃ il2 : List Itv, il2 = f.inn ++ f.inn := ⟨_, rfl⟩
        have hll2 : il2.length ≤ f.inn.length + f.inn.length := by rw [hil2]; simp
        rw [← hil2] at hM7
        clear hil2
        have hM6 := hM7
        obtain ⟨va, vc, rfl, -⟩ := hM7.form 3 rfl
        clear uf0 uf1 uf2 uf3 uc0 uc1 uc2 uc3 ul
        obtain ⟨uc, uf⟩ := (hM7.box 0 rfl).facts
        have uf2 := uf 2
        have uf3 := uf 3
        have uc2 : _ = some (Value.slice ja f.inn.length jc) := uc 2
        have uc3 : _ = some (Value.slice ka f.kids.length kc) := uc 3
        have ul := (hM7.box 0 rfl).lt
        have hM8 := hM7.set 0 rfl 2 (.slice va il2.length vc)
        simp only [List.set_cons_zero, List.setIfInBounds_toArray, List.set_cons_succ] at hM8
        clear uc uf hM5 hM6 hM7 hS
        go_wp2_with fail
        go_meet
        case rel => exact SpS.of hM8 i1 i2 (by omega)
      · have hM6 := hM5.ext (Ext.new w6 (.cells #[.int .i64 0, .int .i64 0, .slice none 0 0, .slice none 0 0] 29))
        have hS := Src.lit1 (H := H0) (E := FmR) (sz := 4) (w := w6.alloc (.cells #[.int .i64 0, .int .i64 0, .slice none 0 0, .slice none 0 0] 29)) (b := w6.heap.size) (x := noF) (cs := fmC noF none 0 none 0) (noF_R _) rfl (fun j => by rw [(Proofs.YtbpilielamjnoaaGreat.Own.new _ _ _).facts.1]; simp [fmC, noF, Fm.op, Fm.n, Fm.inn, Fm.kids])
        go_wp2_with (first | (at_builtin; refine wpList_append_M 2 rfl _ _ 23 rfl Tryz.underlying23 infoFm rfl rfl rfl hM6 rfl hS one_FmR (by simp; omega) (by simp; omega) ?f5))
        case f5 =>
        intro v7 w7 hM7
        try simp only [List.set_cons_zero, List.set_cons_succ] at hM7
        obtain ⟨kl2, hkl2⟩ : ∃ kl2 : List Fm, kl2 = f.kids ++ [noF] := ⟨_, rfl⟩
        have hll2 : sumN Fm.bulk kl2 ≤ sumN Fm.bulk f.kids + 1 := by rw [hkl2, sumN_snoc]; simp [noF, Fm.bulk, fbulks]
        rw [← hkl2] at hM7
        clear hkl2
        obtain ⟨va, vc, rfl, -⟩ := hM7.form 2 rfl
        clear uf0 uf1 uf2 uf3 uc0 uc1 uc2 uc3 ul
        obtain ⟨uc, uf⟩ := (hM7.box 0 rfl).facts
        have uf2 := uf 2
        have uf3 := uf 3
        have uc2 : _ = some (Value.slice ja f.inn.length jc) := uc 2
        have uc3 : _ = some (Value.slice ka f.kids.length kc) := uc 3
        have ul := (hM7.box 0 rfl).lt
        have hM8 := hM7.set 0 rfl 3 (.slice va kl2.length vc)
        simp only [List.set_cons_zero, List.setIfInBounds_toArray, List.set_cons_succ] at hM8
        clear uc uf hM5 hM6 hM7 hS
        go_wp2_with fail
        go_meet
        case rel => exact SpS.of hM8 i1 i2 (by omega)
      · have hM8 := ((hM5.set 0 rfl 3 (.slice none 0 0)).nil mono_FmR 4 29).pick [0, 1, 4, 3] (by decide)
        simp only [List.set_cons_zero, List.setIfInBounds_toArray, List.set_cons_succ, List.cons_append, List.nil_append, List.map_cons, List.map_nil, List.getElem?_cons_succ, List.getElem?_cons_zero, Option.getD_some] at hM8
        clear hM5
        go_wp2_with fail
        go_meet
        case rel => exact SpS.of hM8 i1 i2 (by simp [sumN]; omega)
      · obtain ⟨j0, j1⟩ := aroundV_range ib (show (0 : Int) < 7 by omega)
        have hard := Lib.hid (fun w => around_c by' 7 w ib (by omega) (by omega))
        generalize aroundV by' 7 = rr at *
        obtain ⟨r, rfl⟩ : ∃ r : Nat, rr = r := ⟨rr.toNat, by omega⟩
        have hw1 : IntKind.i64.wrap (1 + (r : Int)) = 1 + (r : Int) := wrap_id (by omega) (by omega)
        obtain ⟨H1, hl1, hN1, hK⟩ := hM5.freezeS 2 rfl
        obtain ⟨H2, hl2, hN2, hI⟩ := hN1.freezeS 3 rfl
        replace hN2 := hN2.pick [0, 1] (by decide)
        simp only [List.set_cons_succ, List.set_cons_zero, List.map_cons, List.map_nil, List.getElem?_cons_succ, List.getElem?_cons_zero, Option.getD_some] at hN2
        have hfR : FmR H2 (fmC (.mk f.op f.n f.inn f.kids) ja jc ka kc) (.mk f.op f.n f.inn f.kids) := FmR.of i1 i2 hI (hK.mono mono_FmR hl2)
        clear hM5 hN1 hK hI uf0 uf1 uf2 uf3 uc0 uc1 uc2 uc3 ul q0 q1
        go_wp2_with fail
        go_loopw [12] (fun vi wr => ∃ (m : Nat) (g : Fm) (b3 : Option Addr) (d3 : Nat) (b4 : Option Addr) (d4 : Nat) (H : PH), m ≤ 1 + r ∧ vi = .int .i64 m ∧ Mem w H0 [box w.heap.size #[.int .i64 g.op, .int .i64 g.n, .slice b3 g.inn.length d3, .slice b4 g.kids.length d4] 29, box (w.heap.size + 1) #[.int .i64 0, .int .i64 0, .slice none 0 0, .slice none 0 0] 29] H wr ∧ FmR H (fmC g b3 d3 b4 d4) g ∧ g.bulk ≤ f.bulk + m) (fun vi _ => 1 + r - (intOf vi).toNat)
        case atStart => exact ⟨0, .mk f.op f.n f.inn f.kids, _, _, _, _, H2, by omega, rfl, hN2, hfR, by rw [← Fm.eta]; omega⟩
        case round =>
          clear hN2 hfR
          obtain ⟨m, g, b3, d3, b4, d4, H, hm, rfl, hN, hF, hgb⟩ := hrel
          by_cases hlt : m < 1 + r
          · have b0 : decide ((m : Int) < 1 + (r : Int)) = true := by simp; omega
            go_wp2_with fail
            refine RetV_at (hard.out _) ?_
            intro w7 hx7
            replace hN := hN.ext hx7
            clear hx7
            obtain ⟨uc, uf⟩ := (hN.box 0 rfl).facts
            have uc0 : _ = some (Value.int .i64 g.op) := uc 0
            have uc1 : _ = some (Value.int .i64 g.n) := uc 1
            have uc2 : _ = some (Value.slice b3 g.inn.length d3) := uc 2
            have uc3 : _ = some (Value.slice b4 g.kids.length d4) := uc 3
            have ul := (hN.box 0 rfl).lt
            clear uc uf
            go_wp2_with fail
            refine (not7_c g b3 d3 b4 d4 w7 hN.ple hF).mono ?_
            rintro e w8 ⟨b, rfl, hx8, hF8⟩
            replace hN := hN.up hx8
            clear hx8 uc0 uc1 uc2 uc3 ul
            obtain ⟨uc, uf⟩ := (hN.box 0 rfl).facts
            have uc0 : _ = some (Value.int .i64 g.op) := uc 0
            have uc1 : _ = some (Value.int .i64 g.n) := uc 1
            have uc2 : _ = some (Value.slice b3 g.inn.length d3) := uc 2
            have uc3 : _ = some (Value.slice b4 g.kids.length d4) := uc 3
            have ul := (hN.box 0 rfl).lt
            replace hN := hN.set4 0 rfl (.int .i64 6) (.int .i64 0) (.slice none 0 0) (.slice (some ⟨b, 0, none⟩) 1 1)
            simp only [List.set_cons_zero, List.set_cons_succ] at hN
            clear uc
            go_wp2_with fail
            go_roundw
            case rel => exact ⟨m + 1, .mk 6 0 [] [g], none, 0, some ⟨b, 0, none⟩, 1, _, by omega, by go_num, hN, hF8, by rw [Fm.bulk_eq]; simp [Fm.inn, Fm.kids, sumN]; omega⟩
            case measure => simp [intOf]; omega
          · have b0 : decide ((m : Int) < 1 + (r : Int)) = false := by simp; omega
            go_wp2_with fail
            refine RetV_at (hard.out _) ?_
            intro w7 hx7
            replace hN := hN.ext hx7
            clear hx7
            go_wp2_with fail
            go_meet
            case rel =>
              rw [fmR_iff] at hF
              obtain ⟨v3, v4, e1, g1, g2, g3, g4⟩ := hF
              cases e1
              exact ⟨g.op, g.n, _, _, g.inn, g.kids, H, hN, g1, g2, g3, g4, by rw [Fm.bulk_eq] at hgb; omega⟩
    case rest =>
      obtain ⟨op, n, iv, kv, il, kl, H, hM, ho, hn, hI, hK, hbd⟩ := hcut
      obtain ⟨ia, ic, rfl, -, hI⟩ := hI.form
      obtain ⟨ka, kc, rfl, -, hK⟩ := hK.form
      obtain ⟨uc, uf⟩ := (hM.box 0 rfl).facts
      have ul := (hM.box 0 rfl).lt
      have q0 : _ = some (Value.int .i64 op) := uc 0
      have q1 : _ = some (Value.int .i64 n) := uc 1
      have q2 : _ = some (Value.slice ia il.length ic) := uc 2
      have q3 : _ = some (Value.slice ka kl.length kc) := uc 3
      obtain ⟨vc, vf⟩ := (hM.box 1 rfl).facts
      have vl := (hM.box 1 rfl).lt
      have p0 : _ = some (Value.int .i64 0) := vc 0
      have p1 : _ = some (Value.int .i64 0) := vc 1
      have p2 : _ = some (Value.slice none 0 0) := vc 2
      have p3 : _ = some (Value.slice none 0 0) := vc 3
      have hM9 := hM.set4 1 rfl (.int .i64 op) (.int .i64 n) (.slice ia il.length ic) (.slice ka kl.length kc)
      simp only [List.set_cons_zero, List.set_cons_succ] at hM9
      clear uc vc hM
      go_wp2_with fail
      generalize ((((World.setCell _ _ _).setCell _ _).setCell _ _).setCell _ _) = w9 at *
      obtain ⟨q, -⟩ := (hM9.box 1 rfl).facts
      have q0 : _ = some (Value.int .i64 op) := q 0
      have q1 : _ = some (Value.int .i64 n) := q 1
      have q2 : _ = some (Value.slice ia il.length ic) := q 2
      have q3 : _ = some (Value.slice ka kl.length kc) := q 3
      refine bodyPost_ret (v := .agg #[.int .i64 op, .int .i64 n, .slice ia il.length ic, .slice ka kl.length kc]) (by simp [results, Tryz.results41, go_sem, q0, q1, q2, q3]) rfl ?_
      exact ⟨.mk op n il kl, ia, ic, ka, kc, rfl, mono_FmR _ _ _ _ hM9.ub (FmR.of ho hn hI hK), by rw [Fm.bulk_eq]; exact hbd, hM9.ex⟩
end Go.Proofs.YtbpilielamjnoaaGreat
namespace Go.Proofs.YtbpilielamjnoaaGreat
open Go.RowKit Go.Shelf
set_option linter.unusedSimpArgs false
set_option linter.unusedVariables false
theorem valid_of {f : Fm} {cl : Int} (h1 : f.size ≤ 96) (h2 : f.deep ≤ 8) (h3 : wholeN cl f = true) : validF f = 0 := by
  unfold validF
  rw [if_neg (by omega), if_pos (wholeN_B h3)]
def ListQ (w : World) (cl : Int) (e : Ending) (w' : World) : Prop :=
  ∃ v f g h, e = .returned v ∧ Ext w w' ∧ FmsR (ph w') v [f, g, h] ∧ validF f = 0 ∧ wholeN cl f = true ∧ g.bulk ≤ 7000 ∧ h.bulk ≤ 15000
theorem spoilt_S (f : Fm) (v : Value) (at' how by' : Int) (w : World) (hr : FmIs f (ph w) v) (i1 : I64 at') (i2 : I64 how) (i3 : I64 by') (hb : f.bulk ≤ 100000) :
    Calls Tryz.prog 41 #[v, .int .i64 at', .int .i64 how, .int .i64 by'] w (fun e w' => ∃ u g, e = .returned u ∧ Ext w w' ∧ FmIs g (ph w') u ∧ g.bulk ≤ 2 * f.bulk + 100) := by
  obtain ⟨a3, c3, a4, c4, rfl, hr⟩ := hr
  refine (spoilt07_c (H0 := ph w) f _ at' how by' w (fun _ _ h => h) hr i1 i2 i3 hb).mono ?_
  rintro e w' ⟨g, b3, d3, b4, d4, rfl, hg, hb2, hx⟩
  exact ⟨_, g, rfl, hx, ⟨b3, d3, b4, d4, rfl, mono_FmR _ _ _ _ (up_ple (fun _ _ h => h) hx) hg⟩, hb2⟩
theorem quo3_I {x : Int} (h : I64 x) : I64 (x.tdiv 3) ∧ IntKind.i64.wrap (x.tdiv 3) = x.tdiv 3 := by
  unfold I64 at *
  have h1 : -9223372036854775808 ≤ x.tdiv 3 ∧ x.tdiv 3 ≤ 9223372036854775807 := by
    rcases Int.le_total 0 x with h0 | h0
    · have := Int.tdiv_eq_ediv_of_nonneg (b := 3) h0; omega
    · have e : x.tdiv 3 = -((-x).tdiv 3) := by rw [Int.neg_tdiv, Int.neg_neg]
      have := Int.tdiv_eq_ediv_of_nonneg (a := -x) (b := 3) (by omega); omega
  exact ⟨h1, by rw [IntKind.wrap_i64]; omega⟩
set_option maxRecDepth 100000 in
set_option maxHeartbeats 4000000 in
theorem some7_c (l : List Int) (vl : Value) (cl at' how by' : Int) (w : World) (hr : IntsR (ph w) vl l) (hc0 : 0 < cl) (hc1 : cl ≤ 64) (i1 : I64 at') (i2 : I64 how) (i3 : I64 by') :
    Calls Tryz.prog 10 #[vl, .int .i64 cl, .int .i64 at', .int .i64 how, .int .i64 by'] w (ListQ w cl) := by
  have hr0 := hr
  obtain ⟨xa, xc, rfl, -, -⟩ := hr.form
  have hs := some07_n l _ cl 14 5 w (fun _ _ h => h) hr0 hc0 hc1 (by omega) (by omega) (by omega)
  rw [show (((5 : Nat) : Int) + 1) = 6 from rfl] at hs
  obtain ⟨j1, j2⟩ := quo3_I i3
  clear hr hr0
  go_enter Tryz.func10, Tryz.ntmps10
  go_wp2_with fail
  refine hs.mono ?_
  rintro e w1 ⟨f, a3, c3, a4, c4, rfl, hF, hw, ⟨hz, hd⟩, hx1⟩
  replace hF := mono_FmR _ _ _ _ (up_ple (noH_le _) hx1) hF
  have hv : validF f = 0 := valid_of (by unfold SzP at hz; omega) (by omega) hw
  have hb := valid_bulk hv
  have e1 := Ext.new w1 (.cells #[.int .i64 f.op, .int .i64 f.n, .slice a3 f.inn.length c3, .slice a4 f.kids.length c4] 29)
  have o11 := Own.new w1 #[.int .i64 f.op, .int .i64 f.n, .slice a3 f.inn.length c3, .slice a4 f.kids.length c4] 29
  replace hF := mono_FmR _ _ _ _ e1.ple hF
  have hx := hx1.then e1
  clear hs hz hd hx1
  go_upto_region 2 with (fail)
  generalize w1.alloc _ = w2 at *
  generalize w1.heap.size = g11 at *
  clear e1
  have u0 : w2.cell? ⟨g11, 0, none⟩ = some (.int .i64 f.op) := o11.facts.1 0
  have u1 : w2.cell? ⟨g11, 1, none⟩ = some (.int .i64 f.n) := o11.facts.1 1
  have u2 : w2.cell? ⟨g11, 2, none⟩ = some (.slice a3 f.inn.length c3) := o11.facts.1 2
  have u3 : w2.cell? ⟨g11, 3, none⟩ = some (.slice a4 f.kids.length c4) := o11.facts.1 3
  have ul := o11.lt
  have hsp := spoilt_S f _ at' how by' w2 ⟨a3, c3, a4, c4, rfl, hF⟩ i1 i2 i3 (by omega)
  go_wp2_with fail
  refine hsp.mono ?_
  rintro e w3 ⟨_, g, rfl, hx3, ⟨b3, d3, b4, d4, rfl, hG⟩, hgb⟩
  have e3 := Ext.new w3 (.cells #[.int .i64 g.op, .int .i64 g.n, .slice b3 g.inn.length d3, .slice b4 g.kids.length d4] 29)
  have o12 := Own.new w3 #[.int .i64 g.op, .int .i64 g.n, .slice b3 g.inn.length d3, .slice b4 g.kids.length d4] 29
  replace hG := mono_FmR _ _ _ _ e3.ple hG
  replace o11 := (o11.keep hx3).keep e3
  replace hF := mono_FmR _ _ _ _ (hx3.then e3).ple hF
  replace hx := (hx.then hx3).then e3
  clear hsp hx3 u0 u1 u2 u3 ul
  go_upto_region 3 with (fail)
  generalize w3.alloc _ = W at *
  generalize w3.heap.size = g12 at *
  clear e3
  have u0 : W.cell? ⟨g11, 0, none⟩ = some (.int .i64 f.op) := o11.facts.1 0
  have u1 : W.cell? ⟨g11, 1, none⟩ = some (.int .i64 f.n) := o11.facts.1 1
  have u2 : W.cell? ⟨g11, 2, none⟩ = some (.slice a3 f.inn.length c3) := o11.facts.1 2
  have u3 : W.cell? ⟨g11, 3, none⟩ = some (.slice a4 f.kids.length c4) := o11.facts.1 3
  have ul := o11.lt
  have y0 : W.cell? ⟨g12, 0, none⟩ = some (.int .i64 g.op) := o12.facts.1 0
  have y1 : W.cell? ⟨g12, 1, none⟩ = some (.int .i64 g.n) := o12.facts.1 1
  have y2 : W.cell? ⟨g12, 2, none⟩ = some (.slice b3 g.inn.length d3) := o12.facts.1 2
  have y3 : W.cell? ⟨g12, 3, none⟩ = some (.slice b4 g.kids.length d4) := o12.facts.1 3
  have yl := o12.lt
  (refine wp_region_I 10 (by kernel_rfl) (by kernel_rfl) ?_; simp only [List.toList_toArray, List.take_succ_cons, List.take_zero, List.drop_succ_cons, List.drop_zero])
  iterate 7 (refine walkI_is (u := ?_) rfl (by simp) rfl ?_ ?_; rotate_left; (focus (intro A w' hS hA K hK; (simp only [List.map_cons, List.map_nil, knows, Is, Op.operands, Call.operands, List.lookup_cons, List.lookup_nil, Nat.reduceBEq, Bool.false_eq_true, if_false, if_true, Act.eval, Array.getD_eq_getD_getElem?, List.getElem?_toArray, List.getElem?_cons_succ, List.getElem?_cons_zero, Option.getD_some, and_true, true_and, List.append_toArray, List.nil_append, List.cons_append, List.toList_toArray, Array.toList_append, Option.toArray, List.append_nil] at hA); (obtain ⟨hSc, hSf, hSs⟩ := hS.cells; go_simp; exact hK _ (by first | exact Ext.rfl' _ | exact Ext.new _ _ | assumption)))); (try simp only [List.nil_append, List.cons_append]))
  (refine walkI_step ((fun v w' => ∃ h, FmIs h (ph w') v ∧ h.bulk ≤ 2 * g.bulk + 100)) rfl (by simp) rfl ((fun v w w' _ ⟨h, k1, k2⟩ e => ⟨h, k1.mono e.ple, k2⟩)) ?_ ?_; (focus (intro A w' hS hA K hK; (simp only [List.map_cons, List.map_nil, knows, Is, Op.operands, Call.operands, List.lookup_cons, List.lookup_nil, Nat.reduceBEq, Bool.false_eq_true, if_false, if_true, Act.eval, Array.getD_eq_getD_getElem?, List.getElem?_toArray, List.getElem?_cons_succ, List.getElem?_cons_zero, Option.getD_some, and_true, true_and, List.append_toArray, List.nil_append, List.cons_append, List.toList_toArray, Array.toList_append, Option.toArray, List.append_nil] at hA); (go_simp; refine (spoilt_S g _ how at' (by'.tdiv 3) _ ⟨b3, d3, b4, d4, rfl, mono_FmR _ _ _ _ hS.ple hG⟩ i2 i1 j1 (by omega)).mono ?_; rintro e w9 ⟨u, h, rfl, hx9, hu, hb9⟩; exact hK _ _ hx9 ⟨h, hu, hb9⟩))); (try simp only [List.nil_append, List.cons_append]))
  (refine walkI_step ((fun v w' => ∃ h, FmsR (ph w') v [f, g, h] ∧ h.bulk ≤ 2 * g.bulk + 100)) rfl (by simp) rfl ((fun v w w' _ ⟨h, k1, k2⟩ e => ⟨h, k1.mono mono_FmR e.ple, k2⟩)) ?_ ?_; (focus (intro A w' hS hA K hK; (simp only [List.map_cons, List.map_nil, knows, Is, Op.operands, Call.operands, List.lookup_cons, List.lookup_nil, Nat.reduceBEq, Bool.false_eq_true, if_false, if_true, Act.eval, Array.getD_eq_getD_getElem?, List.getElem?_toArray, List.getElem?_cons_succ, List.getElem?_cons_zero, Option.getD_some, and_true, true_and, List.append_toArray, List.nil_append, List.cons_append, List.toList_toArray, Array.toList_append, Option.toArray, List.append_nil] at hA); (obtain ⟨hA1, hA2, h, ⟨p3, q3, p4, q4, hA3, hA4⟩, hA5⟩ := hA; go_simp; exact hK _ _ (Ext.new _ _) ⟨h, litN (w := w') [⟨f, a3, c3, a4, c4, mono_FmR _ _ _ _ hS.ple hF⟩, ⟨g, b3, d3, b4, d4, mono_FmR _ _ _ _ hS.ple hG⟩, ⟨h, p3, q3, p4, q4, hA4⟩] (by simp), hA5⟩))); (try simp only [List.nil_append, List.cons_append]))
  (refine walkI_step ((fun v w' => ∃ h, FmsR (ph w') v [f, g, h] ∧ h.bulk ≤ 2 * g.bulk + 100)) rfl (by simp) rfl ((fun v w w' _ ⟨h, k1, k2⟩ e => ⟨h, k1.mono mono_FmR e.ple, k2⟩)) ?_ ?_; (focus (intro A w' hS hA K hK; (simp only [List.map_cons, List.map_nil, knows, Is, Op.operands, Call.operands, List.lookup_cons, List.lookup_nil, Nat.reduceBEq, Bool.false_eq_true, if_false, if_true, Act.eval, Array.getD_eq_getD_getElem?, List.getElem?_toArray, List.getElem?_cons_succ, List.getElem?_cons_zero, Option.getD_some, and_true, true_and, List.append_toArray, List.nil_append, List.cons_append, List.toList_toArray, Array.toList_append, Option.toArray, List.append_nil] at hA); (go_simp; exact hK _ _ (Ext.rfl' _) hA))); (try simp only [List.nil_append, List.cons_append]))
  (refine walkI_nil ?_; simp only [List.nil_append, List.cons_append, fins, Is, forall_eq, Act.put, List.setIfInBounds_toArray, List.set_cons_zero, List.set_cons_succ])
  rintro W4 hx4 v28 - v29 - v10 ⟨h, hL, hb4⟩
  go_wp2_with fail
  refine bodyPost_ret (v := v10) (by simp [results, Tryz.results10, go_sem]) rfl ?_
  exact ⟨v10, f, g, h, rfl, hx.then hx4, hL, hv, hw, by omega, by omega⟩
end Go.Proofs.YtbpilielamjnoaaGreat
namespace Go.Proofs.YtbpilielamjnoaaGreat
open Go.RowKit Go.Shelf
set_option linter.unusedSimpArgs false
set_option linter.unusedVariables false
set_option maxRecDepth 100000 in
set_option maxHeartbeats 8000000 in
theorem formulaValidLaw (vl : Value) (l : List Int) (at' how by' : Int) (w : World) (hl : IntsR (ph w) vl l) (_ : l.length ≤ 140737488355328) (i1 : I64 at') (i2 : I64 how) (i3 : I64 by') :
    Calls Tryz.prog 3 #[vl, .int .i64 at', .int .i64 how, .int .i64 by'] w (RetV w (.bool true)) := by
  have hs := some7_c l vl 6 at' how by' w hl (by omega) (by omega) i1 i2 i3
  obtain ⟨xa, xc, rfl, -, -⟩ := hl.form
  have n0 : ((0 : Int) != 0) = false := rfl
  go_enter Tryz.func3, Tryz.ntmps3
  go_wp2_with fail
  refine hs.mono ?_
  rintro e w1 ⟨v, f, g, h, rfl, hx, hL, hv, hw, hgb, hhb⟩
  have hb := valid_bulk hv
  obtain ⟨a, c, rfl, -, hL⟩ := hL.form
  have hall : ∀ x ∈ [f, g, h], x.bulk ≤ 15000 := by
    intro x hx
    simp only [List.mem_cons, List.not_mem_nil, or_false] at hx
    rcases hx with rfl | rfl | rfl <;> omega
  have h0 : 0 < [f, g, h].length := by simp
  have hv0 : validF ([f, g, h][0]) = 0 := hv
  have hl3 : [f, g, h].length ≤ 3 := by simp
  generalize hLe : [f, g, h] = L at *
  clear hLe hv hw hgb hhb hb hs hl
  obtain ⟨kb, ko, e3, f3, e4, f4, rfl, x0, x1, x2, x3, hE, xl⟩ := FmsR.at hL 0 h0
  have hb0 := hall _ (List.getElem_mem h0)
  have hc0 := rfvalid_c L[0] _ w1 hE (by omega)
  rw [hv0] at hc0
  generalize L[0] = f0 at *
  unfold fmC at hc0
  simp only [Nat.zero_mul, Nat.add_zero] at x0 x1 x2 x3
  clear hE hb0 hv0
  go_wp2_with fail
  refine RetV_at hc0 ?_
  intro w2 hx2
  replace hL := hL.mono mono_FmR hx2.ple
  replace hx := hx.then hx2
  clear x0 x1 x2 x3 xl hc0 hx2
  go_wp2_with fail
  go_loopw [10] (fun i wr => ∃ k : Nat, k ≤ L.length ∧ i = .int .i64 k ∧ Ext w2 wr) (fun i _ => L.length - (intOf i).toNat)
  case atStart => exact ⟨0, by omega, rfl, Ext.rfl' _⟩
  case round =>
    obtain ⟨k, hk, rfl, hr⟩ := hrel
    by_cases hlt : k < L.length
    · obtain ⟨jb, jo, e3, f3, e4, f4, ej, x0, x1, x2, x3, hE, xl⟩ := FmsR.at (hL.mono mono_FmR hr.ple) k hlt
      cases ej
      have hbx := hall _ (List.getElem_mem hlt)
      have hd1 : decide (k < L.length) = true := decide_eq_true hlt
      generalize L[k] = x at *
      have hsz := x.size_le_bulk
      have hdp := x.deep_le_size
      have c1 := Lib.hid (fun W (e : Ext wr W) => fvalid_c x _ W (mono_FmR _ _ _ _ e.ple hE) (by omega))
      have c2 := Lib.hid (fun W (e : Ext wr W) => rfvalid_c x _ W (mono_FmR _ _ _ _ e.ple hE) (by omega))
      have c3 := Lib.hid (fun W (e : Ext wr W) => fsize_c x _ W (mono_FmR _ _ _ _ e.ple hE) (by omega))
      have c4 := Lib.hid (fun W (e : Ext wr W) => rfsize_c x _ W (mono_FmR _ _ _ _ e.ple hE) (by omega))
      have c5 := Lib.hid (fun W (e : Ext wr W) => fdeep_c x _ W (mono_FmR _ _ _ _ e.ple hE) (by omega))
      have c6 := Lib.hid (fun W (e : Ext wr W) => rfdeep_c x _ W (mono_FmR _ _ _ _ e.ple hE) (by omega))
      have z1 : (validF x != validF x) = false := by simp
      have z2 : ((x.size : Int) != x.size) = false := by simp
      have z3 : ((x.deep : Int) != x.deep) = false := by simp
      generalize validF x = vv at *
      unfold fmC at *
      clear hE hsz hdp hbx
      go_upto_region 7 with (fail)
      (refine wp_region_I 37 (by kernel_rfl) (by kernel_rfl) ?_; simp only [List.toList_toArray, List.take_succ_cons, List.take_zero, List.drop_succ_cons, List.drop_zero])
      iterate 4 (refine walkI_is (u := ?_) rfl (by simp) rfl ?_ ?_; rotate_left; (focus (intro A w' hS hA K hK; (simp only [List.map_cons, List.map_nil, knows, Is, Op.operands, Call.operands, List.lookup_cons, List.lookup_nil, Nat.reduceBEq, Bool.false_eq_true, if_false, if_true, Act.eval, Array.getD_eq_getD_getElem?, List.getElem?_toArray, List.getElem?_cons_succ, List.getElem?_cons_zero, Option.getD_some, and_true, true_and, List.append_toArray, List.nil_append, List.cons_append, List.toList_toArray, Array.toList_append, Option.toArray, List.append_nil] at hA); (obtain ⟨hSc, hSf, hSs⟩ := hS.cells; go_simp; exact hK _ (by first | exact Ext.rfl' _ | exact Ext.new _ _ | assumption)))); (try simp only [List.nil_append, List.cons_append]))
      (refine walkI_is (u := ?_) rfl (by simp) rfl ?_ ?_; rotate_left; (focus (intro A w' hS hA K hK; (simp only [List.map_cons, List.map_nil, knows, Is, Op.operands, Call.operands, List.lookup_cons, List.lookup_nil, Nat.reduceBEq, Bool.false_eq_true, if_false, if_true, Act.eval, Array.getD_eq_getD_getElem?, List.getElem?_toArray, List.getElem?_cons_succ, List.getElem?_cons_zero, Option.getD_some, and_true, true_and, List.append_toArray, List.nil_append, List.cons_append, List.toList_toArray, Array.toList_append, Option.toArray, List.append_nil] at hA); first | (go_simp; refine RetV_at (c1.out _ hS) ?_; intro w'' hx''; exact hK _ hx'') | (obtain ⟨hSc, hSf, hSs⟩ := hS.cells; go_simp; exact hK _ (by first | exact Ext.rfl' _ | exact Ext.new _ _ | assumption)))); (try simp only [List.nil_append, List.cons_append]))
      iterate 4 (refine walkI_is (u := ?_) rfl (by simp) rfl ?_ ?_; rotate_left; (focus (intro A w' hS hA K hK; (simp only [List.map_cons, List.map_nil, knows, Is, Op.operands, Call.operands, List.lookup_cons, List.lookup_nil, Nat.reduceBEq, Bool.false_eq_true, if_false, if_true, Act.eval, Array.getD_eq_getD_getElem?, List.getElem?_toArray, List.getElem?_cons_succ, List.getElem?_cons_zero, Option.getD_some, and_true, true_and, List.append_toArray, List.nil_append, List.cons_append, List.toList_toArray, Array.toList_append, Option.toArray, List.append_nil] at hA); (obtain ⟨hSc, hSf, hSs⟩ := hS.cells; go_simp; exact hK _ (by first | exact Ext.rfl' _ | exact Ext.new _ _ | assumption)))); (try simp only [List.nil_append, List.cons_append]))
      (refine walkI_is (u := ?_) rfl (by simp) rfl ?_ ?_; rotate_left; (focus (intro A w' hS hA K hK; (simp only [List.map_cons, List.map_nil, knows, Is, Op.operands, Call.operands, List.lookup_cons, List.lookup_nil, Nat.reduceBEq, Bool.false_eq_true, if_false, if_true, Act.eval, Array.getD_eq_getD_getElem?, List.getElem?_toArray, List.getElem?_cons_succ, List.getElem?_cons_zero, Option.getD_some, and_true, true_and, List.append_toArray, List.nil_append, List.cons_append, List.toList_toArray, Array.toList_append, Option.toArray, List.append_nil] at hA); first | (go_simp; refine RetV_at (c2.out _ hS) ?_; intro w'' hx''; exact hK _ hx'') | (obtain ⟨hSc, hSf, hSs⟩ := hS.cells; go_simp; exact hK _ (by first | exact Ext.rfl' _ | exact Ext.new _ _ | assumption)))); (try simp only [List.nil_append, List.cons_append]))
      iterate 2 (refine walkI_is (u := ?_) rfl (by simp) rfl ?_ ?_; rotate_left; (focus (intro A w' hS hA K hK; (simp only [List.map_cons, List.map_nil, knows, Is, Op.operands, Call.operands, List.lookup_cons, List.lookup_nil, Nat.reduceBEq, Bool.false_eq_true, if_false, if_true, Act.eval, Array.getD_eq_getD_getElem?, List.getElem?_toArray, List.getElem?_cons_succ, List.getElem?_cons_zero, Option.getD_some, and_true, true_and, List.append_toArray, List.nil_append, List.cons_append, List.toList_toArray, Array.toList_append, Option.toArray, List.append_nil] at hA); (obtain ⟨hSc, hSf, hSs⟩ := hS.cells; go_simp; exact hK _ (by first | exact Ext.rfl' _ | exact Ext.new _ _ | assumption)))); (try simp only [List.nil_append, List.cons_append]))
      iterate 4 (refine walkI_yesis (u := ?_) rfl (by simp) rfl rfl rfl ?_ ?_; rotate_left; (focus (intro A w' hS hA K hK; (simp only [List.map_cons, List.map_nil, knows, Is, Op.operands, Call.operands, List.lookup_cons, List.lookup_nil, Nat.reduceBEq, Bool.false_eq_true, if_false, if_true, Act.eval, Array.getD_eq_getD_getElem?, List.getElem?_toArray, List.getElem?_cons_succ, List.getElem?_cons_zero, Option.getD_some, and_true, true_and, List.append_toArray, List.nil_append, List.cons_append, List.toList_toArray, Array.toList_append, Option.toArray, List.append_nil] at hA); (obtain ⟨hSc, hSf, hSs⟩ := hS.cells; go_simp; exact hK _ (by first | exact Ext.rfl' _ | exact Ext.new _ _ | assumption)))); (try simp only [List.nil_append, List.cons_append]))
      (refine walkI_yesis (u := ?_) rfl (by simp) rfl rfl rfl ?_ ?_; rotate_left; (focus (intro A w' hS hA K hK; (simp only [List.map_cons, List.map_nil, knows, Is, Op.operands, Call.operands, List.lookup_cons, List.lookup_nil, Nat.reduceBEq, Bool.false_eq_true, if_false, if_true, Act.eval, Array.getD_eq_getD_getElem?, List.getElem?_toArray, List.getElem?_cons_succ, List.getElem?_cons_zero, Option.getD_some, and_true, true_and, List.append_toArray, List.nil_append, List.cons_append, List.toList_toArray, Array.toList_append, Option.toArray, List.append_nil] at hA); first | (go_simp; refine RetV_at (c3.out _ hS) ?_; intro w'' hx''; exact hK _ hx'') | (obtain ⟨hSc, hSf, hSs⟩ := hS.cells; go_simp; exact hK _ (by first | exact Ext.rfl' _ | exact Ext.new _ _ | assumption)))); (try simp only [List.nil_append, List.cons_append]))
      iterate 4 (refine walkI_yesis (u := ?_) rfl (by simp) rfl rfl rfl ?_ ?_; rotate_left; (focus (intro A w' hS hA K hK; (simp only [List.map_cons, List.map_nil, knows, Is, Op.operands, Call.operands, List.lookup_cons, List.lookup_nil, Nat.reduceBEq, Bool.false_eq_true, if_false, if_true, Act.eval, Array.getD_eq_getD_getElem?, List.getElem?_toArray, List.getElem?_cons_succ, List.getElem?_cons_zero, Option.getD_some, and_true, true_and, List.append_toArray, List.nil_append, List.cons_append, List.toList_toArray, Array.toList_append, Option.toArray, List.append_nil] at hA); (obtain ⟨hSc, hSf, hSs⟩ := hS.cells; go_simp; exact hK _ (by first | exact Ext.rfl' _ | exact Ext.new _ _ | assumption)))); (try simp only [List.nil_append, List.cons_append]))
      (refine walkI_yesis (u := ?_) rfl (by simp) rfl rfl rfl ?_ ?_; rotate_left; (focus (intro A w' hS hA K hK; (simp only [List.map_cons, List.map_nil, knows, Is, Op.operands, Call.operands, List.lookup_cons, List.lookup_nil, Nat.reduceBEq, Bool.false_eq_true, if_false, if_true, Act.eval, Array.getD_eq_getD_getElem?, List.getElem?_toArray, List.getElem?_cons_succ, List.getElem?_cons_zero, Option.getD_some, and_true, true_and, List.append_toArray, List.nil_append, List.cons_append, List.toList_toArray, Array.toList_append, Option.toArray, List.append_nil] at hA); first | (go_simp; refine RetV_at (c4.out _ hS) ?_; intro w'' hx''; exact hK _ hx'') | (obtain ⟨hSc, hSf, hSs⟩ := hS.cells; go_simp; exact hK _ (by first | exact Ext.rfl' _ | exact Ext.new _ _ | assumption)))); (try simp only [List.nil_append, List.cons_append]))
      (refine walkI_yesis (u := ?_) rfl (by simp) rfl rfl rfl ?_ ?_; rotate_left; (focus (intro A w' hS hA K hK; (simp only [List.map_cons, List.map_nil, knows, Is, Op.operands, Call.operands, List.lookup_cons, List.lookup_nil, Nat.reduceBEq, Bool.false_eq_true, if_false, if_true, Act.eval, Array.getD_eq_getD_getElem?, List.getElem?_toArray, List.getElem?_cons_succ, List.getElem?_cons_zero, Option.getD_some, and_true, true_and, List.append_toArray, List.nil_append, List.cons_append, List.toList_toArray, Array.toList_append, Option.toArray, List.append_nil] at hA); (obtain ⟨hSc, hSf, hSs⟩ := hS.cells; go_simp; exact hK _ (by first | exact Ext.rfl' _ | exact Ext.new _ _ | assumption)))); (try simp only [List.nil_append, List.cons_append]))
      iterate 2 (refine walkI_is (u := ?_) rfl (by simp) rfl ?_ ?_; rotate_left; (focus (intro A w' hS hA K hK; (simp only [List.map_cons, List.map_nil, knows, Is, Op.operands, Call.operands, List.lookup_cons, List.lookup_nil, Nat.reduceBEq, Bool.false_eq_true, if_false, if_true, Act.eval, Array.getD_eq_getD_getElem?, List.getElem?_toArray, List.getElem?_cons_succ, List.getElem?_cons_zero, Option.getD_some, and_true, true_and, List.append_toArray, List.nil_append, List.cons_append, List.toList_toArray, Array.toList_append, Option.toArray, List.append_nil] at hA); (obtain ⟨hSc, hSf, hSs⟩ := hS.cells; go_simp; exact hK _ (by first | exact Ext.rfl' _ | exact Ext.new _ _ | assumption)))); (try simp only [List.nil_append, List.cons_append]))
      iterate 4 (refine walkI_yesis (u := ?_) rfl (by simp) rfl rfl rfl ?_ ?_; rotate_left; (focus (intro A w' hS hA K hK; (simp only [List.map_cons, List.map_nil, knows, Is, Op.operands, Call.operands, List.lookup_cons, List.lookup_nil, Nat.reduceBEq, Bool.false_eq_true, if_false, if_true, Act.eval, Array.getD_eq_getD_getElem?, List.getElem?_toArray, List.getElem?_cons_succ, List.getElem?_cons_zero, Option.getD_some, and_true, true_and, List.append_toArray, List.nil_append, List.cons_append, List.toList_toArray, Array.toList_append, Option.toArray, List.append_nil] at hA); (obtain ⟨hSc, hSf, hSs⟩ := hS.cells; go_simp; exact hK _ (by first | exact Ext.rfl' _ | exact Ext.new _ _ | assumption)))); (try simp only [List.nil_append, List.cons_append]))
      (refine walkI_yesis (u := ?_) rfl (by simp) rfl rfl rfl ?_ ?_; rotate_left; (focus (intro A w' hS hA K hK; (simp only [List.map_cons, List.map_nil, knows, Is, Op.operands, Call.operands, List.lookup_cons, List.lookup_nil, Nat.reduceBEq, Bool.false_eq_true, if_false, if_true, Act.eval, Array.getD_eq_getD_getElem?, List.getElem?_toArray, List.getElem?_cons_succ, List.getElem?_cons_zero, Option.getD_some, and_true, true_and, List.append_toArray, List.nil_append, List.cons_append, List.toList_toArray, Array.toList_append, Option.toArray, List.append_nil] at hA); first | (go_simp; refine RetV_at (c5.out _ hS) ?_; intro w'' hx''; exact hK _ hx'') | (obtain ⟨hSc, hSf, hSs⟩ := hS.cells; go_simp; exact hK _ (by first | exact Ext.rfl' _ | exact Ext.new _ _ | assumption)))); (try simp only [List.nil_append, List.cons_append]))
      iterate 4 (refine walkI_yesis (u := ?_) rfl (by simp) rfl rfl rfl ?_ ?_; rotate_left; (focus (intro A w' hS hA K hK; (simp only [List.map_cons, List.map_nil, knows, Is, Op.operands, Call.operands, List.lookup_cons, List.lookup_nil, Nat.reduceBEq, Bool.false_eq_true, if_false, if_true, Act.eval, Array.getD_eq_getD_getElem?, List.getElem?_toArray, List.getElem?_cons_succ, List.getElem?_cons_zero, Option.getD_some, and_true, true_and, List.append_toArray, List.nil_append, List.cons_append, List.toList_toArray, Array.toList_append, Option.toArray, List.append_nil] at hA); (obtain ⟨hSc, hSf, hSs⟩ := hS.cells; go_simp; exact hK _ (by first | exact Ext.rfl' _ | exact Ext.new _ _ | assumption)))); (try simp only [List.nil_append, List.cons_append]))
      (refine walkI_yesis (u := ?_) rfl (by simp) rfl rfl rfl ?_ ?_; rotate_left; (focus (intro A w' hS hA K hK; (simp only [List.map_cons, List.map_nil, knows, Is, Op.operands, Call.operands, List.lookup_cons, List.lookup_nil, Nat.reduceBEq, Bool.false_eq_true, if_false, if_true, Act.eval, Array.getD_eq_getD_getElem?, List.getElem?_toArray, List.getElem?_cons_succ, List.getElem?_cons_zero, Option.getD_some, and_true, true_and, List.append_toArray, List.nil_append, List.cons_append, List.toList_toArray, Array.toList_append, Option.toArray, List.append_nil] at hA); first | (go_simp; refine RetV_at (c6.out _ hS) ?_; intro w'' hx''; exact hK _ hx'') | (obtain ⟨hSc, hSf, hSs⟩ := hS.cells; go_simp; exact hK _ (by first | exact Ext.rfl' _ | exact Ext.new _ _ | assumption)))); (try simp only [List.nil_append, List.cons_append]))
      (refine walkI_yesis (u := ?_) rfl (by simp) rfl rfl rfl ?_ ?_; rotate_left; (focus (intro A w' hS hA K hK; (simp only [List.map_cons, List.map_nil, knows, Is, Op.operands, Call.operands, List.lookup_cons, List.lookup_nil, Nat.reduceBEq, Bool.false_eq_true, if_false, if_true, Act.eval, Array.getD_eq_getD_getElem?, List.getElem?_toArray, List.getElem?_cons_succ, List.getElem?_cons_zero, Option.getD_some, and_true, true_and, List.append_toArray, List.nil_append, List.cons_append, List.toList_toArray, Array.toList_append, Option.toArray, List.append_nil] at hA); (obtain ⟨hSc, hSf, hSs⟩ := hS.cells; go_simp; exact hK _ (by first | exact Ext.rfl' _ | exact Ext.new _ _ | assumption)))); (try simp only [List.nil_append, List.cons_append]))
      (refine walkI_is (u := ?_) rfl (by simp) rfl ?_ ?_; rotate_left; (focus (intro A w' hS hA K hK; (simp only [List.map_cons, List.map_nil, knows, Is, Op.operands, Call.operands, List.lookup_cons, List.lookup_nil, Nat.reduceBEq, Bool.false_eq_true, if_false, if_true, Act.eval, Array.getD_eq_getD_getElem?, List.getElem?_toArray, List.getElem?_cons_succ, List.getElem?_cons_zero, Option.getD_some, and_true, true_and, List.append_toArray, List.nil_append, List.cons_append, List.toList_toArray, Array.toList_append, Option.toArray, List.append_nil] at hA); (obtain ⟨hSc, hSf, hSs⟩ := hS.cells; go_simp; exact hK _ (by first | exact Ext.rfl' _ | exact Ext.new _ _ | assumption)))); (try simp only [List.nil_append, List.cons_append]))
      (refine walkI_nil ?_; simp only [List.nil_append, List.cons_append, fins, Is, forall_eq, Act.put, List.setIfInBounds_toArray, List.set_cons_zero, List.set_cons_succ])
      intro w5 hx5
      clear x0 x1 x2 x3 xl c1 c2 c3 c4 c5 c6 z1 z2 z3
      go_wp2_with fail
      go_roundw
      case rel => exact ⟨k + 1, by omega, by go_num, hr.then hx5⟩
      case measure => simp [intOf]; omega
    · obtain rfl : k = L.length := by omega
      have hd1 : decide (L.length < L.length) = false := by simp
      go_wp2_with fail
      refine RetV_at (lives07_c _) ?_
      intro w9 hx9
      go_wp2_with fail
      go_ret
      exact ⟨rfl, (hx.then hr).then hx9⟩
end Go.Proofs.YtbpilielamjnoaaGreat
namespace Go.Proofs.YtbpilielamjnoaaGreat
open Go.ChangeShapes Go.WideShapes Go.ChangeAt Go.RowKit
set_option linter.unusedVariables false
theorem post_of_ext {H : Type} {enc : TypeId × Value → H} {P : Program} {f : Func} {s : ChangeSpec} {apart fresh handsOn : Bool} {W W' : World} {args : Array Value} {v : Value} {ds gs : List (DataW H)} {before pa pv : List MemPlace}
    (hW : DataW.Whole enc P f.params.toList s.vars apart W args.toList ds gs before)
    (hres : ∀ (b : Nat) (sp : Nat → Bool) (hd : Bool), DataW.TrodAll enc P W' b sp hd f.resultTypes.toList (v.resultList f.resultTypes.size) (s.fn H (ds ++ gs)).results [])
    (hargs : ∀ sp : Nat → Bool, (∀ p ∈ before, sp p.block = true) → DataW.TrodAll enc P W' 0 sp true f.params.toList args.toList (s.fn H (ds ++ gs)).args pa)
    (hvars : ∀ sp : Nat → Bool, (∀ p ∈ before, sp p.block = true) → DataW.TrodVars enc P W' sp s.vars (s.fn H (ds ++ gs)).vars pv)
    (hps : before = pa ++ pv) (he : Ext W W') : s.post enc P f apart fresh handsOn false W args v W' := by
  have hold : ∀ p ∈ before, (fun b => decide (b < W.heap.size)) p.block = true := fun p hp => by simpa using hW.lt p hp
  exact ⟨ds, gs, before, [], pa, pv, hW, hres _ _ _, hargs _ hold, hvars _ hold, he.frame _, fun h => by cases h⟩
theorem wf_i64 {a : Int} (h : (Lit.int .i64 a).wf = true) : I64 a := by
  simpa [Lit.wf, IntKind.min, IntKind.max, IntKind.signed, IntKind.bits, I64] using h
end Go.Proofs.YtbpilielamjnoaaGreat
namespace Go.Proofs.YtbpilielamjnoaaGreat
open Go.ChangeShapes Go.WideShapes Go.ChangeAt Go.RowKit
set_option linter.unusedVariables false
section
variable {H : Type} {enc : TypeId × Value → H} {P : Program}
theorem trodAll_back (hl : laidOutB P = true) {W W' : World} (hb : Ext W W') : ∀ {ts : List TypeId} {vs : List Value} {ds : List (DataW H)} {ps : List MemPlace}, (∀ t ∈ ts, P.readableRec t = true ∧ t < P.types.size) →
    DataW.TrodAll enc P W 0 (fun _ => true) true ts vs ds ps → (∀ x ∈ ps, x.block < W.heap.size) → DataW.TrodAll enc P W' 0 (fun b => decide (b < W.heap.size)) true ts vs ds ps
  | [], [], [], ps, _, h, _ => h
  | t :: ts, v :: vs, d :: ds, ps, hr, h, hlt => by
    obtain ⟨p, q, h1, h2, rfl⟩ := h
    exact ⟨p, q, Below.trod hl (hr t (by simp)).1 (hr t (by simp)).2 h1 hb (fun x hx => hlt x (by simp [hx])), trodAll_back hl hb (fun t ht => hr t (by simp [ht])) h2 (fun x hx => hlt x (by simp [hx])), rfl⟩
  | [], _ :: _, _, _, _, h, _ => h.elim
  | [], [], _ :: _, _, _, h, _ => h.elim
  | _ :: _, [], _, _, _, h, _ => h.elim
  | _ :: _, _ :: _, [], _, _, h, _ => h.elim
theorem post_law {f : Func} {s : ChangeSpec} {apart fresh handsOn : Bool} {W W' : World} {args : Array Value} {v : Value} {ds gs : List (DataW H)} {before : List MemPlace}
    (hW : DataW.Whole enc P f.params.toList s.vars apart W args.toList ds gs before) (hv : s.vars = [])
    (hres : ∀ (b : Nat) (sp : Nat → Bool) (hd : Bool), DataW.TrodAll enc P W' b sp hd f.resultTypes.toList (v.resultList f.resultTypes.size) (s.fn H (ds ++ gs)).results [])
    (hargs : (s.fn H (ds ++ gs)).args = ds) (hvs : (s.fn H (ds ++ gs)).vars = []) (hl : laidOutB P = true) (hr : ∀ t ∈ f.params.toList, P.readableRec t = true ∧ t < P.types.size) (he : Ext W W') : s.post enc P f apart fresh handsOn false W args v W' := by
  have hold : ∀ p ∈ before, p.block < W.heap.size := fun p hp => hW.lt p hp
  have hW' := hW
  obtain ⟨p, q, hA, hV, rfl, -, -⟩ := hW
  rw [hv] at hV
  obtain ⟨rfl, rfl⟩ : gs = [] ∧ q = [] := by
    cases gs with
    | nil => exact ⟨rfl, hV⟩
    | cons _ _ => exact hV.elim
  refine ⟨ds, [], p ++ [], [], p, [], hW', hres _ _ _, ?_, ?_, he.frame _, fun h => by cases h⟩
  · rw [hargs]; exact trodAll_back hl he hr hA fun x hx => hold x (by simp [hx])
  · rw [hv, hvs]; rfl
theorem wf_i64m {n : Int} (h : (Lit.int .i64 n).wf = true) : I64 n := wf_i64 h
theorem openI {t e : TypeId} {v : Value} {d : DataW H} {p : List MemPlace} {W : World} {base : Nat} (ht : P.underlying t = some (.slice e)) (he : P.underlying e = some (.int .i64)) (hc : P.cellsOf e = 1) (hby : P.bytesOf e = 8)
    (hval : Value.okWide P W .any base t v) (h : DataW.Trod enc P W 0 (fun _ => true) true t v d p) {ts : List TypeId} {ds : List (DataW H)} (hsz : (DataW.weightsEach P ts ds).all (· ≤ reachBytes) = true) (j : Nat) (hj : ts[j]? = some t) (hd : ds[j]? = some d) :
    ∃ l : List Int, IntsR (ph W) v l ∧ l.length ≤ 17592186043904 := by
  obtain ⟨a0, len, cap, rfl⟩ := okWide_slice ht hval
  obtain ⟨fuel, hf⟩ := h
  rcases open_ints ht he hc hf with ⟨hcs, hx⟩ | ⟨a, len', cap', zs, hcs, _, hl, hm, hz, hx, hcell, hwz⟩
  · simp [Value.cells] at hcs
    obtain ⟨rfl, rfl, rfl⟩ := hcs
    exact ⟨[], SliceRep.nil _ _ _, by simp⟩
  · simp [Value.cells] at hcs
    obtain ⟨rfl, rfl, rfl⟩ := hcs
    simp only [Prod.mk.injEq] at hx
    obtain ⟨rfl, -⟩ := hx
    simp only [if_true] at hz
    have hreach : len * 8 ≤ 140737488351232 := by
      have := sized_slice hsz (j := j) hj hd ht
      rw [hby] at this
      simp only [lits, List.length_map, List.length_take, List.length_drop, reachBytes] at this
      omega
    have hlen : (zs.take len).length = len := by rw [List.length_take]; omega
    refine ⟨zs.take len, ⟨some a, cap, by rw [hlen], by omega, hm, ?_⟩, by omega⟩
    by_cases h0 : len = 0
    · left; rw [h0]; rfl
    · right
      obtain ⟨b, off, spot⟩ := a
      have hspot : spot = none := by simpa [Addr.add] using World.cell?_spot (hcell 0 (by omega))
      subst hspot
      refine ⟨b, off, rfl, RowRep.of fun i hi => ?_⟩
      rw [hlen] at hi
      have h1 := hcell i (by omega)
      have h2 : zs.getD i 0 = (zs.take len)[i]'(by omega) := by
        rw [List.getElem_take]; simp [List.getD, show i < zs.length by omega]
      refine ⟨[.int .i64 ((zs.take len)[i]'(by omega))], rfl, fun j hj => ?_, rfl, wf_i64m (hwz _ ?_)⟩
      · obtain rfl : j = 0 := by omega
        rw [addo, cell_ph, h2] at h1
        simpa using h1
      · rw [List.getElem_take]; exact List.getElem_mem _
theorem wf_u8 {n : Int} (h : (Lit.int .u8 n).wf = true) : 0 ≤ n ∧ n < 256 := by
  have := bounds_u8 h; omega
theorem openB {t e : TypeId} {v : Value} {d : DataW H} {p : List MemPlace} {W : World} {base : Nat} (ht : P.underlying t = some (.slice e)) (he : P.underlying e = some (.int .u8)) (hc : P.cellsOf e = 1) (hby : P.bytesOf e = 1)
    (hval : Value.okWide P W .any base t v) (h : DataW.Trod enc P W 0 (fun _ => true) true t v d p) {ts : List TypeId} {ds : List (DataW H)} (hsz : (DataW.weightsEach P ts ds).all (· ≤ reachBytes) = true) (j : Nat) (hj : ts[j]? = some t) (hd : ds[j]? = some d) :
    ∃ l : List UInt8, BytesR (ph W) v l ∧ l.length ≤ 140737488351232 := by
  obtain ⟨a0, len, cap, rfl⟩ := okWide_slice ht hval
  obtain ⟨fuel, hf⟩ := h
  rcases open_ints ht he hc hf with ⟨hcs, hx⟩ | ⟨a, len', cap', zs, hcs, _, hl, hm, hz, hx, hcell, hwz⟩
  · simp [Value.cells] at hcs
    obtain ⟨rfl, rfl, rfl⟩ := hcs
    exact ⟨[], SliceRep.nil _ _ _, by simp⟩
  · simp [Value.cells] at hcs
    obtain ⟨rfl, rfl, rfl⟩ := hcs
    simp only [Prod.mk.injEq] at hx
    obtain ⟨rfl, -⟩ := hx
    simp only [if_true] at hz
    have hreach : len * 1 ≤ 140737488351232 := by
      have := sized_slice hsz (j := j) hj hd ht
      rw [hby] at this
      simp only [lits, List.length_map, List.length_take, List.length_drop, reachBytes] at this
      omega
    have hlen : ((zs.take len).map fun n => UInt8.ofNat n.toNat).length = len := by rw [List.length_map, List.length_take]; omega
    refine ⟨(zs.take len).map fun n => UInt8.ofNat n.toNat, ⟨some a, cap, by rw [hlen], by omega, hm, ?_⟩, by omega⟩
    by_cases h0 : len = 0
    · left; rw [h0]; rfl
    · right
      obtain ⟨b, off, spot⟩ := a
      have hspot : spot = none := by simpa [Addr.add] using World.cell?_spot (hcell 0 (by omega))
      subst hspot
      refine ⟨b, off, rfl, RowRep.of fun i hi => ?_⟩
      rw [hlen] at hi
      have h1 := hcell i (by omega)
      have h2 : zs.getD i 0 = zs[i]'(by omega) := by simp [List.getD, show i < zs.length by omega]
      have h3 := wf_u8 (hwz (zs[i]'(by omega)) (List.getElem_mem _))
      refine ⟨[.int .u8 (zs[i]'(by omega))], rfl, fun j hj => ?_, ?_⟩
      · obtain rfl : j = 0 := by omega
        rw [addo, cell_ph, h2] at h1
        simpa using h1
      · simp only [ByteR, List.getElem_map, List.getElem_take, List.cons.injEq, and_true]
        refine val_int ?_
        have h4 : (zs[i]'(by omega)).toNat < 256 := by omega
        rw [UInt8.toNat_ofNat_of_lt' (by simpa using h4)]
        omega
end
end Go.Proofs.YtbpilielamjnoaaGreat
