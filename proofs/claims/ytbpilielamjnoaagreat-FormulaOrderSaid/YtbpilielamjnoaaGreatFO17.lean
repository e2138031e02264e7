/- the law FormulaOrder: the walk.; From a walk to a row's post.; From a walk to a row's post, where the arguments may lie in memory. -/
import Derived.Test.YtbpilielamjnoaaGreatRows
import Derived.ProofKit
import Derived.OpenShut
import Derived.Carry
import Derived.SizedLaws
import Derived.Test.YtbpilielamjnoaaGreatFO00
import Derived.Test.YtbpilielamjnoaaGreatFO14
import Derived.Test.YtbpilielamjnoaaGreatFO15
import Derived.Test.YtbpilielamjnoaaGreatFO16
namespace Go.Proofs.YtbpilielamjnoaaGreat
open Go.RowKit Go.Shelf
set_option linter.unusedSimpArgs false
set_option linter.unusedVariables false
theorem wpList_append_F {α : Type} {E : PH → List Value → α → Prop} {sz : Nat} {T : TypeId} {xs ys : List α} {w : World} {P : Program} {ops : Array Oper} {rest : List Oper} {o : Oper} {a : Act} {Q : Exit → Act → World → Prop} (hm : Mono E) (hgd : o.guard = none) (s x : Operand) (t : TypeId)
    (ho : o.op = .call { callee := .builtin .append, args := #[s, x], argTypes := #[t, t] }) {z : Value} {bytes : Nat}
    (ht : P.underlying t = some (.slice T)) (hinfo : (P.info? T).map (fun i => (i.zero, i.size, i.bytes)) = some (some z, sz, bytes)) (hzs : z.cells.size = sz)
    {b : Option Addr} {n : Nat} {vx : Value} (hs : a.eval s = .slice b n n) (hx : a.eval x = vx) (hn : n = xs.length) (hr : SliceRep E sz (ph w) (.slice b n n) xs) (hry : SliceRep E sz (ph w) vx ys) (hne : xs ≠ []) (hyn : ys ≠ [])
    (hbytes : (xs.length + ys.length) * bytes ≤ 140737488355328) (hcnt : xs.length + ys.length ≤ 140737488355328)
    (h : ∀ v' w', Ext w w' → SliceRep E sz (ph w') v' (xs ++ ys) → wpList P ops Q rest (a.put o.dst v') w') : wpList P ops Q (o :: rest) a w := by
  obtain ⟨i, hi, hz0, hz1, hz2⟩ := info_parts hinfo
  obtain ⟨v', w', hrun, h5, h6⟩ := run_append_F (P := P) (w := w) (H := ph w) t o.type T i z bytes ht hi hz0 hz1 hz2 hzs hn (Src.ofRep hr (PLe.refl _)) hne (Src.ofRep hry (PLe.refl _)) hyn (PLe.refl _) hbytes hcnt
  refine wpList_plain hgd fun _ hK => ?_
  unfold Oper.wp execOp
  simp only [ho, resolve, invoke, builtin, Sem.run_bind, Sem.run_pure, Result.andThen_ok, List.map_toArray, List.map_cons, List.map_nil, hs, hx, hrun]
  exact hK _ _ (h v' w' h6 (h5.rep hm h6.ple))
theorem elemAt {w : World} {H0 : PH} {a : Option Addr} {n cap : Nat} {L : List Fm} (hr : FmsR H0 (.slice a n cap) L) (hl : PLe H0 (ph w)) (k : Nat) {x : Fm} (hk : L[k]? = some x) :
    ∃ b o a3 c3 a4 c4, a = some ⟨b, o, none⟩ ∧ w.cell? ⟨b, o + k * 4, none⟩ = some (.int .i64 x.op) ∧ w.cell? ⟨b, o + k * 4 + 1, none⟩ = some (.int .i64 x.n) ∧
      w.cell? ⟨b, o + k * 4 + 2, none⟩ = some (.slice a3 x.inn.length c3) ∧ w.cell? ⟨b, o + k * 4 + 3, none⟩ = some (.slice a4 x.kids.length c4) ∧ FmR (ph w) (fmC x a3 c3 a4 c4) x ∧ b < w.heap.size := by
  obtain ⟨hkl, hkx⟩ := List.getElem?_eq_some_iff.1 hk
  subst hkx
  exact FmsR.at (hr.mono mono_FmR hl) k hkl
theorem fcmpJ_bd (a b : Fm) : -1 ≤ fcmpJ a b ∧ fcmpJ a b ≤ 1 := by rw [fcmpJ_key]; exact lexC_bd _ _
theorem simpleE_bulk (a : Fm) : (simpleE a).1.bulk ≤ a.bulk + 1 := by
  unfold simpleE
  split
  · have := simp_bulk a; show (simpF a).bulk ≤ _; omega
  · show noF.bulk ≤ _; rw [no_bulk]; omega
theorem pushE_bulk (a : Fm) : (pushE a).1.bulk ≤ 2 * a.bulk + 1 := by
  unfold pushE
  split
  · split
    · have := (push_bulk a).1; show (pushP a).bulk ≤ _; omega
    · show noF.bulk ≤ _; rw [no_bulk]; omega
  · show noF.bulk ≤ _; rw [no_bulk]; omega
set_option maxRecDepth 100000 in
set_option maxHeartbeats 16000000 in
theorem formulaOrderLaw (vl vm : Value) (l m : List Int) (at' how by' : Int) (w : World) (hl : IntsR (ph w) vl l) (hm : IntsR (ph w) vm m) (_ : l.length ≤ 140737488355328) (_ : m.length ≤ 140737488355328) (i1 : I64 at') (i2 : I64 how) (i3 : I64 by') :
    Calls Tryz.prog 8 #[vl, vm, .int .i64 at', .int .i64 how, .int .i64 by'] w (RetV w (.bool true)) := by
  have hs := some7_c l vl 6 at' how by' w hl (by omega) (by omega) i1 i2 i3
  have hm0 := hm
  obtain ⟨xa, xc, rfl, -, -⟩ := hl.form
  obtain ⟨ya, yc, rfl, -, -⟩ := hm.form
  clear hl hm
  go_enter Tryz.func8, Tryz.ntmps8
  go_wp2_with fail
  refine hs.mono ?_
  rintro e w1 ⟨v, f, g, h, rfl, hx, ⟨hL, lb, rfl⟩, hv, hw, hgb, hhb⟩
  have hb := valid_bulk hv
  clear hs hv hw
  have hs := some07_q m _ 6 5 2 3 w1 rfl (hm0.mono mono_IntR hx.ple) (by omega) (by omega) (by omega) (by omega) (by omega)
  go_wp2_with fail
  refine hs.mono ?_
  rintro e w2 ⟨p, p3, q3, p4, q4, rfl, hx2, hP, -, -, -, hpv⟩
  have hpb := valid_bulk hpv
  replace hx := hx.then hx2
  replace hL := hL.mono mono_FmR hx2.ple
  clear hs hx2 hpv
  have hs := some07_q m _ 6 2 1 2 w2 rfl (hm0.mono mono_IntR hx.ple) (by omega) (by omega) (by omega) (by omega) (by omega)
  go_wp2_with fail
  refine hs.mono ?_
  rintro e w3 ⟨q, r3, s3, r4, s4, rfl, hx3, hQ, -, -, -, hqv⟩
  have hqb := valid_bulk hqv
  replace hx := hx.then hx3
  replace hL := hL.mono mono_FmR hx3.ple
  replace hP := mono_FmR _ _ _ _ hx3.ple hP
  clear hs hx3 hqv hm0
  have hPQ := litN (w := w3) [⟨p, p3, q3, p4, q4, hP⟩, ⟨q, r3, s3, r4, s4, hQ⟩] (by simp)
  have e4 := Ext.new w3 (.cells (fmC p p3 q3 p4 q4 ++ fmC q r3 s3 r4 s4).toArray 29)
  replace hPQ : FmsR (ph (w3.alloc (.cells (fmC p p3 q3 p4 q4 ++ fmC q r3 s3 r4 s4).toArray 29))) (.slice (some ⟨w3.heap.size, 0, none⟩) 2 2) [p, q] := hPQ
  unfold fmC at e4 hPQ
  simp only [List.cons_append, List.nil_append] at e4 hPQ
  replace hL := hL.mono mono_FmR e4.ple
  replace hx := hx.then e4
  clear hP hQ
  go_wp2_with (first | (at_builtin; refine wpList_append_F mono_FmR rfl _ _ 23 rfl Tryz.underlying23 infoFm rfl rfl rfl rfl hL hPQ (by simp) (by simp) (by simp) (by simp) ?c5))
  case c5 =>
  intro v' w5 hx5 hL5
  replace hL5 : FmsR (ph w5) v' [f, g, h, p, q] := hL5
  replace hx := hx.then hx5
  have hall : ∀ x : Fm, x ∈ [f, g, h, p, q] → x.bulk ≤ 15000 := by
    intro x hx
    simp only [List.mem_cons, List.not_mem_nil, or_false] at hx
    rcases hx with rfl | rfl | rfl | rfl | rfl <;> omega
  have hl5 : ([f, g, h, p, q]).length ≤ 5 := by simp
  generalize [f, g, h, p, q] = L at *
  clear hL hPQ hx5 e4 hb hgb hhb hpb hqb
  obtain ⟨la, lc, rfl, -, hL⟩ := hL5.form
  clear hL5
  have hall' : Hid (∀ (k : Nat) (x : Fm), L[k]? = some x → x.bulk ≤ 15000) := by
    show ∀ (k : Nat) (x : Fm), L[k]? = some x → x.bulk ≤ 15000
    intro k x hk
    obtain ⟨hkl, rfl⟩ := List.getElem?_eq_some_iff.1 hk
    exact hall _ (List.getElem_mem hkl)
  have hFI : Hid (∀ (k : Nat) (x : Fm), L[k]? = some x → FmI x) := by
    show ∀ (k : Nat) (x : Fm), L[k]? = some x → FmI x
    intro k x hk
    obtain ⟨b, o, a3, c3, a4, c4, -, -, -, -, -, hE, -⟩ := elemAt hL (PLe.refl _) k hk
    exact hE.i
  clear hall
  have n0 : ((0 : Int) != 0) = false := rfl
  have n1 : ((0 : Int) == 0) = true := rfl
  go_wp2_with fail
  go_loopw [12] (fun vi wr => ∃ i : Nat, i ≤ L.length ∧ vi = .int .i64 i ∧ Ext w5 wr) (fun vi _ => L.length - (intOf vi).toNat)
  case atStart => exact ⟨0, by omega, rfl, Ext.rfl' _⟩
  case round =>
    obtain ⟨i, hi, rfl, hr0⟩ := hrel
    by_cases hil : i < L.length
    · have hia : Hid (L[i]? = some L[i]) := Lib.hid (List.getElem?_eq_getElem hil)
      obtain ⟨a, ha⟩ : ∃ a, L[i] = a := ⟨_, rfl⟩
      rw [ha] at hia
      clear ha
      have hab := hall'.out _ _ hia.out
      have hdi : decide (i < L.length) = true := decide_eq_true hil
      generalize wr = wo at *
      go_wp2_with fail
      go_loopw [13] (fun vj wr => ∃ j : Nat, j ≤ L.length ∧ vj = .int .i64 j ∧ Ext w5 wr) (fun vj _ => L.length - (intOf vj).toNat)
      case atStart => exact ⟨0, by omega, rfl, hr0⟩
      case round =>
        obtain ⟨j, hj, rfl, hr⟩ := hrel
        by_cases hjl : j < L.length
        · have hjb : Hid (L[j]? = some L[j]) := Lib.hid (List.getElem?_eq_getElem hjl)
          obtain ⟨b, hb⟩ : ∃ b, L[j] = b := ⟨_, rfl⟩
          rw [hb] at hjb
          clear hb
          have hbb := hall'.out _ _ hjb.out
          have hdj : decide (j < L.length) = true := decide_eq_true hjl
          obtain ⟨eb, eo, p3, p5, p4, p6, ej, z0, z1, z2, z3, hEa, zl⟩ := elemAt hL hr.ple i hia.out
          cases ej
          obtain ⟨eb, eo, r3, r5, r4, r6, ej, y0, y1, y2, y3, hEb, yl⟩ := elemAt hL hr.ple j hjb.out
          cases ej
          have hsame : B (bytesF a = bytesF b) = (fcmpJ a b == 0) := by
            rw [Bool.eq_iff_iff, B_iff, beq_iff_eq, bytes_inj (hFI.out _ _ hia.out) (hFI.out _ _ hjb.out), fcmpJ_0]
          have k1 := fun W (e : Ext wr W) => fcmpJ_c a b _ _ W (mono_FmR _ _ _ _ e.ple hEa) (mono_FmR _ _ _ _ e.ple hEb)
          have k2 := fun W (e : Ext wr W) => rcmpB_c a b _ _ W (mono_FmR _ _ _ _ e.ple hEa) (mono_FmR _ _ _ _ e.ple hEb) (by omega) (by omega)
          have k3 := fun W (e : Ext wr W) => fcmpJ_c b a _ _ W (mono_FmR _ _ _ _ e.ple hEb) (mono_FmR _ _ _ _ e.ple hEa)
          have k4 := fun W (e : Ext wr W) => rbytes7_c a _ W (mono_FmR _ _ _ _ e.ple hEa) (by omega)
          have k5 := fun W (e : Ext wr W) => rbytes7_c b _ W (mono_FmR _ _ _ _ e.ple hEb) (by omega)
          simp only [cmpF_J] at k2
          obtain ⟨d, hd⟩ : ∃ d, fcmpJ b a = d := ⟨_, rfl⟩
          have hdn := fcmpJ_neg a b
          have hbd := fcmpJ_bd a b
          rw [hd] at k3 hdn
          obtain ⟨c, hc⟩ : ∃ c, fcmpJ a b = c := ⟨_, rfl⟩
          simp only [hc] at k1 k2
          rw [hc] at hdn hbd hsame
          have hwn : IntKind.i64.wrap (-d) = c := by rw [IntKind.wrap_i64]; omega
          have hcc : (c != c) = false := by simp
          have hcb : ((c == 0) != (c == 0)) = false := by simp
          replace hc := Lib.hid hc
          replace hsame := Lib.hid hsame
          unfold fmC at k1 k2 k3 k4 k5
          replace k1 := Lib.hid k1
          replace k2 := Lib.hid k2
          replace k3 := Lib.hid k3
          replace k4 := Lib.hid k4
          replace k5 := Lib.hid k5
          clear hEa hEb hd hdn hbd
          go_upto_region 8 with (fail)
          (refine wp_region_I 10 (by kernel_rfl) (by kernel_rfl) ?_; simp only [List.toList_toArray, List.take_succ_cons, List.take_zero, List.drop_succ_cons, List.drop_zero])
          iterate 8 (refine walkI_is (u := ?_) rfl (by simp) rfl ?_ ?_; rotate_left; (focus (intro A w' hS hA K hK; (simp only [List.map_cons, List.map_nil, knows, Is, Op.operands, Call.operands, List.lookup_cons, List.lookup_nil, Nat.reduceBEq, Bool.false_eq_true, if_false, if_true, Act.eval, Array.getD_eq_getD_getElem?, List.getElem?_toArray, List.getElem?_cons_succ, List.getElem?_cons_zero, Option.getD_some, and_true, true_and, List.append_toArray, List.nil_append, List.cons_append, List.toList_toArray, Array.toList_append, Option.toArray, List.append_nil] at hA); (obtain ⟨hSc, hSf, hSs⟩ := hS.cells; go_simp; exact hK _ (by first | exact Ext.rfl' _ | exact Ext.new _ _ | assumption)))); (try simp only [List.nil_append, List.cons_append]))
          (refine walkI_is (u := ?_) rfl (by simp) rfl ?_ ?_; rotate_left; (focus (intro A w' hS hA K hK; (simp only [List.map_cons, List.map_nil, knows, Is, Op.operands, Call.operands, List.lookup_cons, List.lookup_nil, Nat.reduceBEq, Bool.false_eq_true, if_false, if_true, Act.eval, Array.getD_eq_getD_getElem?, List.getElem?_toArray, List.getElem?_cons_succ, List.getElem?_cons_zero, Option.getD_some, and_true, true_and, List.append_toArray, List.nil_append, List.cons_append, List.toList_toArray, Array.toList_append, Option.toArray, List.append_nil] at hA); first | (go_simp; refine RetV_at (k1.out _ hS) ?_; intro w'' hx''; exact hK _ hx'') | (obtain ⟨hSc, hSf, hSs⟩ := hS.cells; go_simp; exact hK _ (by first | exact Ext.rfl' _ | exact Ext.new _ _ | assumption)))); (try simp only [List.nil_append, List.cons_append]))
          (refine walkI_is (u := ?_) rfl (by simp) rfl ?_ ?_; rotate_left; (focus (intro A w' hS hA K hK; (simp only [List.map_cons, List.map_nil, knows, Is, Op.operands, Call.operands, List.lookup_cons, List.lookup_nil, Nat.reduceBEq, Bool.false_eq_true, if_false, if_true, Act.eval, Array.getD_eq_getD_getElem?, List.getElem?_toArray, List.getElem?_cons_succ, List.getElem?_cons_zero, Option.getD_some, and_true, true_and, List.append_toArray, List.nil_append, List.cons_append, List.toList_toArray, Array.toList_append, Option.toArray, List.append_nil] at hA); (obtain ⟨hSc, hSf, hSs⟩ := hS.cells; go_simp; exact hK _ (by first | exact Ext.rfl' _ | exact Ext.new _ _ | assumption)))); (try simp only [List.nil_append, List.cons_append]))
          (refine walkI_nil ?_; simp only [List.nil_append, List.cons_append, fins, Is, forall_eq, Act.put, List.setIfInBounds_toArray, List.set_cons_zero, List.set_cons_succ])
          intro W1 hx1
          replace z0 := (hx1).cell1 z0
          replace z1 := (hx1).cell1 z1
          replace z2 := (hx1).cell1 z2
          replace z3 := (hx1).cell1 z3
          replace zl := cell_lt z0
          replace y0 := (hx1).cell1 y0
          replace y1 := (hx1).cell1 y1
          replace y2 := (hx1).cell1 y2
          replace y3 := (hx1).cell1 y3
          replace yl := cell_lt y0
          replace k2 := Lib.hid (fun W (e : Ext W1 W) => k2.out W (hx1.then e))
          replace k3 := Lib.hid (fun W (e : Ext W1 W) => k3.out W (hx1.then e))
          replace k4 := Lib.hid (fun W (e : Ext W1 W) => k4.out W (hx1.then e))
          replace k5 := Lib.hid (fun W (e : Ext W1 W) => k5.out W (hx1.then e))
          replace hr := hr.then hx1
          clear hx1 k1
          go_upto_region 9 with (fail)
          (refine wp_region_I 12 (by kernel_rfl) (by kernel_rfl) ?_; simp only [List.toList_toArray, List.take_succ_cons, List.take_zero, List.drop_succ_cons, List.drop_zero])
          iterate 4 (refine walkI_is (u := ?_) rfl (by simp) rfl ?_ ?_; rotate_left; (focus (intro A w' hS hA K hK; (simp only [List.map_cons, List.map_nil, knows, Is, Op.operands, Call.operands, List.lookup_cons, List.lookup_nil, Nat.reduceBEq, Bool.false_eq_true, if_false, if_true, Act.eval, Array.getD_eq_getD_getElem?, List.getElem?_toArray, List.getElem?_cons_succ, List.getElem?_cons_zero, Option.getD_some, and_true, true_and, List.append_toArray, List.nil_append, List.cons_append, List.toList_toArray, Array.toList_append, Option.toArray, List.append_nil] at hA); (obtain ⟨hSc, hSf, hSs⟩ := hS.cells; go_simp; exact hK _ (by first | exact Ext.rfl' _ | exact Ext.new _ _ | assumption)))); (try simp only [List.nil_append, List.cons_append]))
          (refine walkI_step (BytS W1.heap.size (bytesF a)) rfl (by simp) rfl (stab_BytS _ _) ?_ ?_; (focus (intro A w' hS hA K hK; (simp only [List.map_cons, List.map_nil, knows, Is, Op.operands, Call.operands, List.lookup_cons, List.lookup_nil, Nat.reduceBEq, Bool.false_eq_true, if_false, if_true, Act.eval, Array.getD_eq_getD_getElem?, List.getElem?_toArray, List.getElem?_cons_succ, List.getElem?_cons_zero, Option.getD_some, and_true, true_and, List.append_toArray, List.nil_append, List.cons_append, List.toList_toArray, Array.toList_append, Option.toArray, List.append_nil] at hA); (go_simp; refine (k4.out _ hS).mono ?_; rintro e w9 ⟨v, rfl, ho, hx9⟩; exact hK _ _ hx9 (ho.base hS.size)))); (try simp only [List.nil_append, List.cons_append]))
          iterate 4 (refine walkI_is (u := ?_) rfl (by simp) rfl ?_ ?_; rotate_left; (focus (intro A w' hS hA K hK; (simp only [List.map_cons, List.map_nil, knows, Is, Op.operands, Call.operands, List.lookup_cons, List.lookup_nil, Nat.reduceBEq, Bool.false_eq_true, if_false, if_true, Act.eval, Array.getD_eq_getD_getElem?, List.getElem?_toArray, List.getElem?_cons_succ, List.getElem?_cons_zero, Option.getD_some, and_true, true_and, List.append_toArray, List.nil_append, List.cons_append, List.toList_toArray, Array.toList_append, Option.toArray, List.append_nil] at hA); (obtain ⟨hSc, hSf, hSs⟩ := hS.cells; go_simp; exact hK _ (by first | exact Ext.rfl' _ | exact Ext.new _ _ | assumption)))); (try simp only [List.nil_append, List.cons_append]))
          (refine walkI_step (BytS W1.heap.size (bytesF b)) rfl (by simp) rfl (stab_BytS _ _) ?_ ?_; (focus (intro A w' hS hA K hK; (simp only [List.map_cons, List.map_nil, knows, Is, Op.operands, Call.operands, List.lookup_cons, List.lookup_nil, Nat.reduceBEq, Bool.false_eq_true, if_false, if_true, Act.eval, Array.getD_eq_getD_getElem?, List.getElem?_toArray, List.getElem?_cons_succ, List.getElem?_cons_zero, Option.getD_some, and_true, true_and, List.append_toArray, List.nil_append, List.cons_append, List.toList_toArray, Array.toList_append, Option.toArray, List.append_nil] at hA); (go_simp; refine (k5.out _ hS).mono ?_; rintro e w9 ⟨v, rfl, ho, hx9⟩; exact hK _ _ hx9 (ho.base hS.size)))); (try simp only [List.nil_append, List.cons_append]))
          (refine walkI_is (u := ?_) rfl (by simp) rfl ?_ ?_; rotate_left; (focus (intro A w' hS hA K hK; (simp only [List.map_cons, List.map_nil, knows, Is, Op.operands, Call.operands, List.lookup_cons, List.lookup_nil, Nat.reduceBEq, Bool.false_eq_true, if_false, if_true, Act.eval, Array.getD_eq_getD_getElem?, List.getElem?_toArray, List.getElem?_cons_succ, List.getElem?_cons_zero, Option.getD_some, and_true, true_and, List.append_toArray, List.nil_append, List.cons_append, List.toList_toArray, Array.toList_append, Option.toArray, List.append_nil] at hA); first | (obtain ⟨hA1, hA2⟩ := hA; go_simp; refine (sameBytes_c _ _ _ _ _ (hA1.rep mono_ByteR (noH_le _)) (hA2.rep mono_ByteR (noH_le _))).mono ?_; rintro e w9 ⟨rfl, hx9⟩; rw [hsame.out]; exact hK _ hx9) | (obtain ⟨hSc, hSf, hSs⟩ := hS.cells; go_simp; exact hK _ (by first | exact Ext.rfl' _ | exact Ext.new _ _ | assumption)))); (try simp only [List.nil_append, List.cons_append]))
          (refine walkI_is (u := ?_) rfl (by simp) rfl ?_ ?_; rotate_left; (focus (intro A w' hS hA K hK; (simp only [List.map_cons, List.map_nil, knows, Is, Op.operands, Call.operands, List.lookup_cons, List.lookup_nil, Nat.reduceBEq, Bool.false_eq_true, if_false, if_true, Act.eval, Array.getD_eq_getD_getElem?, List.getElem?_toArray, List.getElem?_cons_succ, List.getElem?_cons_zero, Option.getD_some, and_true, true_and, List.append_toArray, List.nil_append, List.cons_append, List.toList_toArray, Array.toList_append, Option.toArray, List.append_nil] at hA); (obtain ⟨hSc, hSf, hSs⟩ := hS.cells; go_simp; exact hK _ (by first | exact Ext.rfl' _ | exact Ext.new _ _ | assumption)))); (try simp only [List.nil_append, List.cons_append]))
          (refine walkI_nil ?_; simp only [List.nil_append, List.cons_append, fins, Is, forall_eq, Act.put, List.setIfInBounds_toArray, List.set_cons_zero, List.set_cons_succ])
          rintro W2 hx2 v61 - v66 -
          replace z0 := (hx2).cell1 z0
          replace z1 := (hx2).cell1 z1
          replace z2 := (hx2).cell1 z2
          replace z3 := (hx2).cell1 z3
          replace zl := cell_lt z0
          replace y0 := (hx2).cell1 y0
          replace y1 := (hx2).cell1 y1
          replace y2 := (hx2).cell1 y2
          replace y3 := (hx2).cell1 y3
          replace yl := cell_lt y0
          replace k2 := Lib.hid (fun W (e : Ext W2 W) => k2.out W (hx2.then e))
          replace k3 := Lib.hid (fun W (e : Ext W2 W) => k3.out W (hx2.then e))
          replace hr := hr.then hx2
          clear hx2 k4 k5 hsame
          go_upto_region 10 with (fail)
          (refine wp_region_I 31 (by kernel_rfl) (by kernel_rfl) ?_; simp only [List.toList_toArray, List.take_succ_cons, List.take_zero, List.drop_succ_cons, List.drop_zero])
          iterate 9 (refine walkI_is (u := ?_) rfl (by simp) rfl ?_ ?_; rotate_left; (focus (intro A w' hS hA K hK; (simp only [List.map_cons, List.map_nil, knows, Is, Op.operands, Call.operands, List.lookup_cons, List.lookup_nil, Nat.reduceBEq, Bool.false_eq_true, if_false, if_true, Act.eval, Array.getD_eq_getD_getElem?, List.getElem?_toArray, List.getElem?_cons_succ, List.getElem?_cons_zero, Option.getD_some, and_true, true_and, List.append_toArray, List.nil_append, List.cons_append, List.toList_toArray, Array.toList_append, Option.toArray, List.append_nil] at hA); (obtain ⟨hSc, hSf, hSs⟩ := hS.cells; go_simp; exact hK _ (by first | exact Ext.rfl' _ | exact Ext.new _ _ | assumption)))); (try simp only [List.nil_append, List.cons_append]))
          (refine walkI_is (u := ?_) rfl (by simp) rfl ?_ ?_; rotate_left; (focus (intro A w' hS hA K hK; (simp only [List.map_cons, List.map_nil, knows, Is, Op.operands, Call.operands, List.lookup_cons, List.lookup_nil, Nat.reduceBEq, Bool.false_eq_true, if_false, if_true, Act.eval, Array.getD_eq_getD_getElem?, List.getElem?_toArray, List.getElem?_cons_succ, List.getElem?_cons_zero, Option.getD_some, and_true, true_and, List.append_toArray, List.nil_append, List.cons_append, List.toList_toArray, Array.toList_append, Option.toArray, List.append_nil] at hA); first | (go_simp; refine RetV_at (k2.out _ hS) ?_; intro w'' hx''; exact hK _ hx'') | (obtain ⟨hSc, hSf, hSs⟩ := hS.cells; go_simp; exact hK _ (by first | exact Ext.rfl' _ | exact Ext.new _ _ | assumption)))); (try simp only [List.nil_append, List.cons_append]))
          iterate 2 (refine walkI_is (u := ?_) rfl (by simp) rfl ?_ ?_; rotate_left; (focus (intro A w' hS hA K hK; (simp only [List.map_cons, List.map_nil, knows, Is, Op.operands, Call.operands, List.lookup_cons, List.lookup_nil, Nat.reduceBEq, Bool.false_eq_true, if_false, if_true, Act.eval, Array.getD_eq_getD_getElem?, List.getElem?_toArray, List.getElem?_cons_succ, List.getElem?_cons_zero, Option.getD_some, and_true, true_and, List.append_toArray, List.nil_append, List.cons_append, List.toList_toArray, Array.toList_append, Option.toArray, List.append_nil] at hA); (obtain ⟨hSc, hSf, hSs⟩ := hS.cells; go_simp; exact hK _ (by first | exact Ext.rfl' _ | exact Ext.new _ _ | assumption)))); (try simp only [List.nil_append, List.cons_append]))
          iterate 9 (refine walkI_yesis (u := ?_) rfl (by simp) rfl rfl rfl ?_ ?_; rotate_left; (focus (intro A w' hS hA K hK; (simp only [List.map_cons, List.map_nil, knows, Is, Op.operands, Call.operands, List.lookup_cons, List.lookup_nil, Nat.reduceBEq, Bool.false_eq_true, if_false, if_true, Act.eval, Array.getD_eq_getD_getElem?, List.getElem?_toArray, List.getElem?_cons_succ, List.getElem?_cons_zero, Option.getD_some, and_true, true_and, List.append_toArray, List.nil_append, List.cons_append, List.toList_toArray, Array.toList_append, Option.toArray, List.append_nil] at hA); (obtain ⟨hSc, hSf, hSs⟩ := hS.cells; go_simp; exact hK _ (by first | exact Ext.rfl' _ | exact Ext.new _ _ | assumption)))); (try simp only [List.nil_append, List.cons_append]))
          (refine walkI_yesis (u := ?_) rfl (by simp) rfl rfl rfl ?_ ?_; rotate_left; (focus (intro A w' hS hA K hK; (simp only [List.map_cons, List.map_nil, knows, Is, Op.operands, Call.operands, List.lookup_cons, List.lookup_nil, Nat.reduceBEq, Bool.false_eq_true, if_false, if_true, Act.eval, Array.getD_eq_getD_getElem?, List.getElem?_toArray, List.getElem?_cons_succ, List.getElem?_cons_zero, Option.getD_some, and_true, true_and, List.append_toArray, List.nil_append, List.cons_append, List.toList_toArray, Array.toList_append, Option.toArray, List.append_nil] at hA); first | (go_simp; refine RetV_at (k3.out _ hS) ?_; intro w'' hx''; exact hK _ hx'') | (obtain ⟨hSc, hSf, hSs⟩ := hS.cells; go_simp; exact hK _ (by first | exact Ext.rfl' _ | exact Ext.new _ _ | assumption)))); (try simp only [List.nil_append, List.cons_append]))
          iterate 2 (refine walkI_yesis (u := ?_) rfl (by simp) rfl rfl rfl ?_ ?_; rotate_left; (focus (intro A w' hS hA K hK; (simp only [List.map_cons, List.map_nil, knows, Is, Op.operands, Call.operands, List.lookup_cons, List.lookup_nil, Nat.reduceBEq, Bool.false_eq_true, if_false, if_true, Act.eval, Array.getD_eq_getD_getElem?, List.getElem?_toArray, List.getElem?_cons_succ, List.getElem?_cons_zero, Option.getD_some, and_true, true_and, List.append_toArray, List.nil_append, List.cons_append, List.toList_toArray, Array.toList_append, Option.toArray, List.append_nil] at hA); (obtain ⟨hSc, hSf, hSs⟩ := hS.cells; go_simp; exact hK _ (by first | exact Ext.rfl' _ | exact Ext.new _ _ | assumption)))); (try simp only [List.nil_append, List.cons_append]))
          iterate 2 (refine walkI_is (u := ?_) rfl (by simp) rfl ?_ ?_; rotate_left; (focus (intro A w' hS hA K hK; (simp only [List.map_cons, List.map_nil, knows, Is, Op.operands, Call.operands, List.lookup_cons, List.lookup_nil, Nat.reduceBEq, Bool.false_eq_true, if_false, if_true, Act.eval, Array.getD_eq_getD_getElem?, List.getElem?_toArray, List.getElem?_cons_succ, List.getElem?_cons_zero, Option.getD_some, and_true, true_and, List.append_toArray, List.nil_append, List.cons_append, List.toList_toArray, Array.toList_append, Option.toArray, List.append_nil] at hA); (obtain ⟨hSc, hSf, hSs⟩ := hS.cells; go_simp; exact hK _ (by first | exact Ext.rfl' _ | exact Ext.new _ _ | assumption)))); (try simp only [List.nil_append, List.cons_append]))
          iterate 4 (refine walkI_yesis (u := ?_) rfl (by simp) rfl rfl rfl ?_ ?_; rotate_left; (focus (intro A w' hS hA K hK; (simp only [List.map_cons, List.map_nil, knows, Is, Op.operands, Call.operands, List.lookup_cons, List.lookup_nil, Nat.reduceBEq, Bool.false_eq_true, if_false, if_true, Act.eval, Array.getD_eq_getD_getElem?, List.getElem?_toArray, List.getElem?_cons_succ, List.getElem?_cons_zero, Option.getD_some, and_true, true_and, List.append_toArray, List.nil_append, List.cons_append, List.toList_toArray, Array.toList_append, Option.toArray, List.append_nil] at hA); (obtain ⟨hSc, hSf, hSs⟩ := hS.cells; go_simp; exact hK _ (by first | exact Ext.rfl' _ | exact Ext.new _ _ | assumption)))); (try simp only [List.nil_append, List.cons_append]))
          (refine walkI_is (u := ?_) rfl (by simp) rfl ?_ ?_; rotate_left; (focus (intro A w' hS hA K hK; (simp only [List.map_cons, List.map_nil, knows, Is, Op.operands, Call.operands, List.lookup_cons, List.lookup_nil, Nat.reduceBEq, Bool.false_eq_true, if_false, if_true, Act.eval, Array.getD_eq_getD_getElem?, List.getElem?_toArray, List.getElem?_cons_succ, List.getElem?_cons_zero, Option.getD_some, and_true, true_and, List.append_toArray, List.nil_append, List.cons_append, List.toList_toArray, Array.toList_append, Option.toArray, List.append_nil] at hA); (obtain ⟨hSc, hSf, hSs⟩ := hS.cells; go_simp; exact hK _ (by first | exact Ext.rfl' _ | exact Ext.new _ _ | assumption)))); (try simp only [List.nil_append, List.cons_append]))
          (refine walkI_nil ?_; simp only [List.nil_append, List.cons_append, fins, Is, forall_eq, Act.put, List.setIfInBounds_toArray, List.set_cons_zero, List.set_cons_succ])
          intro W3 hx3
          replace hr := hr.then hx3
          clear hx3 z0 z1 z2 z3 zl y0 y1 y2 y3 yl k2 k3 hwn hcc hcb
          generalize wr = wj at *
          go_wp2_with fail
          go_loopw [16] (fun vj wr => ∃ x : Nat, x ≤ L.length ∧ vj = .int .i64 x ∧ Ext w5 wr) (fun vj _ => L.length - (intOf vj).toNat)
          case atStart => exact ⟨0, by omega, rfl, hr⟩
          case round =>
            obtain ⟨x, hxx, rfl, hr⟩ := hrel
            by_cases hxl : x < L.length
            · have hxe : Hid (L[x]? = some L[x]) := Lib.hid (List.getElem?_eq_getElem hxl)
              obtain ⟨e, he⟩ : ∃ e, L[x] = e := ⟨_, rfl⟩
              rw [he] at hxe
              clear he
              have hdx : decide (x < L.length) = true := decide_eq_true hxl
              obtain ⟨eb, eo, p3, p5, p4, p6, ej, z0, z1, z2, z3, hEa, zl⟩ := elemAt hL hr.ple i hia.out
              cases ej
              obtain ⟨eb, eo, r3, r5, r4, r6, ej, y0, y1, y2, y3, hEb, yl⟩ := elemAt hL hr.ple j hjb.out
              cases ej
              obtain ⟨eb, eo, m3, m5, m4, m6, ej, x0, x1, x2, x3, hEe, xl⟩ := elemAt hL hr.ple x hxe.out
              cases ej
              have k1 := Lib.hid (fun W (h : Ext wr W) => fcmpJ_c b e _ _ W (mono_FmR _ _ _ _ h.ple hEb) (mono_FmR _ _ _ _ h.ple hEe))
              have k2 := Lib.hid (fun W (h : Ext wr W) => fcmpJ_c a e _ _ W (mono_FmR _ _ _ _ h.ple hEa) (mono_FmR _ _ _ _ h.ple hEe))
              have hlaw : c ≤ 0 → fcmpJ b e ≤ 0 → ¬ 0 < fcmpJ a e := fun h1 h2 => by
                have := fcmpJ_le (a := a) (b := b) (c := e) (by rw [hc.out]; exact h1) h2
                omega
              generalize fcmpJ b e = c1 at *
              generalize fcmpJ a e = c2 at *
              unfold fmC at k1 k2
              clear hEa hEb hEe
              by_cases h1 : c ≤ 0
              · have b1 : decide (c ≤ 0) = true := decide_eq_true h1
                by_cases h2 : c1 ≤ 0
                · have b2 : decide (c1 ≤ 0) = true := decide_eq_true h2
                  have b3 : decide (0 < c2) = false := decide_eq_false (hlaw h1 h2)
                  clear hlaw h1 h2
                  go_upto_region 15 with (fail)
                  (refine wp_region_I 26 (by kernel_rfl) (by kernel_rfl) ?_; simp only [List.toList_toArray, List.take_succ_cons, List.take_zero, List.drop_succ_cons, List.drop_zero])
                  (repeat (first | (refine walkI_no rfl (by simp) rfl rfl rfl ?_ ?_; (focus (simp [undef]; done)); (try simp only [List.nil_append, List.cons_append])) | (refine walkI_is (u := ?_) rfl (by simp) rfl ?_ ?_; rotate_left; (focus (intro A w' hS hA K hK; (simp only [List.map_cons, List.map_nil, knows, Is, Op.operands, Call.operands, List.lookup_cons, List.lookup_nil, Nat.reduceBEq, Bool.false_eq_true, if_false, if_true, Act.eval, Array.getD_eq_getD_getElem?, List.getElem?_toArray, List.getElem?_cons_succ, List.getElem?_cons_zero, Option.getD_some, and_true, true_and, List.append_toArray, List.nil_append, List.cons_append, List.toList_toArray, Array.toList_append, Option.toArray, List.append_nil] at hA); (obtain ⟨hSc, hSf, hSs⟩ := hS.cells; go_simp; exact hK _ (by first | exact Ext.rfl' _ | exact Ext.new _ _ | assumption)))); (try simp only [List.nil_append, List.cons_append])) | (refine walkI_yesis (u := ?_) rfl (by simp) rfl rfl rfl ?_ ?_; rotate_left; (focus (intro A w' hS hA K hK; (simp only [List.map_cons, List.map_nil, knows, Is, Op.operands, Call.operands, List.lookup_cons, List.lookup_nil, Nat.reduceBEq, Bool.false_eq_true, if_false, if_true, Act.eval, Array.getD_eq_getD_getElem?, List.getElem?_toArray, List.getElem?_cons_succ, List.getElem?_cons_zero, Option.getD_some, and_true, true_and, List.append_toArray, List.nil_append, List.cons_append, List.toList_toArray, Array.toList_append, Option.toArray, List.append_nil] at hA); (obtain ⟨hSc, hSf, hSs⟩ := hS.cells; go_simp; exact hK _ (by first | exact Ext.rfl' _ | exact Ext.new _ _ | assumption)))); (try simp only [List.nil_append, List.cons_append]))))
                  (refine walkI_yesis (u := ?_) rfl (by simp) rfl rfl rfl ?_ ?_; rotate_left; (focus (intro A w' hS hA K hK; (simp only [List.map_cons, List.map_nil, knows, Is, Op.operands, Call.operands, List.lookup_cons, List.lookup_nil, Nat.reduceBEq, Bool.false_eq_true, if_false, if_true, Act.eval, Array.getD_eq_getD_getElem?, List.getElem?_toArray, List.getElem?_cons_succ, List.getElem?_cons_zero, Option.getD_some, and_true, true_and, List.append_toArray, List.nil_append, List.cons_append, List.toList_toArray, Array.toList_append, Option.toArray, List.append_nil] at hA); first | (go_simp; refine RetV_at (k1.out _ hS) ?_; intro w'' hx''; exact hK _ hx'') | (obtain ⟨hSc, hSf, hSs⟩ := hS.cells; go_simp; exact hK _ (by first | exact Ext.rfl' _ | exact Ext.new _ _ | assumption)))); (try simp only [List.nil_append, List.cons_append]))
                  (repeat (first | (refine walkI_no rfl (by simp) rfl rfl rfl ?_ ?_; (focus (simp [undef]; done)); (try simp only [List.nil_append, List.cons_append])) | (refine walkI_is (u := ?_) rfl (by simp) rfl ?_ ?_; rotate_left; (focus (intro A w' hS hA K hK; (simp only [List.map_cons, List.map_nil, knows, Is, Op.operands, Call.operands, List.lookup_cons, List.lookup_nil, Nat.reduceBEq, Bool.false_eq_true, if_false, if_true, Act.eval, Array.getD_eq_getD_getElem?, List.getElem?_toArray, List.getElem?_cons_succ, List.getElem?_cons_zero, Option.getD_some, and_true, true_and, List.append_toArray, List.nil_append, List.cons_append, List.toList_toArray, Array.toList_append, Option.toArray, List.append_nil] at hA); (obtain ⟨hSc, hSf, hSs⟩ := hS.cells; go_simp; exact hK _ (by first | exact Ext.rfl' _ | exact Ext.new _ _ | assumption)))); (try simp only [List.nil_append, List.cons_append])) | (refine walkI_yesis (u := ?_) rfl (by simp) rfl rfl rfl ?_ ?_; rotate_left; (focus (intro A w' hS hA K hK; (simp only [List.map_cons, List.map_nil, knows, Is, Op.operands, Call.operands, List.lookup_cons, List.lookup_nil, Nat.reduceBEq, Bool.false_eq_true, if_false, if_true, Act.eval, Array.getD_eq_getD_getElem?, List.getElem?_toArray, List.getElem?_cons_succ, List.getElem?_cons_zero, Option.getD_some, and_true, true_and, List.append_toArray, List.nil_append, List.cons_append, List.toList_toArray, Array.toList_append, Option.toArray, List.append_nil] at hA); (obtain ⟨hSc, hSf, hSs⟩ := hS.cells; go_simp; exact hK _ (by first | exact Ext.rfl' _ | exact Ext.new _ _ | assumption)))); (try simp only [List.nil_append, List.cons_append]))))
                  (refine walkI_yesis (u := ?_) rfl (by simp) rfl rfl rfl ?_ ?_; rotate_left; (focus (intro A w' hS hA K hK; (simp only [List.map_cons, List.map_nil, knows, Is, Op.operands, Call.operands, List.lookup_cons, List.lookup_nil, Nat.reduceBEq, Bool.false_eq_true, if_false, if_true, Act.eval, Array.getD_eq_getD_getElem?, List.getElem?_toArray, List.getElem?_cons_succ, List.getElem?_cons_zero, Option.getD_some, and_true, true_and, List.append_toArray, List.nil_append, List.cons_append, List.toList_toArray, Array.toList_append, Option.toArray, List.append_nil] at hA); first | (go_simp; refine RetV_at (k2.out _ hS) ?_; intro w'' hx''; exact hK _ hx'') | (obtain ⟨hSc, hSf, hSs⟩ := hS.cells; go_simp; exact hK _ (by first | exact Ext.rfl' _ | exact Ext.new _ _ | assumption)))); (try simp only [List.nil_append, List.cons_append]))
                  (repeat (first | (refine walkI_no rfl (by simp) rfl rfl rfl ?_ ?_; (focus (simp [undef]; done)); (try simp only [List.nil_append, List.cons_append])) | (refine walkI_is (u := ?_) rfl (by simp) rfl ?_ ?_; rotate_left; (focus (intro A w' hS hA K hK; (simp only [List.map_cons, List.map_nil, knows, Is, Op.operands, Call.operands, List.lookup_cons, List.lookup_nil, Nat.reduceBEq, Bool.false_eq_true, if_false, if_true, Act.eval, Array.getD_eq_getD_getElem?, List.getElem?_toArray, List.getElem?_cons_succ, List.getElem?_cons_zero, Option.getD_some, and_true, true_and, List.append_toArray, List.nil_append, List.cons_append, List.toList_toArray, Array.toList_append, Option.toArray, List.append_nil] at hA); (obtain ⟨hSc, hSf, hSs⟩ := hS.cells; go_simp; exact hK _ (by first | exact Ext.rfl' _ | exact Ext.new _ _ | assumption)))); (try simp only [List.nil_append, List.cons_append])) | (refine walkI_yesis (u := ?_) rfl (by simp) rfl rfl rfl ?_ ?_; rotate_left; (focus (intro A w' hS hA K hK; (simp only [List.map_cons, List.map_nil, knows, Is, Op.operands, Call.operands, List.lookup_cons, List.lookup_nil, Nat.reduceBEq, Bool.false_eq_true, if_false, if_true, Act.eval, Array.getD_eq_getD_getElem?, List.getElem?_toArray, List.getElem?_cons_succ, List.getElem?_cons_zero, Option.getD_some, and_true, true_and, List.append_toArray, List.nil_append, List.cons_append, List.toList_toArray, Array.toList_append, Option.toArray, List.append_nil] at hA); (obtain ⟨hSc, hSf, hSs⟩ := hS.cells; go_simp; exact hK _ (by first | exact Ext.rfl' _ | exact Ext.new _ _ | assumption)))); (try simp only [List.nil_append, List.cons_append]))))
                  (refine walkI_nil ?_; simp only [List.nil_append, List.cons_append, fins, Is, forall_eq, Act.put, List.setIfInBounds_toArray, List.set_cons_zero, List.set_cons_succ])
                  intro W4 hx4
                  clear z0 z1 z2 z3 zl y0 y1 y2 y3 yl x0 x1 x2 x3 xl k1 k2
                  go_wp2_with fail
                  go_roundw
                  case rel => exact ⟨x + 1, by omega, by go_num, hr.then hx4⟩
                  case measure => simp [intOf]; omega
                · have b2 : decide (c1 ≤ 0) = false := decide_eq_false h2
                  clear hlaw h1 h2
                  go_upto_region 15 with (fail)
                  (refine wp_region_I 26 (by kernel_rfl) (by kernel_rfl) ?_; simp only [List.toList_toArray, List.take_succ_cons, List.take_zero, List.drop_succ_cons, List.drop_zero])
                  (repeat (first | (refine walkI_no rfl (by simp) rfl rfl rfl ?_ ?_; (focus (simp [undef]; done)); (try simp only [List.nil_append, List.cons_append])) | (refine walkI_is (u := ?_) rfl (by simp) rfl ?_ ?_; rotate_left; (focus (intro A w' hS hA K hK; (simp only [List.map_cons, List.map_nil, knows, Is, Op.operands, Call.operands, List.lookup_cons, List.lookup_nil, Nat.reduceBEq, Bool.false_eq_true, if_false, if_true, Act.eval, Array.getD_eq_getD_getElem?, List.getElem?_toArray, List.getElem?_cons_succ, List.getElem?_cons_zero, Option.getD_some, and_true, true_and, List.append_toArray, List.nil_append, List.cons_append, List.toList_toArray, Array.toList_append, Option.toArray, List.append_nil] at hA); (obtain ⟨hSc, hSf, hSs⟩ := hS.cells; go_simp; exact hK _ (by first | exact Ext.rfl' _ | exact Ext.new _ _ | assumption)))); (try simp only [List.nil_append, List.cons_append])) | (refine walkI_yesis (u := ?_) rfl (by simp) rfl rfl rfl ?_ ?_; rotate_left; (focus (intro A w' hS hA K hK; (simp only [List.map_cons, List.map_nil, knows, Is, Op.operands, Call.operands, List.lookup_cons, List.lookup_nil, Nat.reduceBEq, Bool.false_eq_true, if_false, if_true, Act.eval, Array.getD_eq_getD_getElem?, List.getElem?_toArray, List.getElem?_cons_succ, List.getElem?_cons_zero, Option.getD_some, and_true, true_and, List.append_toArray, List.nil_append, List.cons_append, List.toList_toArray, Array.toList_append, Option.toArray, List.append_nil] at hA); (obtain ⟨hSc, hSf, hSs⟩ := hS.cells; go_simp; exact hK _ (by first | exact Ext.rfl' _ | exact Ext.new _ _ | assumption)))); (try simp only [List.nil_append, List.cons_append]))))
                  (refine walkI_yesis (u := ?_) rfl (by simp) rfl rfl rfl ?_ ?_; rotate_left; (focus (intro A w' hS hA K hK; (simp only [List.map_cons, List.map_nil, knows, Is, Op.operands, Call.operands, List.lookup_cons, List.lookup_nil, Nat.reduceBEq, Bool.false_eq_true, if_false, if_true, Act.eval, Array.getD_eq_getD_getElem?, List.getElem?_toArray, List.getElem?_cons_succ, List.getElem?_cons_zero, Option.getD_some, and_true, true_and, List.append_toArray, List.nil_append, List.cons_append, List.toList_toArray, Array.toList_append, Option.toArray, List.append_nil] at hA); first | (go_simp; refine RetV_at (k1.out _ hS) ?_; intro w'' hx''; exact hK _ hx'') | (obtain ⟨hSc, hSf, hSs⟩ := hS.cells; go_simp; exact hK _ (by first | exact Ext.rfl' _ | exact Ext.new _ _ | assumption)))); (try simp only [List.nil_append, List.cons_append]))
                  (repeat (first | (refine walkI_no rfl (by simp) rfl rfl rfl ?_ ?_; (focus (simp [undef]; done)); (try simp only [List.nil_append, List.cons_append])) | (refine walkI_is (u := ?_) rfl (by simp) rfl ?_ ?_; rotate_left; (focus (intro A w' hS hA K hK; (simp only [List.map_cons, List.map_nil, knows, Is, Op.operands, Call.operands, List.lookup_cons, List.lookup_nil, Nat.reduceBEq, Bool.false_eq_true, if_false, if_true, Act.eval, Array.getD_eq_getD_getElem?, List.getElem?_toArray, List.getElem?_cons_succ, List.getElem?_cons_zero, Option.getD_some, and_true, true_and, List.append_toArray, List.nil_append, List.cons_append, List.toList_toArray, Array.toList_append, Option.toArray, List.append_nil] at hA); (obtain ⟨hSc, hSf, hSs⟩ := hS.cells; go_simp; exact hK _ (by first | exact Ext.rfl' _ | exact Ext.new _ _ | assumption)))); (try simp only [List.nil_append, List.cons_append])) | (refine walkI_yesis (u := ?_) rfl (by simp) rfl rfl rfl ?_ ?_; rotate_left; (focus (intro A w' hS hA K hK; (simp only [List.map_cons, List.map_nil, knows, Is, Op.operands, Call.operands, List.lookup_cons, List.lookup_nil, Nat.reduceBEq, Bool.false_eq_true, if_false, if_true, Act.eval, Array.getD_eq_getD_getElem?, List.getElem?_toArray, List.getElem?_cons_succ, List.getElem?_cons_zero, Option.getD_some, and_true, true_and, List.append_toArray, List.nil_append, List.cons_append, List.toList_toArray, Array.toList_append, Option.toArray, List.append_nil] at hA); (obtain ⟨hSc, hSf, hSs⟩ := hS.cells; go_simp; exact hK _ (by first | exact Ext.rfl' _ | exact Ext.new _ _ | assumption)))); (try simp only [List.nil_append, List.cons_append]))))
                  (refine walkI_nil ?_; simp only [List.nil_append, List.cons_append, fins, Is, forall_eq, Act.put, List.setIfInBounds_toArray, List.set_cons_zero, List.set_cons_succ])
                  intro W4 hx4
                  clear z0 z1 z2 z3 zl y0 y1 y2 y3 yl x0 x1 x2 x3 xl k1 k2
                  go_wp2_with fail
                  go_roundw
                  case rel => exact ⟨x + 1, by omega, by go_num, hr.then hx4⟩
                  case measure => simp [intOf]; omega
              · have b1 : decide (c ≤ 0) = false := decide_eq_false h1
                clear hlaw h1
                go_upto_region 15 with (fail)
                (refine wp_region_I 26 (by kernel_rfl) (by kernel_rfl) ?_; simp only [List.toList_toArray, List.take_succ_cons, List.take_zero, List.drop_succ_cons, List.drop_zero])
                (repeat (first | (refine walkI_no rfl (by simp) rfl rfl rfl ?_ ?_; (focus (simp [undef]; done)); (try simp only [List.nil_append, List.cons_append])) | (refine walkI_is (u := ?_) rfl (by simp) rfl ?_ ?_; rotate_left; (focus (intro A w' hS hA K hK; (simp only [List.map_cons, List.map_nil, knows, Is, Op.operands, Call.operands, List.lookup_cons, List.lookup_nil, Nat.reduceBEq, Bool.false_eq_true, if_false, if_true, Act.eval, Array.getD_eq_getD_getElem?, List.getElem?_toArray, List.getElem?_cons_succ, List.getElem?_cons_zero, Option.getD_some, and_true, true_and, List.append_toArray, List.nil_append, List.cons_append, List.toList_toArray, Array.toList_append, Option.toArray, List.append_nil] at hA); (obtain ⟨hSc, hSf, hSs⟩ := hS.cells; go_simp; exact hK _ (by first | exact Ext.rfl' _ | exact Ext.new _ _ | assumption)))); (try simp only [List.nil_append, List.cons_append])) | (refine walkI_yesis (u := ?_) rfl (by simp) rfl rfl rfl ?_ ?_; rotate_left; (focus (intro A w' hS hA K hK; (simp only [List.map_cons, List.map_nil, knows, Is, Op.operands, Call.operands, List.lookup_cons, List.lookup_nil, Nat.reduceBEq, Bool.false_eq_true, if_false, if_true, Act.eval, Array.getD_eq_getD_getElem?, List.getElem?_toArray, List.getElem?_cons_succ, List.getElem?_cons_zero, Option.getD_some, and_true, true_and, List.append_toArray, List.nil_append, List.cons_append, List.toList_toArray, Array.toList_append, Option.toArray, List.append_nil] at hA); (obtain ⟨hSc, hSf, hSs⟩ := hS.cells; go_simp; exact hK _ (by first | exact Ext.rfl' _ | exact Ext.new _ _ | assumption)))); (try simp only [List.nil_append, List.cons_append]))))
                (refine walkI_nil ?_; simp only [List.nil_append, List.cons_append, fins, Is, forall_eq, Act.put, List.setIfInBounds_toArray, List.set_cons_zero, List.set_cons_succ])
                intro W4 hx4
                clear z0 z1 z2 z3 zl y0 y1 y2 y3 yl x0 x1 x2 x3 xl k1 k2
                go_wp2_with fail
                go_roundw
                case rel => exact ⟨x + 1, by omega, by go_num, hr.then hx4⟩
                case measure => simp [intOf]; omega
            · obtain rfl : x = L.length := by omega
              have hdx : decide (L.length < L.length) = false := by simp
              go_wp2_with fail
              go_roundw
              case rel => exact ⟨j + 1, by omega, by go_num, hr⟩
              case measure => simp [intOf]; omega
        · obtain rfl : j = L.length := by omega
          have hdj : decide (L.length < L.length) = false := by simp
          have hEb0 := simpleE_bulk a
          have hEb1 := pushE_bulk a
          have hse2 := simple_e2 (f := a)
          have hpe2 := push_e2 (f := a)
          obtain ⟨eb, eo, p3, p5, p4, p6, ej, z0, z1, z2, z3, hEa, zl⟩ := elemAt hL hr.ple i hia.out
          cases ej
          have k1 := fsimple_c a (fmC a p3 p5 p4 p6) wr hEa (by omega)
          have k2 := fun W cs (h : FmR (ph W) cs a) => fpush_c a cs W h (by omega)
          generalize simpleE a = SE at *
          generalize pushE a = PE at *
          obtain ⟨sa, se⟩ := SE
          obtain ⟨pa, pe⟩ := PE
          dsimp only at hEb0 hEb1 hse2 hpe2
          replace hse2 := Lib.hid hse2
          replace hpe2 := Lib.hid hpe2
          replace k2 := Lib.hid k2
          clear hEa
          generalize wr = W0 at *
          go_wp2_with fail
          refine k1.mono ?_
          rintro e W1 ⟨s3, w3, s4, w4, rfl, hx1, hSa⟩
          dsimp only at hSa ⊢
          have e17 := Ext.new W1 (.cells #[.int .i64 (sa).op, .int .i64 (sa).n, .slice s3 (sa).inn.length w3, .slice s4 (sa).kids.length w4] 29)
          have o17 := Proofs.YtbpilielamjnoaaGreat.Own.new W1 #[.int .i64 (sa).op, .int .i64 (sa).n, .slice s3 (sa).inn.length w3, .slice s4 (sa).kids.length w4] 29
          replace hx1 := hx1.then e17
          replace hSa := mono_FmR _ _ _ _ e17.ple hSa
          replace hr := hr.then hx1
          clear k1 z0 z1 z2 z3 zl
          go_upto_region 18 with (fail)
          generalize W1.alloc _ = W2 at *
          generalize W1.heap.size = g17 at *
          clear e17 hx1
          obtain ⟨eb, eo, m3, m5, m4, m6, ej, z0, z1, z2, z3, hEa, zl⟩ := elemAt hL hr.ple i hia.out
          cases ej
          have k3 := k2.out W2 _ hEa
          clear k2 hEa
          go_wp2_with fail
          refine k3.mono ?_
          rintro e W3 ⟨t3, w3', t4, w4', rfl, hx3, hPa⟩
          dsimp only at hPa ⊢
          have e19 := Ext.new W3 (.cells #[.int .i64 (pa).op, .int .i64 (pa).n, .slice t3 (pa).inn.length w3', .slice t4 (pa).kids.length w4'] 29)
          have o19 := Proofs.YtbpilielamjnoaaGreat.Own.new W3 #[.int .i64 (pa).op, .int .i64 (pa).n, .slice t3 (pa).inn.length w3', .slice t4 (pa).kids.length w4'] 29
          replace hx3 := hx3.then e19
          replace hPa := mono_FmR _ _ _ _ e19.ple hPa
          replace hSa := mono_FmR _ _ _ _ hx3.ple hSa
          replace o17 := o17.keep hx3
          replace hr := hr.then hx3
          clear k3 z0 z1 z2 z3 zl
          go_upto_region 19 with (fail)
          generalize W3.alloc _ = W4 at *
          generalize W3.heap.size = g19 at *
          clear e19 hx3
          by_cases hs0 : se = 0
          · subst hs0
            have hS2 := hse2.out rfl
            replace hpe2 : pe = 0 → pushE pa = (pa, 0) := hpe2.out
            have u0 : (W4).cell? ⟨_, 0, none⟩ = some (.int .i64 (sa).op) := (o17).facts.1 0
            have u1 : (W4).cell? ⟨_, 1, none⟩ = some (.int .i64 (sa).n) := (o17).facts.1 1
            have u2 : (W4).cell? ⟨_, 2, none⟩ = some (.slice s3 (sa).inn.length w3) := (o17).facts.1 2
            have u3 : (W4).cell? ⟨_, 3, none⟩ = some (.slice s4 (sa).kids.length w4) := (o17).facts.1 3
            have ul := (o17).lt
            have q1 := fsimple_c sa (fmC sa s3 w3 s4 w4) W4 hSa (by omega)
            rw [hS2] at q1
            go_wp2_with fail
            refine q1.mono ?_
            rintro e X1 ⟨d3, e3, d4, e4, rfl, hy1, hR2⟩
            dsimp only at hR2 ⊢
            have oX := Proofs.YtbpilielamjnoaaGreat.Own.new X1 #[.int .i64 (sa).op, .int .i64 (sa).n, .slice d3 (sa).inn.length e3, .slice d4 (sa).kids.length e4] 29
            have eX := Ext.new X1 (.cells #[.int .i64 (sa).op, .int .i64 (sa).n, .slice d3 (sa).inn.length e3, .slice d4 (sa).kids.length e4] 29)
            replace hy1 := hy1.then eX
            replace hR2 := mono_FmR _ _ _ _ eX.ple hR2
            have hR1 := mono_FmR _ _ _ _ hy1.ple hSa
            replace o17 := (o17).keep hy1
            clear u0 u1 u2 u3 ul q1
            go_upto_region 21 with (fail)
            generalize X1.alloc _ = X2 at *
            generalize X1.heap.size = gX at *
            clear eX
            have u0 : X2.cell? ⟨_, 0, none⟩ = some (.int .i64 (sa).op) := (o17).facts.1 0
            have u1 : X2.cell? ⟨_, 1, none⟩ = some (.int .i64 (sa).n) := (o17).facts.1 1
            have u2 : X2.cell? ⟨_, 2, none⟩ = some (.slice s3 (sa).inn.length w3) := (o17).facts.1 2
            have u3 : X2.cell? ⟨_, 3, none⟩ = some (.slice s4 (sa).kids.length w4) := (o17).facts.1 3
            have ul := (o17).lt
            have v0 : X2.cell? ⟨gX, 0, none⟩ = some (.int .i64 (sa).op) := oX.facts.1 0
            have v1 : X2.cell? ⟨gX, 1, none⟩ = some (.int .i64 (sa).n) := oX.facts.1 1
            have v2 : X2.cell? ⟨gX, 2, none⟩ = some (.slice d3 (sa).inn.length e3) := oX.facts.1 2
            have v3 : X2.cell? ⟨gX, 3, none⟩ = some (.slice d4 (sa).kids.length e4) := oX.facts.1 3
            have vl := oX.lt
            have q2 := fcmpJ_c sa sa _ _ X2 hR1 hR2
            rw [fcmpJ_0.2 rfl] at q2
            clear hR1 hR2 oX
            go_wp2_with fail
            refine RetV_at q2 ?_
            intro X3 hy3
            clear u0 u1 u2 u3 ul v0 v1 v2 v3 vl q2
            replace hy1 := hy1.then hy3
            clear hy3
            replace hr := hr.then hy1
            replace hPa := mono_FmR _ _ _ _ hy1.ple hPa
            replace o19 := o19.keep hy1
            clear hy1 o17 hSa hS2
            go_upto_region 23 with (fail)
            by_cases hp0 : pe = 0
            · subst hp0
              have hP2 := hpe2 rfl
              have u0 : (X3).cell? ⟨_, 0, none⟩ = some (.int .i64 (pa).op) := (o19).facts.1 0
              have u1 : (X3).cell? ⟨_, 1, none⟩ = some (.int .i64 (pa).n) := (o19).facts.1 1
              have u2 : (X3).cell? ⟨_, 2, none⟩ = some (.slice t3 (pa).inn.length w3') := (o19).facts.1 2
              have u3 : (X3).cell? ⟨_, 3, none⟩ = some (.slice t4 (pa).kids.length w4') := (o19).facts.1 3
              have ul := (o19).lt
              have q1 := fpush_c pa (fmC pa t3 w3' t4 w4') X3 hPa (by omega)
              rw [hP2] at q1
              go_wp2_with fail
              refine q1.mono ?_
              rintro e X1 ⟨d3, e3, d4, e4, rfl, hy1, hR2⟩
              dsimp only at hR2 ⊢
              have oX := Proofs.YtbpilielamjnoaaGreat.Own.new X1 #[.int .i64 (pa).op, .int .i64 (pa).n, .slice d3 (pa).inn.length e3, .slice d4 (pa).kids.length e4] 29
              have eX := Ext.new X1 (.cells #[.int .i64 (pa).op, .int .i64 (pa).n, .slice d3 (pa).inn.length e3, .slice d4 (pa).kids.length e4] 29)
              replace hy1 := hy1.then eX
              replace hR2 := mono_FmR _ _ _ _ eX.ple hR2
              have hR1 := mono_FmR _ _ _ _ hy1.ple hPa
              replace o19 := (o19).keep hy1
              clear u0 u1 u2 u3 ul q1
              go_upto_region 25 with (fail)
              generalize X1.alloc _ = X2 at *
              generalize X1.heap.size = gX at *
              clear eX
              have u0 : X2.cell? ⟨_, 0, none⟩ = some (.int .i64 (pa).op) := (o19).facts.1 0
              have u1 : X2.cell? ⟨_, 1, none⟩ = some (.int .i64 (pa).n) := (o19).facts.1 1
              have u2 : X2.cell? ⟨_, 2, none⟩ = some (.slice t3 (pa).inn.length w3') := (o19).facts.1 2
              have u3 : X2.cell? ⟨_, 3, none⟩ = some (.slice t4 (pa).kids.length w4') := (o19).facts.1 3
              have ul := (o19).lt
              have v0 : X2.cell? ⟨gX, 0, none⟩ = some (.int .i64 (pa).op) := oX.facts.1 0
              have v1 : X2.cell? ⟨gX, 1, none⟩ = some (.int .i64 (pa).n) := oX.facts.1 1
              have v2 : X2.cell? ⟨gX, 2, none⟩ = some (.slice d3 (pa).inn.length e3) := oX.facts.1 2
              have v3 : X2.cell? ⟨gX, 3, none⟩ = some (.slice d4 (pa).kids.length e4) := oX.facts.1 3
              have vl := oX.lt
              have q2 := fcmpJ_c pa pa _ _ X2 hR1 hR2
              rw [fcmpJ_0.2 rfl] at q2
              clear hR1 hR2 oX
              go_wp2_with fail
              refine RetV_at q2 ?_
              intro X3 hy3
              clear u0 u1 u2 u3 ul v0 v1 v2 v3 vl q2
              replace hy1 := hy1.then hy3
              clear hy3
              go_wp2_with fail
              go_roundw
              case rel => exact ⟨i + 1, by omega, by go_num, hr.then hy1⟩
              case measure => simp [intOf]; omega
            · have nP : (pe == 0) = false := by simpa using hp0
              go_wp2_with fail
              go_roundw
              case rel => exact ⟨i + 1, by omega, by go_num, hr⟩
              case measure => simp [intOf]; omega
          · have nS : (se == 0) = false := by simpa using hs0
            replace hpe2 : pe = 0 → pushE pa = (pa, 0) := hpe2.out
            clear hs0 o17 hSa hse2
            go_upto_region 23 with (fail)
            by_cases hp0 : pe = 0
            · subst hp0
              have hP2 := hpe2 rfl
              have u0 : (W4).cell? ⟨_, 0, none⟩ = some (.int .i64 (pa).op) := (o19).facts.1 0
              have u1 : (W4).cell? ⟨_, 1, none⟩ = some (.int .i64 (pa).n) := (o19).facts.1 1
              have u2 : (W4).cell? ⟨_, 2, none⟩ = some (.slice t3 (pa).inn.length w3') := (o19).facts.1 2
              have u3 : (W4).cell? ⟨_, 3, none⟩ = some (.slice t4 (pa).kids.length w4') := (o19).facts.1 3
              have ul := (o19).lt
              have q1 := fpush_c pa (fmC pa t3 w3' t4 w4') W4 hPa (by omega)
              rw [hP2] at q1
              go_wp2_with fail
              refine q1.mono ?_
              rintro e X1 ⟨d3, e3, d4, e4, rfl, hy1, hR2⟩
              dsimp only at hR2 ⊢
              have oX := Proofs.YtbpilielamjnoaaGreat.Own.new X1 #[.int .i64 (pa).op, .int .i64 (pa).n, .slice d3 (pa).inn.length e3, .slice d4 (pa).kids.length e4] 29
              have eX := Ext.new X1 (.cells #[.int .i64 (pa).op, .int .i64 (pa).n, .slice d3 (pa).inn.length e3, .slice d4 (pa).kids.length e4] 29)
              replace hy1 := hy1.then eX
              replace hR2 := mono_FmR _ _ _ _ eX.ple hR2
              have hR1 := mono_FmR _ _ _ _ hy1.ple hPa
              replace o19 := (o19).keep hy1
              clear u0 u1 u2 u3 ul q1
              go_upto_region 25 with (fail)
              generalize X1.alloc _ = X2 at *
              generalize X1.heap.size = gX at *
              clear eX
              have u0 : X2.cell? ⟨_, 0, none⟩ = some (.int .i64 (pa).op) := (o19).facts.1 0
              have u1 : X2.cell? ⟨_, 1, none⟩ = some (.int .i64 (pa).n) := (o19).facts.1 1
              have u2 : X2.cell? ⟨_, 2, none⟩ = some (.slice t3 (pa).inn.length w3') := (o19).facts.1 2
              have u3 : X2.cell? ⟨_, 3, none⟩ = some (.slice t4 (pa).kids.length w4') := (o19).facts.1 3
              have ul := (o19).lt
              have v0 : X2.cell? ⟨gX, 0, none⟩ = some (.int .i64 (pa).op) := oX.facts.1 0
              have v1 : X2.cell? ⟨gX, 1, none⟩ = some (.int .i64 (pa).n) := oX.facts.1 1
              have v2 : X2.cell? ⟨gX, 2, none⟩ = some (.slice d3 (pa).inn.length e3) := oX.facts.1 2
              have v3 : X2.cell? ⟨gX, 3, none⟩ = some (.slice d4 (pa).kids.length e4) := oX.facts.1 3
              have vl := oX.lt
              have q2 := fcmpJ_c pa pa _ _ X2 hR1 hR2
              rw [fcmpJ_0.2 rfl] at q2
              clear hR1 hR2 oX
              go_wp2_with fail
              refine RetV_at q2 ?_
              intro X3 hy3
              clear u0 u1 u2 u3 ul v0 v1 v2 v3 vl q2
              replace hy1 := hy1.then hy3
              clear hy3
              go_wp2_with fail
              go_roundw
              case rel => exact ⟨i + 1, by omega, by go_num, hr.then hy1⟩
              case measure => simp [intOf]; omega
            · have nP : (pe == 0) = false := by simpa using hp0
              go_wp2_with fail
              go_roundw
              case rel => exact ⟨i + 1, by omega, by go_num, hr⟩
              case measure => simp [intOf]; omega
    · obtain rfl : i = L.length := by omega
      have hdi : decide (L.length < L.length) = false := by simp
      go_wp2_with fail
      refine RetV_at (lives07_c _) ?_
      intro w9 hx9
      go_wp2_with fail
      go_ret
      exact ⟨rfl, (hx.then hr0).then hx9⟩
end Go.Proofs.YtbpilielamjnoaaGreat
namespace Go.Proofs.YtbpilielamjnoaaGreat
open Go.ChangeShapes Go.WideShapes Go.ChangeAt Go.RowKit
set_option linter.unusedVariables false
theorem post_of_ext {H : Type} {enc : TypeId × Value → H} {P : Program} {f : Func} {s : ChangeSpec} {apart fresh handsOn : Bool} {W W' : World} {args : Array Value} {v : Value} {ds gs : List (DataW H)} {before pa pv : List MemPlace}
    (hW : DataW.Whole enc P f.params.toList s.vars apart W args.toList ds gs before)
    (hres : ∀ (b : Nat) (sp : Nat → Bool) (hd : Bool), DataW.TrodAll enc P W' b sp hd f.resultTypes.toList (v.resultList f.resultTypes.size) (s.fn H (ds ++ gs)).results [])
    (hargs : ∀ sp : Nat → Bool, (∀ p ∈ before, sp p.block = true) → DataW.TrodAll enc P W' 0 sp true f.params.toList args.toList (s.fn H (ds ++ gs)).args pa)
    (hvars : ∀ sp : Nat → Bool, (∀ p ∈ before, sp p.block = true) → DataW.TrodVars enc P W' sp s.vars (s.fn H (ds ++ gs)).vars pv)
    (hps : before = pa ++ pv) (he : Ext W W') : s.post enc P f apart fresh handsOn false W args v W' := by
  have hold : ∀ p ∈ before, (fun b => decide (b < W.heap.size)) p.block = true := fun p hp => by simpa using hW.lt p hp
  exact ⟨ds, gs, before, [], pa, pv, hW, hres _ _ _, hargs _ hold, hvars _ hold, he.frame _, fun h => by cases h⟩
theorem wf_i64 {a : Int} (h : (Lit.int .i64 a).wf = true) : I64 a := by
  simpa [Lit.wf, IntKind.min, IntKind.max, IntKind.signed, IntKind.bits, I64] using h
end Go.Proofs.YtbpilielamjnoaaGreat
namespace Go.Proofs.YtbpilielamjnoaaGreat
open Go.ChangeShapes Go.WideShapes Go.ChangeAt Go.RowKit
set_option linter.unusedVariables false
section
variable {H : Type} {enc : TypeId × Value → H} {P : Program}
theorem trodAll_back (hl : laidOutB P = true) {W W' : World} (hb : Ext W W') : ∀ {ts : List TypeId} {vs : List Value} {ds : List (DataW H)} {ps : List MemPlace}, (∀ t ∈ ts, P.readableRec t = true ∧ t < P.types.size) →
    DataW.TrodAll enc P W 0 (fun _ => true) true ts vs ds ps → (∀ x ∈ ps, x.block < W.heap.size) → DataW.TrodAll enc P W' 0 (fun b => decide (b < W.heap.size)) true ts vs ds ps
  | [], [], [], ps, _, h, _ => h
  | t :: ts, v :: vs, d :: ds, ps, hr, h, hlt => by
    obtain ⟨p, q, h1, h2, rfl⟩ := h
    exact ⟨p, q, Below.trod hl (hr t (by simp)).1 (hr t (by simp)).2 h1 hb (fun x hx => hlt x (by simp [hx])), trodAll_back hl hb (fun t ht => hr t (by simp [ht])) h2 (fun x hx => hlt x (by simp [hx])), rfl⟩
  | [], _ :: _, _, _, _, h, _ => h.elim
  | [], [], _ :: _, _, _, h, _ => h.elim
  | _ :: _, [], _, _, _, h, _ => h.elim
  | _ :: _, _ :: _, [], _, _, h, _ => h.elim
theorem post_law {f : Func} {s : ChangeSpec} {apart fresh handsOn : Bool} {W W' : World} {args : Array Value} {v : Value} {ds gs : List (DataW H)} {before : List MemPlace}
    (hW : DataW.Whole enc P f.params.toList s.vars apart W args.toList ds gs before) (hv : s.vars = [])
    (hres : ∀ (b : Nat) (sp : Nat → Bool) (hd : Bool), DataW.TrodAll enc P W' b sp hd f.resultTypes.toList (v.resultList f.resultTypes.size) (s.fn H (ds ++ gs)).results [])
    (hargs : (s.fn H (ds ++ gs)).args = ds) (hvs : (s.fn H (ds ++ gs)).vars = []) (hl : laidOutB P = true) (hr : ∀ t ∈ f.params.toList, P.readableRec t = true ∧ t < P.types.size) (he : Ext W W') : s.post enc P f apart fresh handsOn false W args v W' := by
  have hold : ∀ p ∈ before, p.block < W.heap.size := fun p hp => hW.lt p hp
  have hW' := hW
  obtain ⟨p, q, hA, hV, rfl, -, -⟩ := hW
  rw [hv] at hV
  obtain ⟨rfl, rfl⟩ : gs = [] ∧ q = [] := by
    cases gs with
    | nil => exact ⟨rfl, hV⟩
    | cons _ _ => exact hV.elim
  refine ⟨ds, [], p ++ [], [], p, [], hW', hres _ _ _, ?_, ?_, he.frame _, fun h => by cases h⟩
  · rw [hargs]; exact trodAll_back hl he hr hA fun x hx => hold x (by simp [hx])
  · rw [hv, hvs]; rfl
theorem wf_i64m {n : Int} (h : (Lit.int .i64 n).wf = true) : I64 n := wf_i64 h
theorem openI {t e : TypeId} {v : Value} {d : DataW H} {p : List MemPlace} {W : World} {base : Nat} (ht : P.underlying t = some (.slice e)) (he : P.underlying e = some (.int .i64)) (hc : P.cellsOf e = 1) (hby : P.bytesOf e = 8)
    (hval : Value.okWide P W .any base t v) (h : DataW.Trod enc P W 0 (fun _ => true) true t v d p) {ts : List TypeId} {ds : List (DataW H)} (hsz : (DataW.weightsEach P ts ds).all (· ≤ reachBytes) = true) (j : Nat) (hj : ts[j]? = some t) (hd : ds[j]? = some d) :
    ∃ l : List Int, IntsR (ph W) v l ∧ l.length ≤ 17592186043904 := by
  obtain ⟨a0, len, cap, rfl⟩ := okWide_slice ht hval
  obtain ⟨fuel, hf⟩ := h
  rcases open_ints ht he hc hf with ⟨hcs, hx⟩ | ⟨a, len', cap', zs, hcs, _, hl, hm, hz, hx, hcell, hwz⟩
  · simp [Value.cells] at hcs
    obtain ⟨rfl, rfl, rfl⟩ := hcs
    exact ⟨[], SliceRep.nil _ _ _, by simp⟩
  · simp [Value.cells] at hcs
    obtain ⟨rfl, rfl, rfl⟩ := hcs
    simp only [Prod.mk.injEq] at hx
    obtain ⟨rfl, -⟩ := hx
    simp only [if_true] at hz
    have hreach : len * 8 ≤ 140737488351232 := by
      have := sized_slice hsz (j := j) hj hd ht
      rw [hby] at this
      simp only [lits, List.length_map, List.length_take, List.length_drop, reachBytes] at this
      omega
    have hlen : (zs.take len).length = len := by rw [List.length_take]; omega
    refine ⟨zs.take len, ⟨some a, cap, by rw [hlen], by omega, hm, ?_⟩, by omega⟩
    by_cases h0 : len = 0
    · left; rw [h0]; rfl
    · right
      obtain ⟨b, off, spot⟩ := a
      have hspot : spot = none := by simpa [Addr.add] using World.cell?_spot (hcell 0 (by omega))
      subst hspot
      refine ⟨b, off, rfl, RowRep.of fun i hi => ?_⟩
      rw [hlen] at hi
      have h1 := hcell i (by omega)
      have h2 : zs.getD i 0 = (zs.take len)[i]'(by omega) := by
        rw [List.getElem_take]; simp [List.getD, show i < zs.length by omega]
      refine ⟨[.int .i64 ((zs.take len)[i]'(by omega))], rfl, fun j hj => ?_, rfl, wf_i64m (hwz _ ?_)⟩
      · obtain rfl : j = 0 := by omega
        rw [addo, cell_ph, h2] at h1
        simpa using h1
      · rw [List.getElem_take]; exact List.getElem_mem _
theorem wf_u8 {n : Int} (h : (Lit.int .u8 n).wf = true) : 0 ≤ n ∧ n < 256 := by
  have := bounds_u8 h; omega
theorem openB {t e : TypeId} {v : Value} {d : DataW H} {p : List MemPlace} {W : World} {base : Nat} (ht : P.underlying t = some (.slice e)) (he : P.underlying e = some (.int .u8)) (hc : P.cellsOf e = 1) (hby : P.bytesOf e = 1)
    (hval : Value.okWide P W .any base t v) (h : DataW.Trod enc P W 0 (fun _ => true) true t v d p) {ts : List TypeId} {ds : List (DataW H)} (hsz : (DataW.weightsEach P ts ds).all (· ≤ reachBytes) = true) (j : Nat) (hj : ts[j]? = some t) (hd : ds[j]? = some d) :
    ∃ l : List UInt8, BytesR (ph W) v l ∧ l.length ≤ 140737488351232 := by
  obtain ⟨a0, len, cap, rfl⟩ := okWide_slice ht hval
  obtain ⟨fuel, hf⟩ := h
  rcases open_ints ht he hc hf with ⟨hcs, hx⟩ | ⟨a, len', cap', zs, hcs, _, hl, hm, hz, hx, hcell, hwz⟩
  · simp [Value.cells] at hcs
    obtain ⟨rfl, rfl, rfl⟩ := hcs
    exact ⟨[], SliceRep.nil _ _ _, by simp⟩
  · simp [Value.cells] at hcs
    obtain ⟨rfl, rfl, rfl⟩ := hcs
    simp only [Prod.mk.injEq] at hx
    obtain ⟨rfl, -⟩ := hx
    simp only [if_true] at hz
    have hreach : len * 1 ≤ 140737488351232 := by
      have := sized_slice hsz (j := j) hj hd ht
      rw [hby] at this
      simp only [lits, List.length_map, List.length_take, List.length_drop, reachBytes] at this
      omega
    have hlen : ((zs.take len).map fun n => UInt8.ofNat n.toNat).length = len := by rw [List.length_map, List.length_take]; omega
    refine ⟨(zs.take len).map fun n => UInt8.ofNat n.toNat, ⟨some a, cap, by rw [hlen], by omega, hm, ?_⟩, by omega⟩
    by_cases h0 : len = 0
    · left; rw [h0]; rfl
    · right
      obtain ⟨b, off, spot⟩ := a
      have hspot : spot = none := by simpa [Addr.add] using World.cell?_spot (hcell 0 (by omega))
      subst hspot
      refine ⟨b, off, rfl, RowRep.of fun i hi => ?_⟩
      rw [hlen] at hi
      have h1 := hcell i (by omega)
      have h2 : zs.getD i 0 = zs[i]'(by omega) := by simp [List.getD, show i < zs.length by omega]
      have h3 := wf_u8 (hwz (zs[i]'(by omega)) (List.getElem_mem _))
      refine ⟨[.int .u8 (zs[i]'(by omega))], rfl, fun j hj => ?_, ?_⟩
      · obtain rfl : j = 0 := by omega
        rw [addo, cell_ph, h2] at h1
        simpa using h1
      · simp only [ByteR, List.getElem_map, List.getElem_take, List.cons.injEq, and_true]
        refine val_int ?_
        have h4 : (zs[i]'(by omega)).toNat < 256 := by omega
        rw [UInt8.toNat_ofNat_of_lt' (by simpa using h4)]
        omega
end
end Go.Proofs.YtbpilielamjnoaaGreat
