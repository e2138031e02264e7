/- Lemmas for NI, part 18: the reference of package span: Equal, and more. -/
import Derived.Deep.CutBlock
import Derived.Test.YtabajghokhfmhaaGreatRows
import Derived.ProofKit
import Derived.OpenShut
import Derived.Carry
import Derived.SizedLaws
import Derived.Test.YtabajghokhfmhaaGreatNI00
import Derived.Test.YtabajghokhfmhaaGreatNI01
import Derived.Test.YtabajghokhfmhaaGreatNI02
import Derived.Test.YtabajghokhfmhaaGreatNI03
import Derived.Test.YtabajghokhfmhaaGreatNI04
import Derived.Test.YtabajghokhfmhaaGreatNI05
import Derived.Test.YtabajghokhfmhaaGreatNI08
import Derived.Test.YtabajghokhfmhaaGreatNI15
import Derived.Test.YtabajghokhfmhaaGreatNI16
set_option linter.unusedSimpArgs false
set_option linter.unusedVariables false
namespace Go.Proofs.YtabajghokhfmhaaGreat
open Go.RowKit Go.Shelf
set_option maxRecDepth 100000 in
set_option maxHeartbeats 4000000 in
theorem requal_c (vx vy : Value) (xs ys : List Itv) (w : World) (hx : ItvsR (ph w) vx xs) (hy : ItvsR (ph w) vy ys) : Calls Tryz.prog 53 #[vx, vy] w (RetV w (.bool (decide (xs = ys)))) := by
  obtain ⟨a, c, rfl, hlen, hx⟩ := hx.form
  obtain ⟨a', c', rfl, hlen', hy⟩ := hy.form
  by_cases hl : xs.length = ys.length
  · have hd0 : Hid (decide (xs = ys) = decide (xs.drop 0 = ys.drop 0)) := rfl
    obtain ⟨N, hN⟩ : ∃ N, xs.length = N := ⟨_, rfl⟩
    have hN2 : ys.length = N := by omega
    have hdN : Hid (decide (xs.drop N = ys.drop N) = true) := by
      show _ = _
      rw [List.drop_of_length_le (by omega), List.drop_of_length_le (by omega)]; rfl
    have hX : Hid (∀ (w' : World), Ext w w' → ∀ k (h : k < N), ∃ b o, a = some ⟨b, o, none⟩ ∧ w'.cell? ⟨b, o + k * 8, none⟩ = some (.int .i64 xs[k].lo.num) ∧ w'.cell? ⟨b, o + k * 8 + 1, none⟩ = some (.int .i64 xs[k].lo.den) ∧ w'.cell? ⟨b, o + k * 8 + 2, none⟩ = some (.int .i64 xs[k].hi.num) ∧ w'.cell? ⟨b, o + k * 8 + 3, none⟩ = some (.int .i64 xs[k].hi.den) ∧ w'.cell? ⟨b, o + k * 8 + 4, none⟩ = some (.bool xs[k].loO) ∧ w'.cell? ⟨b, o + k * 8 + 5, none⟩ = some (.bool xs[k].hiO) ∧ w'.cell? ⟨b, o + k * 8 + 6, none⟩ = some (.bool xs[k].loI) ∧ w'.cell? ⟨b, o + k * 8 + 7, none⟩ = some (.bool xs[k].hiI) ∧ b < w'.heap.size ∧ xs[k].I) := Lib.hid fun w' h k hk => ItvsR.at (hx.mono mono_ItvR h.ple) k (by omega)
    have hY : Hid (∀ (w' : World), Ext w w' → ∀ k (h : k < N), ∃ b o, a' = some ⟨b, o, none⟩ ∧ w'.cell? ⟨b, o + k * 8, none⟩ = some (.int .i64 ys[k].lo.num) ∧ w'.cell? ⟨b, o + k * 8 + 1, none⟩ = some (.int .i64 ys[k].lo.den) ∧ w'.cell? ⟨b, o + k * 8 + 2, none⟩ = some (.int .i64 ys[k].hi.num) ∧ w'.cell? ⟨b, o + k * 8 + 3, none⟩ = some (.int .i64 ys[k].hi.den) ∧ w'.cell? ⟨b, o + k * 8 + 4, none⟩ = some (.bool ys[k].loO) ∧ w'.cell? ⟨b, o + k * 8 + 5, none⟩ = some (.bool ys[k].hiO) ∧ w'.cell? ⟨b, o + k * 8 + 6, none⟩ = some (.bool ys[k].loI) ∧ w'.cell? ⟨b, o + k * 8 + 7, none⟩ = some (.bool ys[k].hiI) ∧ b < w'.heap.size ∧ ys[k].I) := Lib.hid fun w' h k hk => ItvsR.at (hy.mono mono_ItvR h.ple) k (by omega)
    have hst : Hid (∀ k (h : k < N), decide (xs.drop k = ys.drop k) = (decide (xs[k] = ys[k]) && decide (xs.drop (k + 1) = ys.drop (k + 1)))) := Lib.hid fun k h => eqL_drop (by omega) (by omega)
    clear hx hy
    replace hN := Lib.hid hN
    replace hN2 := Lib.hid hN2
    replace hl := Lib.hid hl
    rw [hN.out] at hlen ⊢
    rw [hN2.out] at hlen' ⊢
    go_enter Tryz.func53, Tryz.ntmps53
    go_wp2_with fail
    go_loopw [5] (fun i wr => ∃ k : Nat, k ≤ N ∧ i = .int .i64 k ∧ Hid (decide (xs = ys) = decide (xs.drop k = ys.drop k)) ∧ Ext w wr) (fun i _ => N - (intOf i).toNat)
    case atStart => exact ⟨0, Nat.zero_le _, rfl, hd0, Ext.rfl' _⟩
    case round =>
      obtain ⟨k, hk, rfl, ho, hxr⟩ := hrel
      by_cases hlt : k < N
      · obtain ⟨b, o, rfl, x0, x1, x2, x3, x4, x5, x6, x7, hbl, -⟩ := hX.out wr hxr k hlt
        obtain ⟨b', o', rfl, y0, y1, y2, y3, y4, y5, y6, y7, hbl', -⟩ := hY.out wr hxr k hlt
        have hja : decide (k < N) = true := decide_eq_true hlt
        have hs := hst.out k hlt
        generalize xs[k] = x at *
        generalize ys[k] = y at *
        replace hs := Lib.hid hs
        by_cases he : x = y
        · subst he
          obtain ⟨⟨p, q⟩, ⟨r, s⟩, lO, rO, lI, rI⟩ := x
          dsimp only at *
          have h8 : Hid (decide (xs = ys) = decide (xs.drop (k + 1) = ys.drop (k + 1))) := Lib.hid (by rw [ho.out, hs.out]; simp)
          go_wp2_with fail
          (refine wp_region_I 9 (by kernel_rfl) (by kernel_rfl) ?_; simp only [List.toList_toArray, List.take_succ_cons, List.take_zero, List.drop_succ_cons, List.drop_zero])
          iterate 9 (refine wiA rfl (by simp) rfl ?_; (try simp only [List.nil_append, List.cons_append]))
          (refine walkI_nil ?_; simp only [List.nil_append, List.cons_append, fins, Is, forall_eq, Act.put, List.setIfInBounds_toArray, List.set_cons_zero, List.set_cons_succ])
          intro w2 hx2
          go_wp2_with fail
          go_roundw
          case rel => exact ⟨k + 1, by omega, by go_num, h8.out, hxr.then hx2⟩
          case measure => simp [intOf]; omega
        · have h8 : Hid (decide (xs = ys) = false) := Lib.hid (by rw [ho.out, hs.out]; simp [he])
          obtain ⟨⟨p, q⟩, ⟨r, s⟩, lO, rO, lI, rI⟩ := x
          obtain ⟨⟨p', q'⟩, ⟨r', s'⟩, lO', rO', lI', rI'⟩ := y
          dsimp only at *
          replace he := Lib.hid he
          go_wp2_with fail
          (refine wp_region_I 9 (by kernel_rfl) (by kernel_rfl) ?_; simp only [List.toList_toArray, List.take_succ_cons, List.take_zero, List.drop_succ_cons, List.drop_zero])
          iterate 8 (refine wiA rfl (by simp) rfl ?_; (try simp only [List.nil_append, List.cons_append]))
          (refine walkI_is (u := .bool true) rfl (by simp) rfl ?_ ?_; (focus (intro A w' hS hA K hK; (simp only [List.map_cons, List.map_nil, knows, Is, Op.operands, Call.operands, List.lookup_cons, List.lookup_nil, Nat.reduceBEq, Bool.false_eq_true, if_false, if_true, Act.eval, Array.getD_eq_getD_getElem?, List.getElem?_toArray, List.getElem?_cons_succ, List.getElem?_cons_zero, Option.getD_some, and_true, true_and, List.append_toArray, List.nil_append, List.cons_append, List.toList_toArray, Array.toList_append, Option.toArray, List.append_nil] at hA); (go_simp; (repeat' split) <;> first | exact hK _ (Ext.rfl' _) | (exfalso; exact he.out (by simp [*]))))); (try simp only [List.nil_append, List.cons_append]))
          (refine walkI_nil ?_; simp only [List.nil_append, List.cons_append, fins, Is, forall_eq, Act.put, List.setIfInBounds_toArray, List.set_cons_zero, List.set_cons_succ])
          intro w2 hx2
          go_wp2_with fail
          go_ret
          exact ⟨ret_bool h8.out.symm, hxr.then hx2⟩
      · have hja : decide (k < N) = false := by simpa using hlt
        have h8 : Hid (decide (xs = ys) = true) := Lib.hid (by rw [ho.out, show k = N by omega]; exact hdN.out)
        go_wp2_with fail
        go_ret
        exact ⟨ret_bool h8.out.symm, hxr⟩
  · have h8 : Hid (decide (xs = ys) = false) := Lib.hid (by simp; intro h; exact hl (by rw [h]))
    have hb : ((xs.length : Int) != (ys.length : Int)) = true := by rw [bne_iff_ne]; omega
    go_enter Tryz.func53, Tryz.ntmps53
    go_wp2_with fail
    go_ret
    exact ⟨ret_bool h8.out.symm, xE⟩
theorem samefm_c (l : List Fm) (va vb : Value) (w : World) (ha : FmsR (ph w) va l) (hb : FmsR (ph w) vb l) (h1 : sumN Fm.bulk l ≤ 90000) :
    Calls Tryz.prog 52 #[va, vb] w (RetV w (.bool true)) := by
  obtain ⟨a4, c4, rfl, -, ha⟩ := ha.form
  obtain ⟨b4, d4, rfl, -, hb⟩ := hb.form
  have hbk : (Fm.mk 4 0 [] l).bulk ≤ 100000 := by rw [Fm.bulk_eq]; show 1 + 0 + sumN Fm.bulk l ≤ _; omega
  go_enter Tryz.func52, Tryz.ntmps52
  go_wp2_with fail
  refine RetV_at (rsame_c (.mk 4 0 [] l) (.mk 4 0 [] l) (fmC (.mk 4 0 [] l) none 0 a4 c4) (fmC (.mk 4 0 [] l) none 0 b4 d4) _
    (FmR.of (f := .mk 4 0 [] l) (by simp [Fm.op, I64]) (by simp [Fm.n, I64]) (SliceRep.nil _ _ _) (ha.mono mono_FmR (Ext.ple xE)))
    (FmR.of (f := .mk 4 0 [] l) (by simp [Fm.op, I64]) (by simp [Fm.n, I64]) (SliceRep.nil _ _ _) (hb.mono mono_FmR (Ext.ple xE))) hbk hbk) ?_
  intro w1 hx1
  rw [B_t rfl]
  go_wp2_with fail
  go_ret
  exact ⟨rfl, xE⟩
theorem sameI1 (l : List Int) (va vb : Value) (w : World) (ha : IntsR (ph w) va l) (hb : IntsR (ph w) vb l) : Calls Tryz.prog 51 #[va, vb] w (RetV w (.bool true)) := by
  have h := sameInts_c va vb l l w ha hb
  rw [B_t rfl] at h; exact h
theorem requal1 (l : List Itv) (va vb : Value) (w : World) (ha : ItvsR (ph w) va l) (hb : ItvsR (ph w) vb l) : Calls Tryz.prog 53 #[va, vb] w (RetV w (.bool true)) := by
  have h := requal_c va vb l l w ha hb
  rw [decide_eq_true rfl] at h; exact h
set_option maxRecDepth 100000 in
set_option maxHeartbeats 4000000 in
theorem sameA_c (x : Al) (cs ds : List Value) (w : World) (hr : AltR (ph w) cs x) (hq : AltR (ph w) ds x) (hb1 : sumN Fm.bulk x.has ≤ 90000) (hb2 : sumN Fm.bulk x.non ≤ 90000) (hn : x.nums.length ≤ 1000000) :
    Calls Tryz.prog 21 #[.agg cs.toArray, .agg ds.toArray] w (RetV w (.bool true)) := by
  obtain ⟨i1, j1, i2, j2, i3, j3, i4, j4, i5, j5, rfl, r1, r2, r3, r4, r5⟩ := hr
  obtain ⟨k1, m1, k2, m2, k3, m3, k4, m4, k5, m5, rfl, q1, q2, q3, q4, q5⟩ := hq
  have hM := ((Mem.start w (ph w) (fun _ _ h => h)).new' #[.slice i1 x.yes.length j1, .slice i2 x.no.length j2, .slice i3 x.nums.length j3, .slice i4 x.has.length j4, .slice i5 x.non.length j5] 49 (n := w.heap.size) rfl).new' #[.slice k1 x.yes.length m1, .slice k2 x.no.length m2, .slice k3 x.nums.length m3, .slice k4 x.has.length m4, .slice k5 x.non.length m5] 49 (n := w.heap.size + 1) (by simp)
  simp only [List.nil_append, List.cons_append] at hM
  go_enter Tryz.func21, Tryz.ntmps21
  go_upto_region 1 with (fail)
  generalize World.alloc _ _ = w1 at *
  generalize hg1 : w.heap.size = g1 at *
  generalize g1 + 1 = g2 at *
  have u0 : _ = some (Value.slice i1 x.yes.length j1) := (hM.box 0 rfl).facts.1 0
  have u1 : _ = some (Value.slice i2 x.no.length j2) := (hM.box 0 rfl).facts.1 1
  have u2 : _ = some (Value.slice i3 x.nums.length j3) := (hM.box 0 rfl).facts.1 2
  have u3 : _ = some (Value.slice i4 x.has.length j4) := (hM.box 0 rfl).facts.1 3
  have u4 : _ = some (Value.slice i5 x.non.length j5) := (hM.box 0 rfl).facts.1 4
  have v0 : _ = some (Value.slice k1 x.yes.length m1) := (hM.box 1 rfl).facts.1 0
  have v1 : _ = some (Value.slice k2 x.no.length m2) := (hM.box 1 rfl).facts.1 1
  have v2 : _ = some (Value.slice k3 x.nums.length m3) := (hM.box 1 rfl).facts.1 2
  have v3 : _ = some (Value.slice k4 x.has.length m4) := (hM.box 1 rfl).facts.1 3
  have v4 : _ = some (Value.slice k5 x.non.length m5) := (hM.box 1 rfl).facts.1 4
  have ul := (hM.box 0 rfl).lt
  have vl := (hM.box 1 rfl).lt
  have hx := hM.ex
  have hnn : ((x.nums.length : Int) != (x.nums.length : Int)) = false := by simp
  clear hM
  have hs1 := Lib.hid (fun w' (e : Ext w1 w') => sameI1 x.yes _ _ w' (r1.mono mono_IntR (hx.then e).ple) (q1.mono mono_IntR (hx.then e).ple))
  have hs2 := Lib.hid (fun w' (e : Ext w1 w') => sameI1 x.no _ _ w' (r2.mono mono_IntR (hx.then e).ple) (q2.mono mono_IntR (hx.then e).ple))
  have hs3 := Lib.hid (fun w' (e : Ext w1 w') => samefm_c x.has _ _ w' (r4.mono mono_FmR (hx.then e).ple) (q4.mono mono_FmR (hx.then e).ple) hb1)
  have hs4 := Lib.hid (fun w' (e : Ext w1 w') => samefm_c x.non _ _ w' (r5.mono mono_FmR (hx.then e).ple) (q5.mono mono_FmR (hx.then e).ple) hb2)
  go_wp2_with fail
  refine RetV_at (hs1.out _ xE) ?_
  intro w2 hx2
  replace u0 := (hx2).cell1 u0
  replace u1 := (hx2).cell1 u1
  replace u2 := (hx2).cell1 u2
  replace u3 := (hx2).cell1 u3
  replace u4 := (hx2).cell1 u4
  replace v0 := (hx2).cell1 v0
  replace v1 := (hx2).cell1 v1
  replace v2 := (hx2).cell1 v2
  replace v3 := (hx2).cell1 v3
  replace v4 := (hx2).cell1 v4
  replace ul := cell_lt u0
  replace vl := cell_lt v0
  go_wp2_with fail
  refine RetV_at (hs2.out _ xE) ?_
  intro w3 hx3
  replace u0 := (hx3).cell1 u0
  replace u1 := (hx3).cell1 u1
  replace u2 := (hx3).cell1 u2
  replace u3 := (hx3).cell1 u3
  replace u4 := (hx3).cell1 u4
  replace v0 := (hx3).cell1 v0
  replace v1 := (hx3).cell1 v1
  replace v2 := (hx3).cell1 v2
  replace v3 := (hx3).cell1 v3
  replace v4 := (hx3).cell1 v4
  replace ul := cell_lt u0
  replace vl := cell_lt v0
  go_wp2_with fail
  refine RetV_at (hs3.out _ xE) ?_
  intro w4 hx4
  replace u0 := (hx4).cell1 u0
  replace u1 := (hx4).cell1 u1
  replace u2 := (hx4).cell1 u2
  replace u3 := (hx4).cell1 u3
  replace u4 := (hx4).cell1 u4
  replace v0 := (hx4).cell1 v0
  replace v1 := (hx4).cell1 v1
  replace v2 := (hx4).cell1 v2
  replace v3 := (hx4).cell1 v3
  replace v4 := (hx4).cell1 v4
  replace ul := cell_lt u0
  replace vl := cell_lt v0
  go_wp2_with fail
  refine RetV_at (hs4.out _ xE) ?_
  intro w5 hx5
  replace u0 := (hx5).cell1 u0
  replace u1 := (hx5).cell1 u1
  replace u2 := (hx5).cell1 u2
  replace u3 := (hx5).cell1 u3
  replace u4 := (hx5).cell1 u4
  replace v0 := (hx5).cell1 v0
  replace v1 := (hx5).cell1 v1
  replace v2 := (hx5).cell1 v2
  replace v3 := (hx5).cell1 v3
  replace v4 := (hx5).cell1 v4
  replace ul := cell_lt u0
  replace vl := cell_lt v0
  have h15 : Ext w1 w5 := xE
  replace hx := hx.then h15
  clear hs1 hs2 hs3 hs4 u0 u1 u3 u4 v0 v1 v3 v4 hx2 hx3 hx4 hx5 h15
  go_wp2_with fail
  go_loopw [5] (fun i wr => ∃ k : Nat, k ≤ x.nums.length ∧ i = .int .i64 k ∧ Ext w5 wr) (fun i _ => x.nums.length - (intOf i).toNat)
  case atStart => exact ⟨0, Nat.zero_le _, rfl, Ext.rfl' _⟩
  case round =>
    obtain ⟨k, hk, rfl, hxr⟩ := hrel
    replace u2 := hxr.cell1 u2
    replace v2 := hxr.cell1 v2
    replace ul := cell_lt u2
    replace vl := cell_lt v2
    replace hx := hx.then hxr
    by_cases hlt : k < x.nums.length
    · obtain ⟨b, o, a1, c1, rfl, z0, z1, z2, hI, hIt, zl⟩ := NumsR.atH r3 hx.ple k hlt
      obtain ⟨b', o', a1', c1', rfl, y0, y1, y2, hI', hIt', yl⟩ := NumsR.atH q3 hx.ple k hlt
      generalize x.nums[k] = y at *
      have he := Lib.hid (fun w' (e : Ext wr w') => requal1 y.inn _ _ w' (hIt.mono mono_ItvR (hx.then e).ple) (hIt'.mono mono_ItvR (hx.then e).ple))
      have b1 : (y.attr != y.attr) = false := by simp
      have b2 : (y.abs != y.abs) = false := by simp
      go_wp2_with fail
      refine RetV_at (he.out _ xE) ?_
      intro w6 hx6
      go_wp2_with fail
      go_roundw
      case rel => exact ⟨k + 1, by omega, by go_num, xE⟩
      case measure => simp [intOf]; omega
    · have hkk : k = x.nums.length := by omega
      subst hkk
      go_wp2_with fail
      go_ret
      exact ⟨rfl, xE⟩
def FmIs (f : Fm) (h : PH) (v : Value) : Prop := ∃ a3 c3 a4 c4, v = fmV f a3 c3 a4 c4 ∧ FmR h (fmC f a3 c3 a4 c4) f
theorem FmIs.mono {f : Fm} {h h' : PH} {v : Value} (k : FmIs f h v) (hl : PLe h h') : FmIs f h' v := by
  obtain ⟨a3, c3, a4, c4, e, r⟩ := k
  exact ⟨a3, c3, a4, c4, e, mono_FmR _ _ _ _ hl r⟩
abbrev FmS (f : Fm) : Value → World → Prop := fun v w => FmIs f (ph w) v
theorem stab_FmS {W : World} (f : Fm) : Stable W (FmS f) := fun v w w' _ h e => h.mono e.ple
def RetF (w : World) (f : Fm) (e : Ending) (w' : World) : Prop := ∃ v, e = .returned v ∧ Ext w w' ∧ FmIs f (ph w') v
theorem class9_c (n : Int) (w : World) : Calls Tryz.prog 47 #[.int .i64 n] w (RetV w (fmV (clsF n) none 0 none 0)) := by
  show Calls Tryz.prog 47 #[.int .i64 n] w (RetV w (.agg #[.int .i64 1, .int .i64 n, .slice none 0 0, .slice none 0 0]))
  go_enter Tryz.func47, Tryz.ntmps47
  go_wp2_with fail
  have ho := Own.new w #[.int .i64 1, .int .i64 n, .slice none 0 0, .slice none 0 0] 30
  have hx := Ext.new w (.cells #[.int .i64 1, .int .i64 n, .slice none 0 0, .slice none 0 0] 30)
  generalize w.alloc _ = w9 at *
  obtain ⟨q, -⟩ := ho.facts
  have q0 : _ = some (Value.int .i64 1) := q 0
  have q1 : _ = some (Value.int .i64 n) := q 1
  have q2 : _ = some (Value.slice none 0 0) := q 2
  have q3 : _ = some (Value.slice none 0 0) := q 3
  refine bodyPost_ret (v := .agg #[.int .i64 1, .int .i64 n, .slice none 0 0, .slice none 0 0]) (by simp [results, Tryz.results47, go_sem, q0, q1, q2, q3]) rfl ?_
  exact ⟨rfl, hx⟩
theorem litF1 {w : World} {f : Fm} {cs : List Value} (h : FmR (ph w) cs f) : FmsR (ph (w.alloc (.cells cs.toArray 30))) (.slice (some ⟨w.heap.size, 0, none⟩) 1 1) [f] := by
  have hn : cs.length = 4 := by obtain ⟨a3, c3, a4, c4, rfl, -⟩ := h.form; rfl
  exact (((Mem.start w (ph w) (fun _ _ h => h)).new' cs.toArray 30 (n := w.heap.size) rfl).asOwn 0 rfl mono_FmR (xs := [f]) (n := 1) (sz := 4) (by simp) (by decide) (by simp [hn]) ⟨cs, [], by simp [← hn], hn, h, rfl⟩).rep 0 rfl
theorem litF2 {w : World} {f g : Fm} {cs ds : List Value} (h : FmR (ph w) cs f) (h2 : FmR (ph w) ds g) : FmsR (ph (w.alloc (.cells (cs ++ ds).toArray 30))) (.slice (some ⟨w.heap.size, 0, none⟩) 2 2) [f, g] := by
  have hn : cs.length = 4 := by obtain ⟨a3, c3, a4, c4, rfl, -⟩ := h.form; rfl
  have hm : ds.length = 4 := by obtain ⟨a3, c3, a4, c4, rfl, -⟩ := h2.form; rfl
  exact (((Mem.start w (ph w) (fun _ _ h => h)).new' (cs ++ ds).toArray 30 (n := w.heap.size) rfl).asOwn 0 rfl mono_FmR (xs := [f, g]) (n := 2) (sz := 4) (by simp) (by decide) (by simp [hn, hm]) ⟨cs, ds, List.take_of_length_le (by simp [hn, hm]), hn, h, ⟨ds, [], by simp, hm, h2, rfl⟩⟩).rep 0 rfl
theorem RetF_at {P : Program} {g : FuncId} {args : Array Value} {w : World} {f : Fm} {K : Ending → World → Prop} (h : Calls P g args w (RetF w f)) (hK : ∀ v w', Ext w w' → FmIs f (ph w') v → K (.returned v) w') : Calls P g args w K :=
  h.mono (by rintro e w' ⟨v, rfl, hx, hf⟩; exact hK v w' hx hf)
def RetU (w : World) (H : PH) (f : Fm) (e : Ending) (w' : World) : Prop := ∃ v, e = .returned v ∧ Ext w w' ∧ FmIs f (up H w w') v
theorem of9_u {H : PH} (op : Int) (ks : List Fm) (v : Value) (w : World) (ho : I64 op) (hl : PLe H (ph w)) (hr : FmsR H v ks) : Calls Tryz.prog 18 #[.int .i64 op, v] w (RetU w H (.mk op 0 [] ks)) := by
  obtain ⟨a, c, rfl, -, hr⟩ := hr.form
  go_enter Tryz.func18, Tryz.ntmps18
  go_wp2_with fail
  have o1 := Own.new w #[.int .i64 op, .int .i64 0, .slice none 0 0, .slice a ks.length c] 30
  have hx := Ext.new w (.cells #[.int .i64 op, .int .i64 0, .slice none 0 0, .slice a ks.length c] 30)
  generalize w.alloc _ = w9 at *
  obtain ⟨q, -⟩ := o1.facts
  have q0 : _ = some (Value.int .i64 op) := q 0
  have q1 : _ = some (Value.int .i64 0) := q 1
  have q2 : _ = some (Value.slice none 0 0) := q 2
  have q3 : _ = some (Value.slice a ks.length c) := q 3
  refine bodyPost_ret (v := .agg #[.int .i64 op, .int .i64 0, .slice none 0 0, .slice a ks.length c]) (by simp [results, Tryz.results18, go_sem, q0, q1, q2, q3]) rfl ?_
  exact ⟨_, rfl, hx, none, 0, a, c, rfl, FmR.of (f := .mk op 0 [] ks) ho (by simp [Fm.n, I64]) (SliceRep.nil _ _ _) (hr.mono mono_FmR (ple_up hl))⟩
theorem of9_c (op : Int) (ks : List Fm) (v : Value) (w : World) (ho : I64 op) (hr : FmsR (ph w) v ks) : Calls Tryz.prog 18 #[.int .i64 op, v] w (RetF w (.mk op 0 [] ks)) :=
  (of9_u op ks v w ho (PLe.refl _) hr).mono fun e w' h => by
    obtain ⟨v, h1, h2, h3⟩ := h
    exact ⟨v, h1, h2, h3.mono (up_ple (PLe.refl _) h2)⟩
set_option maxRecDepth 100000 in
set_option maxHeartbeats 2000000 in
theorem not9_c (f : Fm) (v : Value) (w : World) (hr : FmIs f (ph w) v) : Calls Tryz.prog 12 #[v] w (RetF w (.mk 6 0 [] [f])) := by
  obtain ⟨a3, c3, a4, c4, rfl, hr⟩ := hr
  have hM := ((Mem.start w (ph w) (fun _ _ h => h)).new' #[.int .i64 f.op, .int .i64 f.n, .slice a3 f.inn.length c3, .slice a4 f.kids.length c4] 30 (n := w.heap.size) rfl).new' #[.int .i64 0, .int .i64 0, .slice none 0 0, .slice none 0 0] 30 (n := w.heap.size + 1) (by simp)
  simp only [List.cons_append, List.nil_append] at hM
  go_enter Tryz.func12, Tryz.ntmps12
  go_upto_region 1 with (fail)
  generalize World.alloc _ _ = w1 at *
  generalize w.heap.size + 1 = g2 at *
  generalize w.heap.size = g1 at *
  have u0 : _ = some (Value.int .i64 f.op) := (hM.box 0 rfl).facts.1 0
  have u1 : _ = some (Value.int .i64 f.n) := (hM.box 0 rfl).facts.1 1
  have u2 : _ = some (Value.slice a3 f.inn.length c3) := (hM.box 0 rfl).facts.1 2
  have u3 : _ = some (Value.slice a4 f.kids.length c4) := (hM.box 0 rfl).facts.1 3
  have ul := (hM.box 0 rfl).lt
  have hL := rep1 (T := 30) hM.ple (Ext.rfl' w1) mono_FmR hr rfl
  replace hM := hM.up (Ext.new w1 (.cells (fmC f a3 c3 a4 c4).toArray 30))
  have hcall := of9_u 6 [f] _ _ (by simp [I64]) hM.ple hL
  generalize Fm.mk 6 0 [] [f] = R at *
  clear hL
  unfold fmC at *
  go_wp2_with fail
  refine hcall.mono ?_
  rintro e W9 ⟨v, rfl, hx9, b3, d3, b4, d4, rfl, hf⟩
  replace hM := hM.up hx9
  clear u0 u1 u2 u3 ul hcall hx9
  have rz0 : _ = some (Value.int .i64 0) := (hM.box 1 rfl).facts.1 0
  have rz1 : _ = some (Value.int .i64 0) := (hM.box 1 rfl).facts.1 1
  have rz2 : _ = some (Value.slice none 0 0) := (hM.box 1 rfl).facts.1 2
  have rz3 : _ = some (Value.slice none 0 0) := (hM.box 1 rfl).facts.1 3
  obtain ⟨-, rzf⟩ := (hM.box 1 rfl).facts
  have rzl := (hM.box 1 rfl).lt
  have hM8 := hM.set4 1 rfl (.int .i64 R.op) (.int .i64 R.n) (.slice b3 R.inn.length d3) (.slice b4 R.kids.length d4)
  simp only [List.set_cons_zero, List.set_cons_succ] at hM8
  clear hM
  go_wp2_with fail
  generalize World.setCell _ _ _ = w9 at *
  obtain ⟨q', -⟩ := (hM8.box 1 rfl).facts
  have q0 : _ = some (Value.int .i64 R.op) := q' 0
  have q1 : _ = some (Value.int .i64 R.n) := q' 1
  have q2 : _ = some (Value.slice b3 R.inn.length d3) := q' 2
  have q3 : _ = some (Value.slice b4 R.kids.length d4) := q' 3
  refine bodyPost_ret (v := fmV R b3 d3 b4 d4) (by simp [results, Tryz.results12, go_sem, q0, q1, q2, q3, fmV]) rfl ?_
  exact ⟨_, rfl, hM8.ex, b3, d3, b4, d4, rfl, mono_FmR _ _ _ _ hM8.ple hf⟩
abbrev FmsS (l : List Fm) : Value → World → Prop := fun v w => FmsR (ph w) v l
theorem stab_FmsS {W : World} (l : List Fm) : Stable W (FmsS l) := fun v w w' _ h e => h.mono mono_FmR e.ple
def WorldQ (w : World) (e : Ending) (w' : World) : Prop := ∃ B v ps rk, e = .returned (.tuple #[.pointer (some ⟨B, 0, none⟩), v]) ∧ Ext w w' ∧ RowsR (ph w') v ps ∧ ParOk ps rk ∧ (ps.length : Int) ≤ 5 ∧ TaxR w' B ps
set_option maxHeartbeats 1000000 in
theorem world9_c (l : List Int) (vl : Value) (w : World) (hr : IntsR (ph w) vl l) : Calls Tryz.prog 9 #[vl] w (WorldQ w) := by
  have hr0 := hr
  obtain ⟨xa, xc, rfl, -, -⟩ := hr.form
  go_enter Tryz.func9, Tryz.ntmps9
  go_wp2_with fail
  refine (parents_c l _ 5 w hr0 (by omega) (by omega)).mono ?_
  rintro e w1 ⟨vp, ps, rk, rfl, hps, ok, hpm, hx1⟩
  obtain ⟨pa, pc, rfl, -, -⟩ := hps.form
  go_wp2_with fail
  refine (newTx_c ok _ w1 hps).mono ?_
  rintro e w2 ⟨B, rfl, hx2, hT⟩
  go_wp2_with fail
  refine bodyPost_ret (v := .tuple #[.pointer (some ⟨B, 0, none⟩), .slice pa ps.length pc]) (by simp [results, Tryz.results9, go_sem]) rfl ?_
  exact ⟨B, _, ps, rk, rfl, hx1.then hx2, hps.mono mono_IntsRow hx2.ple, ok, hpm, hT⟩
def AlB (x : Al) : Prop := sumN Fm.bulk x.has ≤ 90000 ∧ sumN Fm.bulk x.non ≤ 90000 ∧ x.nums.length ≤ 1000000
set_option maxRecDepth 100000 in
set_option maxHeartbeats 4000000 in
theorem sameL_c (l : List Al) (va vb : Value) (w : World) (ha : AltsR (ph w) va l) (hb : AltsR (ph w) vb l) (hB : ∀ x ∈ l, AlB x) :
    Calls Tryz.prog 16 #[va, vb] w (RetV w (.bool true)) := by
  obtain ⟨a, c, rfl, hlen, ha⟩ := ha.form
  obtain ⟨b, d, rfl, -, hb⟩ := hb.form
  replace hB := Lib.hid hB
  go_enter Tryz.func16, Tryz.ntmps16
  go_wp2_with fail
  go_loopw [5] (fun i wr => ∃ k : Nat, k ≤ l.length ∧ i = .int .i64 k ∧ Ext w wr) (fun i _ => l.length - (intOf i).toNat)
  case atStart => exact ⟨0, Nat.zero_le _, rfl, Ext.rfl' _⟩
  case round =>
    obtain ⟨k, hk, rfl, hxr⟩ := hrel
    by_cases hlt : k < l.length
    · obtain ⟨ba, oa, i1, j1, i2, j2, i3, j3, i4, j4, i5, j5, rfl, z0, z1, z2, z3, z4, hE, zl⟩ := AltsR.atH ha hxr.ple k hlt
      obtain ⟨bb, ob, k1, m1, k2, m2, k3, m3, k4, m4, k5, m5, rfl, y0, y1, y2, y3, y4, hF, yl⟩ := AltsR.atH hb hxr.ple k hlt
      obtain ⟨c1, c2, c3⟩ := hB.out _ (List.getElem_mem hlt)
      generalize l[k] = x at *
      have hE' := mono_AltR _ _ _ _ hxr.ple hE
      have hF' := mono_AltR _ _ _ _ hxr.ple hF
      have hp := Lib.hid (fun W' (e : Ext wr W') => plain_nc (H := ph wr) x _ W' e.ple hE' c3)
      have hs := Lib.hid (fun W' (e : Ext wr W') ds (h : AltR (ph W') ds x) => sameA_c x ds _ W' h (mono_AltR _ _ _ _ e.ple hF') c1 c2 c3)
      clear ha hb hE hF hE' hF' c1 c2 c3
      go_upto_region 6 with (fail)
      (refine wp_region_I 11 (by kernel_rfl) (by kernel_rfl) ?_; simp only [List.toList_toArray, List.take_succ_cons, List.take_zero, List.drop_succ_cons, List.drop_zero])
      iterate 4 (refine wiA rfl (by simp) rfl ?_; (try simp only [List.nil_append, List.cons_append]))
      (refine walkI_step ((fun v w' => ∃ ds : List Value, v = .agg ds.toArray ∧ AltR (ph w') ds x)) rfl (by simp) rfl ((fun v w w' hS ⟨ds, h1, h2⟩ e' => ⟨ds, h1, mono_AltR _ _ _ _ e'.ple h2⟩)) ?_ ?_; (focus (intro A w' hS hA K hK; (simp only [List.map_cons, List.map_nil, knows, Is, Op.operands, Call.operands, List.lookup_cons, List.lookup_nil, Nat.reduceBEq, Bool.false_eq_true, if_false, if_true, Act.eval, Array.getD_eq_getD_getElem?, List.getElem?_toArray, List.getElem?_cons_succ, List.getElem?_cons_zero, Option.getD_some, and_true, true_and, List.append_toArray, List.nil_append, List.cons_append, List.toList_toArray, Array.toList_append, Option.toArray, List.append_nil] at hA); (go_simp; refine (hp.out _ hS).mono ?_; rintro e w9 ⟨ds, rfl, hx9, hQ⟩; exact hK _ _ hx9 ⟨ds, rfl, mono_AltR _ _ _ _ (up_ple hS.ple hx9) hQ⟩))); (try simp only [List.nil_append, List.cons_append]))
      iterate 4 (refine wiA rfl (by simp) rfl ?_; (try simp only [List.nil_append, List.cons_append]))
      (refine walkI_is (u := (.bool true)) rfl (by simp) rfl ?_ ?_; (focus (intro A w' hS hA K hK; (simp only [List.map_cons, List.map_nil, knows, Is, Op.operands, Call.operands, List.lookup_cons, List.lookup_nil, Nat.reduceBEq, Bool.false_eq_true, if_false, if_true, Act.eval, Array.getD_eq_getD_getElem?, List.getElem?_toArray, List.getElem?_cons_succ, List.getElem?_cons_zero, Option.getD_some, and_true, true_and, List.append_toArray, List.nil_append, List.cons_append, List.toList_toArray, Array.toList_append, Option.toArray, List.append_nil] at hA); (obtain ⟨⟨ds, h1, h2⟩, h3⟩ := hA; go_simp; refine (hs.out _ hS ds h2).mono ?_; rintro e w9 ⟨rfl, hx9⟩; exact hK _ hx9))); (try simp only [List.nil_append, List.cons_append]))
      (refine wiA rfl (by simp) rfl ?_; (try simp only [List.nil_append, List.cons_append]))
      (refine walkI_nil ?_; simp only [List.nil_append, List.cons_append, fins, Is, forall_eq, Act.put, List.setIfInBounds_toArray, List.set_cons_zero, List.set_cons_succ])
      rintro w5 hx5 v21 -
      go_wp2_with fail
      go_roundw
      case rel => exact ⟨k + 1, by omega, by go_num, hxr.then hx5⟩
      case measure => simp [intOf]; omega
    · have hkk : k = l.length := by omega
      subst hkk
      go_wp2_with fail
      go_ret
      exact ⟨rfl, hxr⟩
theorem repP1 {α : Type} {E : PH → List Value → α → Prop} {sz : Nat} {w : World} (hm : Mono E) {cs : List Value} {x : α} {T : TypeId} (h : E (ph w) cs x) (hn : cs.length = sz) :
    SliceRep E sz (ph (w.alloc (.cells cs.toArray T))) (.slice (some ⟨w.heap.size, 0, none⟩) 1 1) [x] :=
  (((Mem.start w (ph w) (fun _ _ h => h)).new' cs.toArray T (n := w.heap.size) rfl).asOwn 0 rfl hm (xs := [x]) (n := 1) (sz := sz) (by simp) (by decide) (by simp [hn]) ⟨cs, [], by simp [← hn], hn, h, rfl⟩).rep 0 rfl
theorem repP2 {α : Type} {E : PH → List Value → α → Prop} {sz : Nat} {w : World} (hm : Mono E) {cs ds : List Value} {x y : α} {T : TypeId} (h : E (ph w) cs x) (h2 : E (ph w) ds y) (hn : cs.length = sz) (hn2 : ds.length = sz) :
    SliceRep E sz (ph (w.alloc (.cells (cs ++ ds).toArray T))) (.slice (some ⟨w.heap.size, 0, none⟩) 2 2) [x, y] :=
  (((Mem.start w (ph w) (fun _ _ h => h)).new' (cs ++ ds).toArray T (n := w.heap.size) rfl).asOwn 0 rfl hm (xs := [x, y]) (n := 2) (sz := sz) (by simp) (by decide) (by simp [hn, hn2]; omega) ⟨cs, ds, List.take_of_length_le (by simp [hn, hn2]; omega), hn, h, ⟨ds, [], by simp, hn2, h2, rfl⟩⟩).rep 0 rfl
def lvI : Itv := ⟨⟨1, 1⟩, ⟨2, 1⟩, false, false, false, false⟩
def lvF : Fm := .mk 2 2 [lvI] []
def lvA : Itv := ⟨⟨0, 0⟩, ⟨1, 1⟩, false, true, true, false⟩
def lvB : Itv := ⟨⟨2, 1⟩, ⟨0, 0⟩, true, false, false, true⟩
def lvN : Nm := ⟨2, [lvA, lvB], true⟩
def lvOr : Fm := .mk 5 0 [] [clsF 0, clsF 1]
def lvNot : Fm := .mk 6 0 [] [lvF]
def lv1 : Fm := .mk 4 0 [] [lvOr, lvNot]
def lvP : Fm := .mk 3 0 [] [clsF 0]
def lv2 : Fm := .mk 6 0 [] [lvP]
def lw1 : List Al := [⟨[0], [], [lvN], [], []⟩, ⟨[1], [], [lvN], [], []⟩]
def lw2 : List Al := [⟨[], [], [], [], [clsF 0]⟩]
theorem lv1_law : altsN lv1 2 2 = (lw1, 0) := by kernel_rfl
theorem lv2_law : altsN lv2 2 1 = (lw2, 0) := by kernel_rfl
def P0 : List (List Int) := [[], []]
theorem okP0 : ParOk P0 (fun n => n) where
  pos := by decide
  le := by decide
  inc := by
    intro l hl
    simp only [P0, List.mem_cons, List.not_mem_nil, or_false] at hl
    rcases hl with rfl | rfl <;> simp [ascTx]
  inn := by
    intro c l h p hp
    match c, h with
    | 0, h => cases h; cases hp
    | 1, h => cases h; cases hp
  rk := by
    intro c l p h hp
    match c, h with
    | 0, h => cases h; cases hp
    | 1, h => cases h; cases hp
def TupA (l : List Al) (v : Value) (w : World) : Prop := ∃ q, v = .tuple #[q, .int .i64 0] ∧ AltsR (ph w) q l
theorem stab_TupA {W : World} (l : List Al) : Stable W (TupA l) := fun v w w' _ ⟨q, h1, h2⟩ e => ⟨q, h1, h2.mono mono_AltR e.ple⟩
abbrev AltS (l : List Al) : Value → World → Prop := fun v w => AltsR (ph w) v l
theorem stab_AltS {W : World} (l : List Al) : Stable W (AltS l) := fun v w w' _ h e => h.mono mono_AltR e.ple
theorem alts_t {ps : List (List Int)} {B : Nat} (hn : ps.length ≤ 64) (f : Fm) (v : Value) (most : Int) (l : List Al) (w : World) (hT : TaxR w B ps) (hr : FmIs f (ph w) v) (hb : f.bulk ≤ 900000) (hm : I64 most) (he : altsN f ps.length most = (l, 0)) :
    Calls Tryz.prog 14 #[.pointer (some ⟨B, 0, none⟩), v, .int .i64 most] w (fun e w' => ∃ u, e = .returned u ∧ Ext w w' ∧ TupA l u w') := by
  obtain ⟨a3, c3, a4, c4, rfl, hr⟩ := hr
  have h := alts_nc hn f (fmC f a3 c3 a4 c4) most w (PLe.refl _) hT hr hb hm
  rw [he] at h
  refine h.mono ?_
  rintro e w' ⟨q, rfl, hx, hq⟩
  exact ⟨_, rfl, hx, q, rfl, hq.mono mono_AltR (up_ple (PLe.refl _) hx)⟩
set_option maxRecDepth 100000 in
set_option maxHeartbeats 8000000 in
theorem lives9_c (w : World) : Calls Tryz.prog 17 #[] w (RetV w (.bool true)) := by
  have hrows : RowsR (ph (w.alloc (.cells #[.slice none 0 0, .slice none 0 0] 22))) (.slice (some ⟨w.heap.size, 0, none⟩) 2 2) P0 := repP2 (w := w) (T := 22) mono_IntsRow (cs := [.slice none 0 0]) (ds := [.slice none 0 0]) (x := []) (y := []) ⟨_, rfl, SliceRep.nil _ _ _⟩ ⟨_, rfl, SliceRep.nil _ _ _⟩ rfl rfl
  have hx : Ext w (w.alloc (.cells #[.slice none 0 0, .slice none 0 0] 22)) := Ext.new _ _
  have i0 : I64 0 := by simp [I64]
  have i1 : I64 1 := by simp [I64]
  have n0 : ((0 : Int) != 0) = false := rfl
  have n1 : ((0 : Int) == 0) = true := rfl
  go_enter Tryz.func17, Tryz.ntmps17
  go_wp2_with fail
  generalize World.alloc _ _ = wa at *
  refine (newTx_c okP0 _ _ hrows).mono ?_
  rintro e wb ⟨B, rfl, hxb, hT⟩
  replace hx := hx.then hxb
  clear hrows hxb
  have hM := (((((Mem.start wb (ph wb) (fun _ _ h => h)).new' #[.int .i64 1, .int .i64 1] 72 (n := wb.heap.size) rfl).new' #[.int .i64 2, .int .i64 1] 72 (n := wb.heap.size + 1) (by simp)).new' (itC lvI).toArray 91 (n := wb.heap.size + 1 + 1) (by simp)).asOwn 2 rfl mono_ItvR (sz := 8) (xs := [lvI]) (n := 1) (by simp) (by decide) rfl ⟨itC lvI, [], rfl, rfl, ⟨rfl, by unfold Itv.I Rat2.I I64 lvI; decide⟩, rfl⟩).new' #[.int .i64 2, .int .i64 2, .slice (some ⟨wb.heap.size + 1 + 1, 0, none⟩) 1 1, .slice none 0 0] 30 (n := wb.heap.size + 1 + 1 + 1) (by simp [itC])
  simp only [List.cons_append, List.nil_append, List.set_cons_succ, List.set_cons_zero] at hM
  go_upto_region 7 with (fail)
  have hrI := hM.rep 2 rfl
  have hxm := hM.ex
  have z0 : _ = some (Value.int .i64 2) := (hM.box 3 rfl).facts.1 0
  have z1 : _ = some (Value.int .i64 2) := (hM.box 3 rfl).facts.1 1
  have z2 : _ = some (Value.slice (some ⟨wb.heap.size + 1 + 1, 0, none⟩) 1 1) := (hM.box 3 rfl).facts.1 2
  have z3 : _ = some (Value.slice none 0 0) := (hM.box 3 rfl).facts.1 3
  have zl := (hM.box 3 rfl).lt
  have p0 : _ = some (Value.int .i64 1) := (hM.box 0 rfl).facts.1 0
  have p1 : _ = some (Value.int .i64 1) := (hM.box 0 rfl).facts.1 1
  have pl := (hM.box 0 rfl).lt
  have q0 : _ = some (Value.int .i64 2) := (hM.box 1 rfl).facts.1 0
  have q1 : _ = some (Value.int .i64 1) := (hM.box 1 rfl).facts.1 1
  have ql := (hM.box 1 rfl).lt
  clear hM
  simp only [lvI, itC] at *
  generalize World.alloc _ _ = W at *
  generalize wb.heap.size + 1 + 1 + 1 = g5 at *
  generalize wb.heap.size + 1 + 1 = gi at *
  generalize wb.heap.size + 1 = g4 at *
  generalize wb.heap.size = g3 at *
  replace hT := hT.keep hxm
  replace hx := hx.then hxm
  have hrJ : ItvsR (ph W) (.slice (some ⟨gi, 0, none⟩) 1 1) [lvI] := hrI
  clear hrI hxm
  have hfI := Lib.hid (fun W' (e : Ext W W') => (show FmIs lvF (ph W') (.agg #[.int .i64 2, .int .i64 2, .slice (some ⟨gi, 0, none⟩) 1 1, .slice none 0 0]) from ⟨some ⟨gi, 0, none⟩, 1, none, 0, rfl, FmR.of (f := lvF) (by simp [lvF, Fm.op, I64]) (by simp [lvF, Fm.n, I64]) (hrJ.mono mono_ItvR e.ple) (SliceRep.nil _ _ _)⟩))
  have hal := Lib.hid (fun W' (e : Ext W W') v (h : FmIs lv1 (ph W') v) => alts_t (ps := P0) (by decide) lv1 v 2 lw1 W' (hT.keep e) h (by simp [lv1, lvOr, lvNot, lvF, clsF, Fm.bulk, fbulks]) (by simp [I64]) lv1_law)
  have hal2 := Lib.hid (fun W' (e : Ext W W') v (h : FmIs lv2 (ph W') v) => alts_t (ps := P0) (by decide) lv2 v 1 lw2 W' (hT.keep e) h (by simp [lv2, lvP, clsF, Fm.bulk, fbulks]) (by simp [I64]) lv2_law)
  clear hT hrJ
  have i4 : I64 4 := by simp [I64]
  have i5 : I64 5 := by simp [I64]
  have i3 : I64 3 := by simp [I64]
  (refine wp_region_I 15 (by kernel_rfl) (by kernel_rfl) ?_; simp only [List.toList_toArray, List.take_succ_cons, List.take_zero, List.drop_succ_cons, List.drop_zero])
  (refine wiA rfl (by simp) rfl ?_; (try simp only [List.nil_append, List.cons_append]))
  (refine walkI_is (u := ?_) rfl (by simp) rfl ?_ ?_; rotate_left; (focus (intro A w' hS hA K hK; (simp only [List.map_cons, List.map_nil, knows, Is, Op.operands, Call.operands, List.lookup_cons, List.lookup_nil, Nat.reduceBEq, Bool.false_eq_true, if_false, if_true, Act.eval, Array.getD_eq_getD_getElem?, List.getElem?_toArray, List.getElem?_cons_succ, List.getElem?_cons_zero, Option.getD_some, and_true, true_and, List.append_toArray, List.nil_append, List.cons_append, List.toList_toArray, Array.toList_append, Option.toArray, List.append_nil] at hA); first | (go_simp; refine RetV_at (class9_c 0 _) ?_; intro w'' hx''; exact hK _ hx'') | (obtain ⟨hSc, hSf, hSs⟩ := hS.cells; go_simp; exact hK _ xN))); (try simp only [List.nil_append, List.cons_append]))
  (refine walkI_is (u := ?_) rfl (by simp) rfl ?_ ?_; rotate_left; (focus (intro A w' hS hA K hK; (simp only [List.map_cons, List.map_nil, knows, Is, Op.operands, Call.operands, List.lookup_cons, List.lookup_nil, Nat.reduceBEq, Bool.false_eq_true, if_false, if_true, Act.eval, Array.getD_eq_getD_getElem?, List.getElem?_toArray, List.getElem?_cons_succ, List.getElem?_cons_zero, Option.getD_some, and_true, true_and, List.append_toArray, List.nil_append, List.cons_append, List.toList_toArray, Array.toList_append, Option.toArray, List.append_nil] at hA); first | (go_simp; refine RetV_at (class9_c 1 _) ?_; intro w'' hx''; exact hK _ hx'') | (obtain ⟨hSc, hSf, hSs⟩ := hS.cells; go_simp; exact hK _ xN))); (try simp only [List.nil_append, List.cons_append]))
  (refine walkI_step (FmsS [clsF 0, clsF 1]) rfl (by simp) rfl (stab_FmsS _) ?_ ?_; (focus (intro A w' hS hA K hK; (simp only [List.map_cons, List.map_nil, knows, Is, Op.operands, Call.operands, List.lookup_cons, List.lookup_nil, Nat.reduceBEq, Bool.false_eq_true, if_false, if_true, Act.eval, Array.getD_eq_getD_getElem?, List.getElem?_toArray, List.getElem?_cons_succ, List.getElem?_cons_zero, Option.getD_some, and_true, true_and, List.append_toArray, List.nil_append, List.cons_append, List.toList_toArray, Array.toList_append, Option.toArray, List.append_nil] at hA); (go_simp; exact hK _ _ (Ext.new _ _) (litF2 (w := w') (clsF_R _ i0) (clsF_R _ i1))))); (try simp only [List.nil_append, List.cons_append]))
  (refine walkI_step (FmS lvOr) rfl (by simp) rfl (stab_FmS _) ?_ ?_; (focus (intro A w' hS hA K hK; (simp only [List.map_cons, List.map_nil, knows, Is, Op.operands, Call.operands, List.lookup_cons, List.lookup_nil, Nat.reduceBEq, Bool.false_eq_true, if_false, if_true, Act.eval, Array.getD_eq_getD_getElem?, List.getElem?_toArray, List.getElem?_cons_succ, List.getElem?_cons_zero, Option.getD_some, and_true, true_and, List.append_toArray, List.nil_append, List.cons_append, List.toList_toArray, Array.toList_append, Option.toArray, List.append_nil] at hA); (go_simp; refine RetF_at (of9_c 5 _ _ _ i5 hA) ?_; intro v w'' hx'' hf; exact hK _ _ hx'' hf))); (try simp only [List.nil_append, List.cons_append]))
  (refine wiA rfl (by simp) rfl ?_; (try simp only [List.nil_append, List.cons_append]))
  (refine walkI_step (FmS lvNot) rfl (by simp) rfl (stab_FmS _) ?_ ?_; (focus (intro A w' hS hA K hK; (simp only [List.map_cons, List.map_nil, knows, Is, Op.operands, Call.operands, List.lookup_cons, List.lookup_nil, Nat.reduceBEq, Bool.false_eq_true, if_false, if_true, Act.eval, Array.getD_eq_getD_getElem?, List.getElem?_toArray, List.getElem?_cons_succ, List.getElem?_cons_zero, Option.getD_some, and_true, true_and, List.append_toArray, List.nil_append, List.cons_append, List.toList_toArray, Array.toList_append, Option.toArray, List.append_nil] at hA); (go_simp; refine RetF_at (not9_c lvF _ _ (hfI.out _ hS)) ?_; intro v w'' hx'' hf; exact hK _ _ hx'' hf))); (try simp only [List.nil_append, List.cons_append]))
  (refine walkI_step (FmsS [lvOr, lvNot]) rfl (by simp) rfl (stab_FmsS _) ?_ ?_; (focus (intro A w' hS hA K hK; (simp only [List.map_cons, List.map_nil, knows, Is, Op.operands, Call.operands, List.lookup_cons, List.lookup_nil, Nat.reduceBEq, Bool.false_eq_true, if_false, if_true, Act.eval, Array.getD_eq_getD_getElem?, List.getElem?_toArray, List.getElem?_cons_succ, List.getElem?_cons_zero, Option.getD_some, and_true, true_and, List.append_toArray, List.nil_append, List.cons_append, List.toList_toArray, Array.toList_append, Option.toArray, List.append_nil] at hA); (obtain ⟨⟨f3, g3', f4, g4', hA2, hA3⟩, k3, m3', k4, m4', hB2, hB3⟩ := hA; go_simp; exact hK _ _ (Ext.new _ _) (litF2 (w := w') hA3 hB3)))); (try simp only [List.nil_append, List.cons_append]))
  (refine walkI_step (FmS lv1) rfl (by simp) rfl (stab_FmS _) ?_ ?_; (focus (intro A w' hS hA K hK; (simp only [List.map_cons, List.map_nil, knows, Is, Op.operands, Call.operands, List.lookup_cons, List.lookup_nil, Nat.reduceBEq, Bool.false_eq_true, if_false, if_true, Act.eval, Array.getD_eq_getD_getElem?, List.getElem?_toArray, List.getElem?_cons_succ, List.getElem?_cons_zero, Option.getD_some, and_true, true_and, List.append_toArray, List.nil_append, List.cons_append, List.toList_toArray, Array.toList_append, Option.toArray, List.append_nil] at hA); (go_simp; refine RetF_at (of9_c 4 _ _ _ i4 hA) ?_; intro v w'' hx'' hf; exact hK _ _ hx'' hf))); (try simp only [List.nil_append, List.cons_append]))
  (refine walkI_step (TupA lw1) rfl (by simp) rfl (stab_TupA _) ?_ ?_; (focus (intro A w' hS hA K hK; (simp only [List.map_cons, List.map_nil, knows, Is, Op.operands, Call.operands, List.lookup_cons, List.lookup_nil, Nat.reduceBEq, Bool.false_eq_true, if_false, if_true, Act.eval, Array.getD_eq_getD_getElem?, List.getElem?_toArray, List.getElem?_cons_succ, List.getElem?_cons_zero, Option.getD_some, and_true, true_and, List.append_toArray, List.nil_append, List.cons_append, List.toList_toArray, Array.toList_append, Option.toArray, List.append_nil] at hA); (obtain ⟨hA1, hA2⟩ := hA; go_simp; refine (hal.out _ hS _ hA2).mono ?_; rintro e w'' ⟨u, rfl, hx'', hf⟩; exact hK _ _ hx'' hf))); (try simp only [List.nil_append, List.cons_append]))
  (refine walkI_step (TupA lw1) rfl (by simp) rfl (stab_TupA _) ?_ ?_; (focus (intro A w' hS hA K hK; (simp only [List.map_cons, List.map_nil, knows, Is, Op.operands, Call.operands, List.lookup_cons, List.lookup_nil, Nat.reduceBEq, Bool.false_eq_true, if_false, if_true, Act.eval, Array.getD_eq_getD_getElem?, List.getElem?_toArray, List.getElem?_cons_succ, List.getElem?_cons_zero, Option.getD_some, and_true, true_and, List.append_toArray, List.nil_append, List.cons_append, List.toList_toArray, Array.toList_append, Option.toArray, List.append_nil] at hA); (go_simp; exact hK _ _ (Ext.rfl' _) hA))); (try simp only [List.nil_append, List.cons_append]))
  (refine walkI_step (AltS lw1) rfl (by simp) rfl (stab_AltS _) ?_ ?_; (focus (intro A w' hS hA K hK; (simp only [List.map_cons, List.map_nil, knows, Is, Op.operands, Call.operands, List.lookup_cons, List.lookup_nil, Nat.reduceBEq, Bool.false_eq_true, if_false, if_true, Act.eval, Array.getD_eq_getD_getElem?, List.getElem?_toArray, List.getElem?_cons_succ, List.getElem?_cons_zero, Option.getD_some, and_true, true_and, List.append_toArray, List.nil_append, List.cons_append, List.toList_toArray, Array.toList_append, Option.toArray, List.append_nil] at hA); (obtain ⟨q, hA1, hA2⟩ := hA; go_simp; exact hK _ _ (Ext.rfl' _) hA2))); (try simp only [List.nil_append, List.cons_append]))
  (refine walkI_is (u := (.int .i64 0)) rfl (by simp) rfl ?_ ?_; (focus (intro A w' hS hA K hK; (simp only [List.map_cons, List.map_nil, knows, Is, Op.operands, Call.operands, List.lookup_cons, List.lookup_nil, Nat.reduceBEq, Bool.false_eq_true, if_false, if_true, Act.eval, Array.getD_eq_getD_getElem?, List.getElem?_toArray, List.getElem?_cons_succ, List.getElem?_cons_zero, Option.getD_some, and_true, true_and, List.append_toArray, List.nil_append, List.cons_append, List.toList_toArray, Array.toList_append, Option.toArray, List.append_nil] at hA); (obtain ⟨q, hA1, hA2⟩ := hA; go_simp; exact hK _ (Ext.rfl' _)))); (try simp only [List.nil_append, List.cons_append]))
  (refine walkI_step (AltS lw1) rfl (by simp) rfl (stab_AltS _) ?_ ?_; (focus (intro A w' hS hA K hK; (simp only [List.map_cons, List.map_nil, knows, Is, Op.operands, Call.operands, List.lookup_cons, List.lookup_nil, Nat.reduceBEq, Bool.false_eq_true, if_false, if_true, Act.eval, Array.getD_eq_getD_getElem?, List.getElem?_toArray, List.getElem?_cons_succ, List.getElem?_cons_zero, Option.getD_some, and_true, true_and, List.append_toArray, List.nil_append, List.cons_append, List.toList_toArray, Array.toList_append, Option.toArray, List.append_nil] at hA); (go_simp; exact hK _ _ (Ext.rfl' _) hA))); (try simp only [List.nil_append, List.cons_append]))
  (refine walkI_is (u := (.int .i64 0)) rfl (by simp) rfl ?_ ?_; (focus (intro A w' hS hA K hK; (simp only [List.map_cons, List.map_nil, knows, Is, Op.operands, Call.operands, List.lookup_cons, List.lookup_nil, Nat.reduceBEq, Bool.false_eq_true, if_false, if_true, Act.eval, Array.getD_eq_getD_getElem?, List.getElem?_toArray, List.getElem?_cons_succ, List.getElem?_cons_zero, Option.getD_some, and_true, true_and, List.append_toArray, List.nil_append, List.cons_append, List.toList_toArray, Array.toList_append, Option.toArray, List.append_nil] at hA); (go_simp; exact hK _ (Ext.rfl' _)))); (try simp only [List.nil_append, List.cons_append]))
  (refine walkI_nil ?_; simp only [List.nil_append, List.cons_append, fins, Is, forall_eq, Act.put, List.setIfInBounds_toArray, List.set_cons_zero, List.set_cons_succ])
  rintro W5 hx5 v34 - v35 - v37 - v38 - v39 - v40 - v30 - v41 - v6 hL1
  replace hx := hx.then hx5
  replace hal2 := Lib.hid (fun W' (e : Ext W5 W') => hal2.out W' (hx5.then e))
  replace p0 := hx5.cell1 p0
  replace p1 := hx5.cell1 p1
  replace q0 := hx5.cell1 q0
  replace q1 := hx5.cell1 q1
  replace pl := cell_lt p0
  replace ql := cell_lt q0
  clear z0 z1 z2 z3 zl hal hfI hx5
  obtain ⟨l1, m1, rfl, -, hL1⟩ := hL1.form
  go_wp2_with fail
  refine RetV_at (class9_c 0 _) ?_
  intro W6 hx6
  have hl6 := litF1 (w := W6) (clsF_R (n := 0) _ i0)
  have hy := hx6.then (Ext.new W6 (.cells (fmC (clsF 0) none 0 none 0).toArray 30))
  go_wp2_with fail
  refine RetF_at (of9_c 3 [clsF 0] _ _ i3 hl6) ?_
  intro v47 W7 hx7 hf7
  go_wp2_with fail
  refine RetF_at (not9_c lvP _ _ hf7) ?_
  intro v48 W8 hx8 hf8
  have hy8 := (hy.then hx7).then hx8
  go_wp2_with fail
  refine (hal2.out _ hy8 _ hf8).mono ?_
  rintro e W9 ⟨u, rfl, hx9, q, rfl, hL2⟩
  replace hy8 := hy8.then hx9
  obtain ⟨l2, m2, rfl, -, hL2⟩ := hL2.form
  replace hx := hx.then hy8
  replace p0 := hy8.cell1 p0
  replace p1 := hy8.cell1 p1
  replace q0 := hy8.cell1 q0
  replace q1 := hy8.cell1 q1
  replace pl := cell_lt p0
  replace ql := cell_lt q0
  replace hL1 := hL1.mono mono_AltR hy8.ple
  clear hf7 hf8 hx6 hx7 hx8 hx9 hy hy8 hal2 hl6
  have hN1 := repP2 (w := W9) (T := 91) mono_ItvR (cs := itC lvA) (ds := itC lvB) (x := lvA) (y := lvB) ⟨rfl, by unfold Itv.I Rat2.I I64 lvA; decide⟩ ⟨rfl, by unfold Itv.I Rat2.I I64 lvB; decide⟩ rfl rfl
  have hN2 := repP1 (w := W9.alloc (.cells (itC lvA ++ itC lvB).toArray 91)) (T := 70) mono_NumR (x := lvN) ⟨_, _, rfl, by simp [lvN, I64], hN1⟩ rfl
  have hxa := (Ext.new W9 (.cells (itC lvA ++ itC lvB).toArray 91)).then (Ext.new (W9.alloc (.cells (itC lvA ++ itC lvB).toArray 91)) (.cells #[.int .i64 lvN.attr, .slice (some ⟨W9.heap.size, 0, none⟩) lvN.inn.length 2, .bool lvN.abs] 70))
  have hes : (W9.alloc (.cells (itC lvA ++ itC lvB).toArray 91)).heap.size = W9.heap.size + 1 := by simp
  rw [hes] at hN2
  have hN3 : NumsR (ph ((W9.alloc (.cells #[.int .i64 0, .int .i64 0, .int .i64 1, .int .i64 1, .bool false, .bool true, .bool true, .bool false, .int .i64 2, .int .i64 1, .int .i64 0, .int .i64 0, .bool true, .bool false, .bool false, .bool true] 91)).alloc (.cells #[.int .i64 2, .slice (some ⟨W9.heap.size, 0, none⟩) 2 2, .bool true] 70))) (.slice (some ⟨W9.heap.size + 1, 0, none⟩) 1 1) [lvN] := hN2
  have hxb : Ext W9 ((W9.alloc (.cells #[.int .i64 0, .int .i64 0, .int .i64 1, .int .i64 1, .bool false, .bool true, .bool true, .bool false, .int .i64 2, .int .i64 1, .int .i64 0, .int .i64 0, .bool true, .bool false, .bool false, .bool true] 91)).alloc (.cells #[.int .i64 2, .slice (some ⟨W9.heap.size, 0, none⟩) 2 2, .bool true] 70)) := hxa
  clear hN1 hN2 hxa hes
  go_upto_region 10 with (fail)
  generalize World.alloc _ _ = Wn at *
  generalize W9.heap.size + 1 = gn at *
  replace hx := hx.then hxb
  replace hL1 := hL1.mono mono_AltR hxb.ple
  replace hL2 := hL2.mono mono_AltR hxb.ple
  clear hxb p0 p1 q0 q1 pl ql
  have hI0 := repP1 (w := Wn) (T := 3) mono_IntR (ints_one (ph Wn) 0 i0) rfl
  have hI1 := repP1 (w := Wn.alloc (.cells #[.int .i64 0] 3)) (T := 3) mono_IntR (ints_one (ph (Wn.alloc (.cells #[.int .i64 0] 3))) 1 i1) rfl
  have he1 := Ext.new Wn (.cells #[.int .i64 0] 3)
  have he2 := Ext.new (Wn.alloc (.cells #[.int .i64 0] 3)) (.cells #[.int .i64 1] 3)
  have hz1 : (Wn.alloc (.cells #[.int .i64 0] 3)).heap.size = Wn.heap.size + 1 := by simp
  have hz2 : ((Wn.alloc (.cells #[.int .i64 0] 3)).alloc (.cells #[.int .i64 1] 3)).heap.size = Wn.heap.size + 1 + 1 := by simp
  rw [hz1] at hI1
  have hA0 := hI0.mono mono_IntR he2.ple
  have hA2 := hN3.mono mono_NumR (he1.then he2).ple
  have hWa := repP2 (w := (Wn.alloc (.cells #[.int .i64 0] 3)).alloc (.cells #[.int .i64 1] 3)) (T := 49) mono_AltR (x := ⟨[0], [], [lvN], [], []⟩) (y := ⟨[1], [], [lvN], [], []⟩) (cs := [.slice (some ⟨Wn.heap.size, 0, none⟩) 1 1, .slice none 0 0, .slice (some ⟨gn, 0, none⟩) 1 1, .slice none 0 0, .slice none 0 0]) (ds := [.slice (some ⟨Wn.heap.size + 1, 0, none⟩) 1 1, .slice none 0 0, .slice (some ⟨gn, 0, none⟩) 1 1, .slice none 0 0, .slice none 0 0])
    ⟨_, _, _, _, _, _, _, _, _, _, rfl, hA0, SliceRep.nil _ _ _, hA2, SliceRep.nil _ _ _, SliceRep.nil _ _ _⟩ ⟨_, _, _, _, _, _, _, _, _, _, rfl, hI1, SliceRep.nil _ _ _, hA2, SliceRep.nil _ _ _, SliceRep.nil _ _ _⟩ rfl rfl
  rw [hz2] at hWa
  have he3 := (he1.then he2).then (Ext.new ((Wn.alloc (.cells #[.int .i64 0] 3)).alloc (.cells #[.int .i64 1] 3)) (.cells #[.slice (some ⟨Wn.heap.size, 0, none⟩) 1 1, .slice none 0 0, .slice (some ⟨gn, 0, none⟩) 1 1, .slice none 0 0, .slice none 0 0, .slice (some ⟨Wn.heap.size + 1, 0, none⟩) 1 1, .slice none 0 0, .slice (some ⟨gn, 0, none⟩) 1 1, .slice none 0 0, .slice none 0 0] 49))
  have hWb : AltsR (ph (((Wn.alloc (.cells #[.int .i64 0] 3)).alloc (.cells #[.int .i64 1] 3)).alloc (.cells #[.slice (some ⟨Wn.heap.size, 0, none⟩) 1 1, .slice none 0 0, .slice (some ⟨gn, 0, none⟩) 1 1, .slice none 0 0, .slice none 0 0, .slice (some ⟨Wn.heap.size + 1, 0, none⟩) 1 1, .slice none 0 0, .slice (some ⟨gn, 0, none⟩) 1 1, .slice none 0 0, .slice none 0 0] 49))) (.slice (some ⟨Wn.heap.size + 1 + 1, 0, none⟩) 2 2) lw1 := hWa
  clear hWa hI0 hI1 hA0 hA2 hz1 hz2 he1 he2 hN3
  go_upto_region 11 with (fail)
  generalize World.alloc _ _ = Wo at *
  replace hx := hx.then he3
  replace hL1 := hL1.mono mono_AltR he3.ple
  replace hL2 := hL2.mono mono_AltR he3.ple
  generalize Wn.heap.size + 1 + 1 = go at *
  clear he3
  have hs1 := sameL_c lw1 _ _ Wo hL1 hWb (by intro x hx; simp only [lw1, List.mem_cons, List.not_mem_nil, or_false] at hx; rcases hx with rfl | rfl <;> exact ⟨Nat.zero_le _, Nat.zero_le _, by decide⟩)
  clear hL1 hWb
  go_wp2_with fail
  refine RetV_at hs1 ?_
  intro Wp hxp
  replace hL2 := hL2.mono mono_AltR hxp.ple
  go_wp2_with fail
  refine RetV_at (class9_c 0 _) ?_
  intro Wq hxq
  replace hL2 := hL2.mono mono_AltR hxq.ple
  have hl6 := litF1 (w := Wq) (clsF_R (n := 0) _ i0)
  have hy := Ext.new Wq (.cells (fmC (clsF 0) none 0 none 0).toArray 30)
  have hes : (Wq.alloc (.cells (fmC (clsF 0) none 0 none 0).toArray 30)).heap.size = Wq.heap.size + 1 := by simp
  have hW2 := repP1 (w := Wq.alloc (.cells (fmC (clsF 0) none 0 none 0).toArray 30)) (T := 49) mono_AltR (x := ⟨[], [], [], [], [clsF 0]⟩) (cs := [.slice none 0 0, .slice none 0 0, .slice none 0 0, .slice none 0 0, .slice (some ⟨Wq.heap.size, 0, none⟩) 1 1]) ⟨_, _, _, _, _, _, _, _, _, _, rfl, SliceRep.nil _ _ _, SliceRep.nil _ _ _, SliceRep.nil _ _ _, SliceRep.nil _ _ _, hl6⟩ rfl
  rw [hes] at hW2
  have hy2 := hy.then (Ext.new (Wq.alloc (.cells (fmC (clsF 0) none 0 none 0).toArray 30)) (.cells #[.slice none 0 0, .slice none 0 0, .slice none 0 0, .slice none 0 0, .slice (some ⟨Wq.heap.size, 0, none⟩) 1 1] 49))
  replace hL2 := hL2.mono mono_AltR hy2.ple
  have hs2 := sameL_c lw2 _ _ _ hL2 hW2 (by intro x hx; simp only [lw2, List.mem_cons, List.not_mem_nil, or_false] at hx; subst hx; exact ⟨Nat.zero_le _, (by simp [sumN, clsF, Fm.bulk, fbulks]), Nat.zero_le _⟩)
  replace hx := ((hx.then hxp).then hxq).then hy2
  clear hL2 hW2 hes hl6 hy hy2 hs1
  go_wp2_with fail
  refine RetV_at hs2 ?_
  intro Wr hxr
  go_wp2_with fail
  go_ret
  exact ⟨rfl, hx.then hxr⟩
end Go.Proofs.YtabajghokhfmhaaGreat
namespace Go.Proofs.YtabajghokhfmhaaGreat
theorem insF_sum (f : Fm) : ∀ l : List Fm, sumN Fm.bulk (insF f l) ≤ f.bulk + sumN Fm.bulk l
  | [] => by simp [insF, sumN]
  | x :: xs => by
    rw [insF]
    have := insF_sum f xs
    split
    · simp only [sumN]; omega
    · split
      · simp only [sumN]; omega
      · simp only [sumN]; omega
theorem addF_sum : ∀ (b a : List Fm), sumN Fm.bulk (addF a b) ≤ sumN Fm.bulk a + sumN Fm.bulk b
  | [], a => by simp [addF, sumN]
  | x :: b, a => by
    have h1 := addF_sum b (insF x a)
    have h2 := insF_sum x a
    show sumN Fm.bulk (addF (insF x a) b) ≤ _
    simp only [sumN]; omega
def alM (x : Al) : Nat := alN x + (sumN Fm.bulk x.has + sumN Fm.bulk x.non)
theorem joinA_M (x y z : Al) (h : joinA x y = some z) : alM z ≤ alM x + alM y := by
  have h0 := joinA_len h
  unfold joinA at h
  cases hj : joinN x.nums y.nums with
  | none => rw [hj] at h; cases h
  | some n =>
    rw [hj] at h
    cases h
    have h4 := addF_sum y.has x.has
    have h5 := addF_sum y.non x.non
    unfold alM
    dsimp only at h0 ⊢
    omega
theorem rowO_M {x : Al} {B C : Nat} (hx : alM x ≤ B) : ∀ (ys r : List Al), (∀ y ∈ ys, alM y ≤ C) → rowO x ys = some r → ∀ z ∈ r, alM z ≤ B + C
  | [], r, hy, h => by cases h; intro z hz; cases hz
  | y :: ys, r, hy, h => by
    rw [rowO] at h
    cases hj : joinA x y with
    | none => rw [hj] at h; cases h
    | some q =>
      rw [hj, Option.bind_some] at h
      cases hr : rowO x ys with
      | none => rw [hr] at h; cases h
      | some p =>
        rw [hr] at h; cases h
        intro z hz
        rcases List.mem_cons.1 hz with rfl | hz
        · have h1 := hy y (by simp)
          have h2 := joinA_M _ _ _ hj
          omega
        · exact rowO_M hx ys p (fun w hw => hy w (by simp [hw])) hr z hz
theorem crossO_M {B C : Nat} : ∀ (xs ys r : List Al), (∀ x ∈ xs, alM x ≤ B) → (∀ y ∈ ys, alM y ≤ C) → crossO xs ys = some r → ∀ z ∈ r, alM z ≤ B + C
  | [], ys, r, hx, hy, h => by cases h; intro z hz; cases hz
  | x :: xs, ys, r, hx, hy, h => by
    rw [crossO] at h
    cases hj : rowO x ys with
    | none => rw [hj] at h; cases h
    | some q =>
      rw [hj, Option.bind_some] at h
      cases hc : crossO xs ys with
      | none => rw [hc] at h; cases h
      | some p =>
        rw [hc] at h; cases h
        intro z hz
        rcases List.mem_append.1 hz with hz | hz
        · exact rowO_M (hx x (by simp)) ys q hy hj z hz
        · exact crossO_M xs ys p (fun w hw => hx w (by simp [hw])) hy hc z hz
theorem prodO_M {most : Nat} (F : Fm → Option (List Al)) : ∀ (ks : List Fm) (acc r : List Al) (B : Nat), (∀ z ∈ acc, alM z ≤ B) → (∀ g ∈ ks, ∀ l, F g = some l → ∀ z ∈ l, alM z ≤ 2 * g.bulk) → prodO most acc (ks.map F) = some r → ∀ z ∈ r, alM z ≤ B + 2 * sumN Fm.bulk ks
  | [], acc, r, B, ha, hk, h => by cases h; intro z hz; have := ha z hz; omega
  | g :: ks, acc, r, B, ha, hk, h => by
    rw [List.map_cons] at h
    cases hF : F g with
    | none => rw [hF, prodO] at h; cases h
    | some a =>
      rw [hF, prodO] at h
      split at h
      · cases h
      · cases hc : crossO acc a with
        | none => rw [hc] at h; cases h
        | some n =>
          rw [hc, Option.bind_some] at h
          have h1 := crossO_M acc a n ha (hk g (by simp) a hF) hc
          intro z hz
          have := prodO_M F ks n r _ h1 (fun x hx => hk x (by simp [hx])) h z hz
          simp only [sumN]; omega
theorem chainO_M {most : Nat} {B : Nat} : ∀ (rs : List (Option (List Al))) (acc r : List Al), (∀ z ∈ acc, alM z ≤ B) → (∀ l, some l ∈ rs → ∀ z ∈ l, alM z ≤ B) → chainO most acc rs = some r → ∀ z ∈ r, alM z ≤ B
  | [], acc, r, ha, hr, h => by cases h; exact ha
  | none :: rs, acc, r, ha, hr, h => by rw [chainO] at h; cases h
  | some a :: rs, acc, r, ha, hr, h => by
    rw [chainO] at h
    split at h
    · cases h
    · exact chainO_M rs _ r (fun z hz => (List.mem_append.1 hz).elim (ha z) (hr a (by simp) z)) (fun l hl => hr l (by simp [hl])) h
theorem divF_M {most : Nat} (f : Fm) : ∀ (neg : Bool) (r : List Al), divF most f neg = some r → ∀ z ∈ r, alM z ≤ 2 * f.bulk := by
  induction f using Fm.ind with
  | h f ih =>
    intro neg r h
    have hb := f.bulk_eq
    have hpos := f.bulk_pos
    have hk := f.kids_le
    rw [divF_eq] at h
    split at h
    · cases h
      intro z hz
      rw [List.mem_singleton.1 hz]
      cases neg <;> simp [alM, alN, sumN] <;> omega
    · split at h
      · split at h
        · cases hn : notN f.inn with
          | none => rw [hn] at h; cases h
          | some s =>
            rw [hn] at h; cases h
            intro z hz
            rw [List.mem_singleton.1 hz]
            simp [alM, alN, sumN]; omega
        · cases h
          intro z hz
          rw [List.mem_singleton.1 hz]
          simp [alM, alN, sumN]; omega
      · split at h
        · cases h
          intro z hz
          rw [List.mem_singleton.1 hz]
          cases neg <;> simp [alM, alN, sumN] <;> omega
        · split at h
          · cases hkk : f.kids with
            | nil => rw [hkk] at h; cases h
            | cons g l =>
              rw [hkk] at h
              intro z hz
              have hg : g ∈ f.kids := by rw [hkk]; simp
              have := ih g hg (!neg) r h z hz
              have := Fm.kid_le hg
              omega
          · split at h
            · intro z hz
              have := prodO_M _ _ _ r 0 (fun z hz => by rw [List.mem_singleton.1 hz]; exact Nat.le_refl 0) (fun g hg l hl => ih g hg neg l hl) h z hz
              omega
            · refine chainO_M _ _ r (fun z hz => by cases hz) (fun l hl z hz => ?_) h
              obtain ⟨g, hg, he⟩ := List.mem_map.1 hl
              have := ih g hg neg l he z hz
              have := Fm.kid_le hg
              omega
end Go.Proofs.YtabajghokhfmhaaGreat
namespace Go.Proofs.YtabajghokhfmhaaGreat
open Go.RowKit Go.Shelf
def FmQ (w : World) (cl : Int) (sz dp : Nat) (e : Ending) (w' : World) : Prop := ∃ f a3 c3 a4 c4, e = .returned (fmV f a3 c3 a4 c4) ∧ Ext w w' ∧ FmR (ph w') (fmC f a3 c3 a4 c4) f ∧ wholeN cl f = true ∧ f.size ≤ sz ∧ f.deep ≤ dp ∧ validF f = 0
theorem some07_q (l : List Int) (vl : Value) (cl lf : Int) (d : Nat) (D : Int) (w : World) (hD : (d : Int) + 1 = D) (hr : IntsR (ph w) vl l) (hc0 : 0 < cl) (hc1 : cl ≤ 64) (hd : d ≤ 7) (h0 : 0 ≤ lf) (h1 : lf ≤ 30) :
    Calls Tryz.prog 10 #[vl, .int .i64 cl, .int .i64 lf, .int .i64 D] w (FmQ w cl (3 * lf.toNat + 1) (d + 1)) := by
  subst hD
  refine (some07_n l vl cl lf d w (fun _ _ h => h) hr hc0 hc1 hd h0 (by omega)).mono ?_
  rintro e w1 ⟨f, a3, c3, a4, c4, rfl, hF, hw, ⟨hz, hdp⟩, hx1⟩
  have hsz : f.size ≤ 3 * lf.toNat + 1 := by unfold SzP at hz; omega
  exact ⟨f, a3, c3, a4, c4, rfl, hx1, mono_FmR _ _ _ _ (up_ple (noH_le _) hx1) hF, hw, hsz, by omega, validF_of (by omega) (by omega) (wholeN_B hw)⟩
theorem whole_low {n : Int} {f : Fm} (h : wholeN n f = true) : lowF n f = true := by
  rw [wholeN_low, Bool.and_eq_true] at h; exact h.2
theorem altsN_ok {f : Fm} {n : Int} {m : Nat} (h1 : 1 ≤ m) (h2 : m ≤ 64) (hv : validF f = 0) (hl : lowF n f = true) : altsN f n m = match divF m f false with | some r => (r, 0) | none => ([], 4) := by
  unfold altsN
  rw [if_neg (by omega), if_neg (by simp [hv]), if_neg (by simp [hl]), Int.toNat_natCast]
  cases divF m f false <;> rfl
theorem altsN_some {f : Fm} {n : Int} {m : Nat} {r : List Al} (h1 : 1 ≤ m) (h2 : m ≤ 64) (hv : validF f = 0) (hl : lowF n f = true) (h : divF m f false = some r) : altsN f n m = (r, 0) := by
  rw [altsN_ok h1 h2 hv hl, h]
theorem altsN_none {f : Fm} {n : Int} {m : Nat} (h1 : 1 ≤ m) (h2 : m ≤ 64) (hv : validF f = 0) (hl : lowF n f = true) (h : divF m f false = none) : altsN f n m = ([], 4) := by
  rw [altsN_ok h1 h2 hv hl, h]
theorem divF_B {most : Nat} {f : Fm} {neg : Bool} {r : List Al} (hb : f.bulk ≤ 4000) (h : divF most f neg = some r) : ∀ x ∈ r, AlB x := fun x hx => by
  have h1 := divF_M f neg r h x hx
  unfold alM alN at h1
  exact ⟨by omega, by omega, by omega⟩
def AltT (w : World) (r : List Al × Int) (e : Ending) (w' : World) : Prop := ∃ a c, e = .returned (.tuple #[.slice a r.1.length c, .int .i64 r.2]) ∧ Ext w w' ∧ AltsR (ph w') (.slice a r.1.length c) r.1
theorem alts_k {ps : List (List Int)} {B : Nat} (hn : ps.length ≤ 64) (f : Fm) (cs : List Value) (most : Int) (w : World) (r : List Al × Int) (hT : TaxR w B ps) (hr : FmR (ph w) cs f) (hb : f.bulk ≤ 900000) (hm : I64 most) (he : altsN f ps.length most = r) :
    Calls Tryz.prog 14 #[.pointer (some ⟨B, 0, none⟩), .agg cs.toArray, .int .i64 most] w (AltT w r) := by
  have h := alts_nc hn f cs most w (PLe.refl _) hT hr hb hm
  rw [he] at h
  refine h.mono ?_
  rintro e w' ⟨q, rfl, hx, hq⟩
  obtain ⟨a, c, rfl, -, hq⟩ := hq.form
  exact ⟨a, c, rfl, hx, hq.mono mono_AltR (up_ple (PLe.refl _) hx)⟩
set_option maxRecDepth 100000 in
set_option maxHeartbeats 8000000 in
theorem normalLimitLaw (vl vk : Value) (l k : List Int) (most : Int) (w : World) (hl : IntsR (ph w) vl l) (hk : IntsR (ph w) vk k) (_ : l.length ≤ 140737488355328) (_ : k.length ≤ 140737488355328) (im : I64 most) :
    Calls Tryz.prog 5 #[vl, vk, .int .i64 most] w (RetV w (.bool true)) := by
  have hl0 := hl
  have hk0 := hk
  obtain ⟨xa, xc, rfl, -, -⟩ := hl.form
  obtain ⟨za, zc, rfl, -, -⟩ := hk.form
  clear hl hk
  go_enter Tryz.func5, Tryz.ntmps5
  go_wp2_with fail
  refine (world9_c k _ w hk0).mono ?_
  rintro e w1 ⟨B, v, ps, rk, rfl, hx, hps, ok, hp6, hT⟩
  obtain ⟨pa, pc, rfl, -, -⟩ := id hps.form
  have hn0 := ok.pos
  have hn := ok.le
  clear hk0 ok hps
  have hs := some07_q l _ (ps.length : Int) 16 5 6 w1 rfl (hl0.mono mono_IntR hx.ple) (by omega) (by omega) (by omega) (by omega) (by omega)
  go_wp2_with fail
  refine hs.mono ?_
  rintro e w2 ⟨f, a3, c3, a4, c4, rfl, hx2, hF, hw, -, -, hval⟩
  have hb := valid_bulk hval
  have hlow := whole_low hw
  replace hx := hx.then hx2
  replace hT := hT.keep hx2
  clear hs hx2 hl0 hw
  have o9 := Proofs.YtabajghokhfmhaaGreat.Own.new w2 #[.int .i64 f.op, .int .i64 f.n, .slice a3 f.inn.length c3, .slice a4 f.kids.length c4] 30
  have e2 := Ext.new w2 (.cells #[.int .i64 f.op, .int .i64 f.n, .slice a3 f.inn.length c3, .slice a4 f.kids.length c4] 30)
  replace hF := mono_FmR _ _ _ _ e2.ple hF
  replace hx := hx.then e2
  replace hT := hT.keep e2
  go_upto_region 5 with (fail)
  generalize w2.alloc _ = w3 at *
  generalize w2.heap.size = g9 at *
  clear e2
  have x0 : w3.cell? ⟨g9, 0, none⟩ = some (.int .i64 f.op) := o9.facts.1 0
  have x1 : w3.cell? ⟨g9, 1, none⟩ = some (.int .i64 f.n) := o9.facts.1 1
  have x2 : w3.cell? ⟨g9, 2, none⟩ = some (.slice a3 f.inn.length c3) := o9.facts.1 2
  have x3 : w3.cell? ⟨g9, 3, none⟩ = some (.slice a4 f.kids.length c4) := o9.facts.1 3
  have xl := o9.lt
  clear o9
  have hz := aroundV_range im (m := 64) (by omega)
  have har := around_c most 64 w3 im (by omega) (by omega)
  generalize aroundV most 64 = z at *
  obtain ⟨m, rfl⟩ : ∃ m : Nat, z = m := ⟨z.toNat, by omega⟩
  have hm1 : 1 ≤ m + 1 := by omega
  have hm64 : m + 1 ≤ 64 := by omega
  generalize hmn : m + 1 = n at *
  have i64n : I64 (n : Int) := by unfold I64; omega
  have i6464 : I64 64 := by simp [I64]
  have hal := Lib.hid (fun (n : Nat) (hn1 : 1 ≤ n) (hn2 : n ≤ 64) (r : List Al × Int) (he : altsN f ps.length n = r) (mo : Int) (hmo : mo = n) W' (e : Ext w3 W') => alts_k (by omega) f _ mo W' r (hT.keep e) (mono_FmR _ _ _ _ e.ple hF) (by omega) (by unfold I64; omega) (by rw [hmo]; exact he))
  unfold fmC at hal
  have hdd : (∃ r, divF n f false = some r ∧ divF 64 f false = some r) ∨ (divF n f false = none ∧ divF 64 f false = none) ∨ (∃ r, divF n f false = none ∧ divF 64 f false = some r) := by
    cases h1 : divF n f false with
    | some r => exact .inl ⟨r, rfl, divF_more hm64 f false r h1⟩
    | none =>
      cases h2 : divF 64 f false with
      | none => exact .inr (.inl ⟨rfl, rfl⟩)
      | some r => exact .inr (.inr ⟨r, rfl, rfl⟩)
  have hlen1 : ∀ r, divF n f false = some r → r.length ≤ n := fun r h => divF_len hm1 f false r h
  have hless : ∀ r, divF 64 f false = some r → 1 < r.length → altsN f ps.length ((r.length - 1 : Nat) : Int) = ([], 4) := fun r h h1 => by
    have h64 := divF_len (by omega) f false r h
    refine altsN_none (by omega) (by omega) hval hlow ?_
    cases h2 : divF (r.length - 1) f false with
    | none => rfl
    | some q =>
      have h3 := divF_more (by omega : r.length - 1 ≤ 64) f false q h2
      rw [h] at h3
      cases h3
      have := divF_len (by omega) f false r h2
      omega
  have hBd : ∀ r, divF 64 f false = some r → ∀ x ∈ r, AlB x := fun r h => divF_B (by omega) h
  have hA1 := fun r h => altsN_some (n := ps.length) hm1 hm64 hval hlow (r := r) h
  have hA2 := fun h => altsN_none (n := ps.length) hm1 hm64 hval hlow h
  have hB1 := fun r h => altsN_some (n := ps.length) (m := 64) (by omega) (by omega) hval hlow (r := r) h
  have hB2 := fun h => altsN_none (n := ps.length) (m := 64) (by omega) (by omega) hval hlow h
  have hr64 : ∀ r, divF 64 f false = some r → r.length ≤ 64 := fun r h => divF_len (by omega) f false r h
  replace hlen1 := Lib.hid hlen1
  replace hless := Lib.hid hless
  replace hBd := Lib.hid hBd
  replace hr64 := Lib.hid hr64
  replace hA1 := Lib.hid hA1
  replace hA2 := Lib.hid hA2
  replace hB1 := Lib.hid hB1
  replace hB2 := Lib.hid hB2
  clear hF hT hval hlow hb
  go_wp2_with fail
  refine RetV_at har ?_
  intro w4 hx4
  replace x0 := (hx4).cell1 x0
  replace x1 := (hx4).cell1 x1
  replace x2 := (hx4).cell1 x2
  replace x3 := (hx4).cell1 x3
  replace xl := cell_lt x0
  replace hal := Lib.hid (fun n h1 h2 r he mo hmo W' (e : Ext w4 W') => hal.out n h1 h2 r he mo hmo W' (hx4.then e))
  replace hx := hx.then hx4
  clear har hx4
  have n40 : ((4 : Int) == 0) = false := rfl
  have n41 : ((4 : Int) != 0) = true := rfl
  have n42 : ((4 : Int) != 4) = false := rfl
  have n00 : ((0 : Int) == 0) = true := rfl
  have n01 : ((0 : Int) != 0) = false := rfl
  rcases hdd with ⟨r, hd1, hd2⟩ | ⟨hd1, hd2⟩ | ⟨r, hd1, hd2⟩
  · have hk1 := hal.out n hm1 hm64 _ (hA1.out r hd1) (1 + (m : Int)) (by omega)
    have hk2 := hal.out 64 (by omega) (by omega) _ (hB1.out r hd2) 64 rfl
    have hk3 := Lib.hid (fun h => hal.out (r.length - 1) (by omega) (by have := hr64.out r hd2; omega) _ (hless.out r hd2 h) ((r.length : Int) - 1) (by omega))
    have hBr := Lib.hid (hBd.out r hd2)
    have hrn := hlen1.out r hd1
    have hr6 := hr64.out r hd2
    have bl : decide (1 + (m : Int) < (r.length : Int)) = false := by simp; omega
    have bn : ((r.length : Int) != (r.length : Int)) = false := by simp
    replace hk1 := Lib.hid hk1
    replace hk2 := Lib.hid hk2
    clear hal hA1 hA2 hB1 hB2 hless hBd hlen1 hr64 hd1 hd2
    go_wp2_with fail
    refine (hk1.out _ xE).mono ?_
    rintro e w5 ⟨aa, ca, rfl, hx5, hQ1⟩
    replace x0 := (hx5).cell1 x0
    replace x1 := (hx5).cell1 x1
    replace x2 := (hx5).cell1 x2
    replace x3 := (hx5).cell1 x3
    replace xl := cell_lt x0
    dsimp only at hQ1 ⊢
    go_wp2_with fail
    refine (hk2.out _ hx5).mono ?_
    rintro e w6 ⟨ab, cb, rfl, hx6, hQ2⟩
    dsimp only at hQ2 ⊢
    replace x0 := (hx6).cell1 x0
    replace x1 := (hx6).cell1 x1
    replace x2 := (hx6).cell1 x2
    replace x3 := (hx6).cell1 x3
    replace xl := cell_lt x0
    replace hQ1 := hQ1.mono mono_AltR hx6.ple
    have h46 := hx5.then hx6
    replace hx := hx.then h46
    clear hk1 hk2 hx5 hx6
    go_wp2_with fail
    go_loopw [15] (fun i wr => ∃ k : Nat, k ≤ r.length ∧ i = .int .i64 k ∧ Ext w6 wr) (fun i _ => r.length - (intOf i).toNat)
    case atStart => exact ⟨0, Nat.zero_le _, rfl, Ext.rfl' _⟩
    case round =>
      obtain ⟨k, hk, rfl, hxr⟩ := hrel
      by_cases hlt : k < r.length
      ·
        obtain ⟨ba, oa, i1, j1, i2, j2, i3, j3, i4, j4, i5, j5, hba, z0, z1, z2, z3, z4, hE, zl⟩ := AltsR.atH hQ1 hxr.ple k hlt
        obtain ⟨bb, ob, k1, m1, k2, m2, k3, m3, k4, m4, k5, m5, hbb, y0, y1, y2, y3, y4, hF, yl⟩ := AltsR.atH hQ2 hxr.ple k hlt
        cases hba
        cases hbb
        obtain ⟨c1, c2, c3⟩ := hBr.out _ (List.getElem_mem hlt)
        have hE' := mono_AltR _ _ _ _ hxr.ple hE
        have hF' := mono_AltR _ _ _ _ hxr.ple hF
        generalize r[k] = y at *
        have hp := Lib.hid (fun W' (e : Ext wr W') => plain_nc (H := ph wr) y _ W' e.ple hE' c3)
        have hp2 := Lib.hid (fun W' (e : Ext wr W') => plain_nc (H := ph wr) y _ W' e.ple hF' c3)
        have hs := Lib.hid (fun W' (e : Ext wr W') ds es (h : AltR (ph W') ds y) (h2 : AltR (ph W') es y) => sameA_c y ds es W' h h2 c1 c2 c3)
        clear hE hF hE' hF' c1 c2 c3
        go_upto_region 13 with (fail)
        (refine wp_region_I 16 (by kernel_rfl) (by kernel_rfl) ?_; simp only [List.toList_toArray, List.take_succ_cons, List.take_zero, List.drop_succ_cons, List.drop_zero])
        iterate 3 (refine wiA rfl (by simp) rfl ?_; (try simp only [List.nil_append, List.cons_append]))
        iterate 4 (refine wyA rfl (by simp) rfl rfl rfl ?_; (try simp only [List.nil_append, List.cons_append]))
        (refine walkI_yes ((fun v w' => ∃ ds : List Value, v = .agg ds.toArray ∧ AltR (ph w') ds y)) rfl (by simp) rfl rfl rfl ((fun v w w' hS ⟨ds, h1, h2⟩ e' => ⟨ds, h1, mono_AltR _ _ _ _ e'.ple h2⟩)) ?_ ?_; (focus (intro A w' hS hA K hK; (simp only [List.map_cons, List.map_nil, knows, Is, Op.operands, Call.operands, List.lookup_cons, List.lookup_nil, Nat.reduceBEq, Bool.false_eq_true, if_false, if_true, Act.eval, Array.getD_eq_getD_getElem?, List.getElem?_toArray, List.getElem?_cons_succ, List.getElem?_cons_zero, Option.getD_some, and_true, true_and, List.append_toArray, List.nil_append, List.cons_append, List.toList_toArray, Array.toList_append, Option.toArray, List.append_nil] at hA); (go_simp; refine (hp.out _ hS).mono ?_; rintro e w9 ⟨ds, rfl, hx9, hQ⟩; exact hK _ _ hx9 ⟨ds, rfl, mono_AltR _ _ _ _ (up_ple hS.ple hx9) hQ⟩))); (try simp only [List.nil_append, List.cons_append]))
        iterate 4 (refine wyA rfl (by simp) rfl rfl rfl ?_; (try simp only [List.nil_append, List.cons_append]))
        (refine walkI_yes ((fun v w' => ∃ ds : List Value, v = .agg ds.toArray ∧ AltR (ph w') ds y)) rfl (by simp) rfl rfl rfl ((fun v w w' hS ⟨ds, h1, h2⟩ e' => ⟨ds, h1, mono_AltR _ _ _ _ e'.ple h2⟩)) ?_ ?_; (focus (intro A w' hS hA K hK; (simp only [List.map_cons, List.map_nil, knows, Is, Op.operands, Call.operands, List.lookup_cons, List.lookup_nil, Nat.reduceBEq, Bool.false_eq_true, if_false, if_true, Act.eval, Array.getD_eq_getD_getElem?, List.getElem?_toArray, List.getElem?_cons_succ, List.getElem?_cons_zero, Option.getD_some, and_true, true_and, List.append_toArray, List.nil_append, List.cons_append, List.toList_toArray, Array.toList_append, Option.toArray, List.append_nil] at hA); (go_simp; refine (hp2.out _ hS).mono ?_; rintro e w9 ⟨ds, rfl, hx9, hQ⟩; exact hK _ _ hx9 ⟨ds, rfl, mono_AltR _ _ _ _ (up_ple hS.ple hx9) hQ⟩))); (try simp only [List.nil_append, List.cons_append]))
        (refine walkI_yesis (u := ?_) rfl (by simp) rfl rfl rfl ?_ ?_; rotate_left; (focus (intro A w' hS hA K hK; (simp only [List.map_cons, List.map_nil, knows, Is, Op.operands, Call.operands, List.lookup_cons, List.lookup_nil, Nat.reduceBEq, Bool.false_eq_true, if_false, if_true, Act.eval, Array.getD_eq_getD_getElem?, List.getElem?_toArray, List.getElem?_cons_succ, List.getElem?_cons_zero, Option.getD_some, and_true, true_and, List.append_toArray, List.nil_append, List.cons_append, List.toList_toArray, Array.toList_append, Option.toArray, List.append_nil] at hA); first | (obtain ⟨⟨ds, h1, h2⟩, es, h3, h4⟩ := hA; go_simp; refine (hs.out _ hS ds es h2 h4).mono ?_; rintro e w9 ⟨rfl, hx9⟩; exact hK _ hx9) | (obtain ⟨hSc, hSf, hSs⟩ := hS.cells; go_simp; exact hK _ xN))); (try simp only [List.nil_append, List.cons_append]))
        (refine wyA rfl (by simp) rfl rfl rfl ?_; (try simp only [List.nil_append, List.cons_append]))
        (refine wiA rfl (by simp) rfl ?_; (try simp only [List.nil_append, List.cons_append]))
        (refine walkI_nil ?_; simp only [List.nil_append, List.cons_append, fins, Is, forall_eq, Act.put, List.setIfInBounds_toArray, List.set_cons_zero, List.set_cons_succ])
        rintro w7 hx7 v93 - v98 -
        go_wp2_with fail
        go_roundw
        case rel => exact ⟨k + 1, by omega, by go_num, hxr.then hx7⟩
        case measure => simp [intOf]; omega
      · have hkk : k = r.length := by omega
        subst hkk
        replace hk3 := Lib.hid (fun h => hk3.out h wr (h46.then hxr))
        replace hx := hx.then hxr
        have x0' := hxr.cell1 x0
        have x1' := hxr.cell1 x1
        have x2' := hxr.cell1 x2
        have x3' := hxr.cell1 x3
        have xl' := cell_lt x0'
        clear hQ1 hQ2 hBr hxr x0 x1 x2 x3 xl h46
        by_cases hone : 1 < r.length
        · have bo : decide ((1 : Int) < (r.length : Int)) = true := by simp; omega
          have hsub : wrap64 ((r.length : Int) - 1) = (r.length : Int) - 1 := wrap64_id (by omega) (by omega)
          have hk4 := hk3.out hone
          go_wp2_with fail
          refine hk4.mono ?_
          rintro e w7 ⟨a7, c7, rfl, hx7, -⟩
          replace hx := hx.then hx7
          dsimp only
          go_wp2_with fail
          refine RetV_at (lives9_c _) ?_
          intro wz hxz
          go_wp2_with fail
          go_ret
          exact ⟨rfl, hx.then xE⟩
        · have bo : decide ((1 : Int) < (r.length : Int)) = false := by simp; omega
          go_wp2_with fail
          refine RetV_at (lives9_c _) ?_
          intro wz hxz
          go_wp2_with fail
          go_ret
          exact ⟨rfl, hx.then xE⟩
  · have hk1 := Lib.hid (hal.out n hm1 hm64 _ (hA2.out hd1) (1 + (m : Int)) (by omega))
    have hk2 := Lib.hid (hal.out 64 (by omega) (by omega) _ (hB2.out hd2) 64 rfl)
    clear hal hA1 hA2 hB1 hB2 hless hBd hlen1 hr64 hd1 hd2
    go_wp2_with fail
    refine (hk1.out _ xE).mono ?_
    rintro e w5 ⟨aa, ca, rfl, hx5, hQ1⟩
    replace x0 := (hx5).cell1 x0
    replace x1 := (hx5).cell1 x1
    replace x2 := (hx5).cell1 x2
    replace x3 := (hx5).cell1 x3
    replace xl := cell_lt x0
    dsimp only at hQ1 ⊢
    go_wp2_with fail
    refine (hk2.out _ hx5).mono ?_
    rintro e w6 ⟨ab, cb, rfl, hx6, hQ2⟩
    dsimp only at hQ2 ⊢
    replace x0 := (hx6).cell1 x0
    replace x1 := (hx6).cell1 x1
    replace x2 := (hx6).cell1 x2
    replace x3 := (hx6).cell1 x3
    replace xl := cell_lt x0
    have h46 := hx5.then hx6
    replace hx := hx.then h46
    clear hk1 hk2 hx5 hx6
    go_wp2_with fail
    go_loopw [15] (fun i wr => i = .int .i64 0 ∧ Ext w6 wr) (fun i _ => 0)
    case atStart => exact ⟨rfl, Ext.rfl' _⟩
    obtain ⟨rfl, hxr⟩ := hrel
    replace hx := hx.then hxr
    go_wp2_with fail
    refine RetV_at (lives9_c _) ?_
    intro wz hxz
    go_wp2_with fail
    go_ret
    exact ⟨rfl, hx.then xE⟩
  · have hk1 := Lib.hid (hal.out n hm1 hm64 _ (hA2.out hd1) (1 + (m : Int)) (by omega))
    have hk2 := Lib.hid (hal.out 64 (by omega) (by omega) _ (hB1.out r hd2) 64 rfl)
    have hk3 := Lib.hid (fun h => hal.out (r.length - 1) (by omega) (by have := hr64.out r hd2; omega) _ (hless.out r hd2 h) ((r.length : Int) - 1) (by omega))
    have hr6 := hr64.out r hd2
    clear hal hA1 hA2 hB1 hB2 hless hBd hlen1 hr64 hd1 hd2
    go_wp2_with fail
    refine (hk1.out _ xE).mono ?_
    rintro e w5 ⟨aa, ca, rfl, hx5, hQ1⟩
    replace x0 := (hx5).cell1 x0
    replace x1 := (hx5).cell1 x1
    replace x2 := (hx5).cell1 x2
    replace x3 := (hx5).cell1 x3
    replace xl := cell_lt x0
    dsimp only at hQ1 ⊢
    go_wp2_with fail
    refine (hk2.out _ hx5).mono ?_
    rintro e w6 ⟨ab, cb, rfl, hx6, hQ2⟩
    dsimp only at hQ2 ⊢
    replace x0 := (hx6).cell1 x0
    replace x1 := (hx6).cell1 x1
    replace x2 := (hx6).cell1 x2
    replace x3 := (hx6).cell1 x3
    replace xl := cell_lt x0
    have h46 := hx5.then hx6
    replace hx := hx.then h46
    clear hk1 hk2 hx5 hx6
    go_wp2_with fail
    go_loopw [15] (fun i wr => i = .int .i64 0 ∧ Ext w6 wr) (fun i _ => 0)
    case atStart => exact ⟨rfl, Ext.rfl' _⟩
    obtain ⟨rfl, hxr⟩ := hrel
    replace hx := hx.then hxr
    replace hk3 := Lib.hid (fun h => hk3.out h _ (h46.then hxr))
    have x0' := hxr.cell1 x0
    have x1' := hxr.cell1 x1
    have x2' := hxr.cell1 x2
    have x3' := hxr.cell1 x3
    have xl' := cell_lt x0'
    clear hxr x0 x1 x2 x3 xl h46
    by_cases hone : 1 < r.length
    · have bo : decide ((1 : Int) < (r.length : Int)) = true := by simp; omega
      have hsub : wrap64 ((r.length : Int) - 1) = (r.length : Int) - 1 := wrap64_id (by omega) (by omega)
      have hk4 := hk3.out hone
      go_wp2_with fail
      refine hk4.mono ?_
      rintro e w7 ⟨a7, c7, rfl, hx7, -⟩
      replace hx := hx.then hx7
      dsimp only
      go_wp2_with fail
      refine RetV_at (lives9_c _) ?_
      intro wz hxz
      go_wp2_with fail
      go_ret
      exact ⟨rfl, hx.then xE⟩
    · have bo : decide ((1 : Int) < (r.length : Int)) = false := by simp; omega
      go_wp2_with fail
      refine RetV_at (lives9_c _) ?_
      intro wz hxz
      go_wp2_with fail
      go_ret
      exact ⟨rfl, hx.then xE⟩
end Go.Proofs.YtabajghokhfmhaaGreat
namespace Go.Proofs.YtabajghokhfmhaaGreat
open Go.ChangeShapes Go.WideShapes Go.ChangeAt Go.RowKit
theorem post_of_ext {H : Type} {enc : TypeId × Value → H} {P : Program} {f : Func} {s : ChangeSpec} {apart fresh handsOn : Bool} {W W' : World} {args : Array Value} {v : Value} {ds gs : List (DataW H)} {before pa pv : List MemPlace}
    (hW : DataW.Whole enc P f.params.toList s.vars apart W args.toList ds gs before)
    (hres : ∀ (b : Nat) (sp : Nat → Bool) (hd : Bool), DataW.TrodAll enc P W' b sp hd f.resultTypes.toList (v.resultList f.resultTypes.size) (s.fn H (ds ++ gs)).results [])
    (hargs : ∀ sp : Nat → Bool, (∀ p ∈ before, sp p.block = true) → DataW.TrodAll enc P W' 0 sp true f.params.toList args.toList (s.fn H (ds ++ gs)).args pa)
    (hvars : ∀ sp : Nat → Bool, (∀ p ∈ before, sp p.block = true) → DataW.TrodVars enc P W' sp s.vars (s.fn H (ds ++ gs)).vars pv)
    (hps : before = pa ++ pv) (he : Ext W W') : s.post enc P f apart fresh handsOn false W args v W' := by
  have hold : ∀ p ∈ before, (fun b => decide (b < W.heap.size)) p.block = true := fun p hp => by simpa using hW.lt p hp
  exact ⟨ds, gs, before, [], pa, pv, hW, hres _ _ _, hargs _ hold, hvars _ hold, he.frame _, fun h => by cases h⟩
theorem wf_i64 {a : Int} (h : (Lit.int .i64 a).wf = true) : I64 a := by
  simpa [Lit.wf, IntKind.min, IntKind.max, IntKind.signed, IntKind.bits, I64] using h
end Go.Proofs.YtabajghokhfmhaaGreat
namespace Go.Proofs.YtabajghokhfmhaaGreat
open Go.ChangeShapes Go.WideShapes Go.ChangeAt Go.RowKit
section
variable {H : Type} {enc : TypeId × Value → H} {P : Program}
theorem trodAll_back (hl : laidOutB P = true) {W W' : World} (hb : Ext W W') : ∀ {ts : List TypeId} {vs : List Value} {ds : List (DataW H)} {ps : List MemPlace}, (∀ t ∈ ts, P.readableRec t = true ∧ t < P.types.size) →
    DataW.TrodAll enc P W 0 (fun _ => true) true ts vs ds ps → (∀ x ∈ ps, x.block < W.heap.size) → DataW.TrodAll enc P W' 0 (fun b => decide (b < W.heap.size)) true ts vs ds ps
  | [], [], [], ps, _, h, _ => h
  | t :: ts, v :: vs, d :: ds, ps, hr, h, hlt => by
    obtain ⟨p, q, h1, h2, rfl⟩ := h
    exact ⟨p, q, Below.trod hl (hr t (by simp)).1 (hr t (by simp)).2 h1 hb (fun x hx => hlt x (by simp [hx])), trodAll_back hl hb (fun t ht => hr t (by simp [ht])) h2 (fun x hx => hlt x (by simp [hx])), rfl⟩
  | [], _ :: _, _, _, _, h, _ => h.elim
  | [], [], _ :: _, _, _, h, _ => h.elim
  | _ :: _, [], _, _, _, h, _ => h.elim
  | _ :: _, _ :: _, [], _, _, h, _ => h.elim
theorem post_law {f : Func} {s : ChangeSpec} {apart fresh handsOn : Bool} {W W' : World} {args : Array Value} {v : Value} {ds gs : List (DataW H)} {before : List MemPlace}
    (hW : DataW.Whole enc P f.params.toList s.vars apart W args.toList ds gs before) (hv : s.vars = [])
    (hres : ∀ (b : Nat) (sp : Nat → Bool) (hd : Bool), DataW.TrodAll enc P W' b sp hd f.resultTypes.toList (v.resultList f.resultTypes.size) (s.fn H (ds ++ gs)).results [])
    (hargs : (s.fn H (ds ++ gs)).args = ds) (hvs : (s.fn H (ds ++ gs)).vars = []) (hl : laidOutB P = true) (hr : ∀ t ∈ f.params.toList, P.readableRec t = true ∧ t < P.types.size) (he : Ext W W') : s.post enc P f apart fresh handsOn false W args v W' := by
  have hold : ∀ p ∈ before, p.block < W.heap.size := fun p hp => hW.lt p hp
  have hW' := hW
  obtain ⟨p, q, hA, hV, rfl, -, -⟩ := hW
  rw [hv] at hV
  obtain ⟨rfl, rfl⟩ : gs = [] ∧ q = [] := by
    cases gs with
    | nil => exact ⟨rfl, hV⟩
    | cons _ _ => exact hV.elim
  refine ⟨ds, [], p ++ [], [], p, [], hW', hres _ _ _, ?_, ?_, he.frame _, fun h => by cases h⟩
  · rw [hargs]; exact trodAll_back hl he hr hA fun x hx => hold x (by simp [hx])
  · rw [hv, hvs]; rfl
theorem wf_i64m {n : Int} (h : (Lit.int .i64 n).wf = true) : I64 n := wf_i64 h
theorem openI {t e : TypeId} {v : Value} {d : DataW H} {p : List MemPlace} {W : World} {base : Nat} (ht : P.underlying t = some (.slice e)) (he : P.underlying e = some (.int .i64)) (hc : P.cellsOf e = 1) (hby : P.bytesOf e = 8)
    (hval : Value.okWide P W .any base t v) (h : DataW.Trod enc P W 0 (fun _ => true) true t v d p) {ts : List TypeId} {ds : List (DataW H)} (hsz : (DataW.weightsEach P ts ds).all (· ≤ reachBytes) = true) (j : Nat) (hj : ts[j]? = some t) (hd : ds[j]? = some d) :
    ∃ l : List Int, IntsR (ph W) v l ∧ l.length ≤ 17592186043904 := by
  obtain ⟨a0, len, cap, rfl⟩ := okWide_slice ht hval
  obtain ⟨fuel, hf⟩ := h
  rcases open_ints ht he hc hf with ⟨hcs, hx⟩ | ⟨a, len', cap', zs, hcs, _, hl, hm, hz, hx, hcell, hwz⟩
  · simp [Value.cells] at hcs
    obtain ⟨rfl, rfl, rfl⟩ := hcs
    exact ⟨[], SliceRep.nil _ _ _, by simp⟩
  · simp [Value.cells] at hcs
    obtain ⟨rfl, rfl, rfl⟩ := hcs
    simp only [Prod.mk.injEq] at hx
    obtain ⟨rfl, -⟩ := hx
    simp only [if_true] at hz
    have hreach : len * 8 ≤ 140737488351232 := by
      have := sized_slice hsz (j := j) hj hd ht
      rw [hby] at this
      simp only [lits, List.length_map, List.length_take, List.length_drop, reachBytes] at this
      omega
    have hlen : (zs.take len).length = len := by rw [List.length_take]; omega
    refine ⟨zs.take len, ⟨some a, cap, by rw [hlen], by omega, hm, ?_⟩, by omega⟩
    by_cases h0 : len = 0
    · left; rw [h0]; rfl
    · right
      obtain ⟨b, off, spot⟩ := a
      have hspot : spot = none := by simpa [Addr.add] using World.cell?_spot (hcell 0 (by omega))
      subst hspot
      refine ⟨b, off, rfl, RowRep.of fun i hi => ?_⟩
      rw [hlen] at hi
      have h1 := hcell i (by omega)
      have h2 : zs.getD i 0 = (zs.take len)[i]'(by omega) := by
        rw [List.getElem_take]; simp [List.getD, show i < zs.length by omega]
      refine ⟨[.int .i64 ((zs.take len)[i]'(by omega))], rfl, fun j hj => ?_, rfl, wf_i64m (hwz _ ?_)⟩
      · obtain rfl : j = 0 := by omega
        rw [addo, cell_ph, h2] at h1
        simpa using h1
      · rw [List.getElem_take]; exact List.getElem_mem _
theorem wf_u8 {n : Int} (h : (Lit.int .u8 n).wf = true) : 0 ≤ n ∧ n < 256 := by
  have := bounds_u8 h; omega
theorem openB {t e : TypeId} {v : Value} {d : DataW H} {p : List MemPlace} {W : World} {base : Nat} (ht : P.underlying t = some (.slice e)) (he : P.underlying e = some (.int .u8)) (hc : P.cellsOf e = 1) (hby : P.bytesOf e = 1)
    (hval : Value.okWide P W .any base t v) (h : DataW.Trod enc P W 0 (fun _ => true) true t v d p) {ts : List TypeId} {ds : List (DataW H)} (hsz : (DataW.weightsEach P ts ds).all (· ≤ reachBytes) = true) (j : Nat) (hj : ts[j]? = some t) (hd : ds[j]? = some d) :
    ∃ l : List UInt8, BytesR (ph W) v l ∧ l.length ≤ 140737488351232 := by
  obtain ⟨a0, len, cap, rfl⟩ := okWide_slice ht hval
  obtain ⟨fuel, hf⟩ := h
  rcases open_ints ht he hc hf with ⟨hcs, hx⟩ | ⟨a, len', cap', zs, hcs, _, hl, hm, hz, hx, hcell, hwz⟩
  · simp [Value.cells] at hcs
    obtain ⟨rfl, rfl, rfl⟩ := hcs
    exact ⟨[], SliceRep.nil _ _ _, by simp⟩
  · simp [Value.cells] at hcs
    obtain ⟨rfl, rfl, rfl⟩ := hcs
    simp only [Prod.mk.injEq] at hx
    obtain ⟨rfl, -⟩ := hx
    simp only [if_true] at hz
    have hreach : len * 1 ≤ 140737488351232 := by
      have := sized_slice hsz (j := j) hj hd ht
      rw [hby] at this
      simp only [lits, List.length_map, List.length_take, List.length_drop, reachBytes] at this
      omega
    have hlen : ((zs.take len).map fun n => UInt8.ofNat n.toNat).length = len := by rw [List.length_map, List.length_take]; omega
    refine ⟨(zs.take len).map fun n => UInt8.ofNat n.toNat, ⟨some a, cap, by rw [hlen], by omega, hm, ?_⟩, by omega⟩
    by_cases h0 : len = 0
    · left; rw [h0]; rfl
    · right
      obtain ⟨b, off, spot⟩ := a
      have hspot : spot = none := by simpa [Addr.add] using World.cell?_spot (hcell 0 (by omega))
      subst hspot
      refine ⟨b, off, rfl, RowRep.of fun i hi => ?_⟩
      rw [hlen] at hi
      have h1 := hcell i (by omega)
      have h2 : zs.getD i 0 = zs[i]'(by omega) := by simp [List.getD, show i < zs.length by omega]
      have h3 := wf_u8 (hwz (zs[i]'(by omega)) (List.getElem_mem _))
      refine ⟨[.int .u8 (zs[i]'(by omega))], rfl, fun j hj => ?_, ?_⟩
      · obtain rfl : j = 0 := by omega
        rw [addo, cell_ph, h2] at h1
        simpa using h1
      · simp only [ByteR, List.getElem_map, List.getElem_take, List.cons.injEq, and_true]
        refine val_int ?_
        have h4 : (zs[i]'(by omega)).toNat < 256 := by omega
        rw [UInt8.toNat_ofNat_of_lt' (by simpa using h4)]
        omega
end
end Go.Proofs.YtabajghokhfmhaaGreat
