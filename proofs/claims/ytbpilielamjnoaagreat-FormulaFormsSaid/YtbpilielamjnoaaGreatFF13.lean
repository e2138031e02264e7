/- Lemmas for FF, part 14: package formula: simple, Simple, and more. -/
import Derived.Laws.EntriesVeiled
import Derived.Deep.CutBlock
import Derived.Test.YtbpilielamjnoaaGreatFF01
import Derived.Test.YtbpilielamjnoaaGreatFF04
import Derived.Test.YtbpilielamjnoaaGreatFF05
import Derived.Test.YtbpilielamjnoaaGreatFF06
import Derived.Test.YtbpilielamjnoaaGreatFF10
import Derived.Test.YtbpilielamjnoaaGreatFF11
import Derived.Test.YtbpilielamjnoaaGreatFF12
set_option linter.unusedSimpArgs false
set_option linter.unusedVariables false
namespace Go.Proofs.YtbpilielamjnoaaGreat
open Go.RowKit Go.Shelf
set_option maxRecDepth 100000 in
set_option maxHeartbeats 16000000 in
theorem simple_c (f : Fm) : ∀ (H : PH) (cs : List Value) (w : World), PLe H (ph w) → FmR H cs f → wholeB f = true → f.bulk ≤ 400000 → Calls Tryz.prog 65 #[.agg cs.toArray] w (NewF w H (simpF f)) := by
  induction f using Fm.ind with
  | h f ih =>
    intro H cs w hl hr hw hb
    have hr0 := hr
    obtain ⟨a3, c3, a4, c4, rfl, i1, i2, -, -, hfi, hfk⟩ := hr.form
    have hbe := f.bulk_eq
    have hkl := f.kids_le
    have hin : f.inn.length ≤ 1000000 := by omega
    have hfn1 := fun args w => enterFn Tryz.func65 rfl rfl args w
    have hwk : ∀ x ∈ f.kids, wholeB x = true := fun x hx => by
      have h2 := hw
      rw [wholeB_eq, Bool.and_eq_true, List.all_eq_true] at h2
      exact h2.2 x hx
    have hmp := fun W (e : Ext w W) => mapped_c 65 #[] simpF f (fmC f a3 c3 a4 c4) W (hl.trans e.ple) hr0 (by omega) hin hfn1 (fun x hx H' wr cs' e' hl' hr' => by
      have := Fm.kid_le hx
      simpa using ih x hx H' cs' wr hl' hr' (hwk x hx) (by omega))
    clear ih
    have hsum := sumN_map_mono (m := Fm.bulk) (g := simpF) f.kids fun x _ => simp_bulk x
    have hfo : formed1 f = true := by rw [wholeB_eq, Bool.and_eq_true] at hw; exact hw.1
    have hKl : (f.kids.map simpF).length = f.kids.length := List.length_map _
    have hKw : ∀ x ∈ f.kids.map simpF, wholeN 64 x = true := fun x hx => by
      obtain ⟨y, hy, rfl⟩ := List.mem_map.1 hx
      exact simp_whole y (wholeN_64 (hwk y hy))
    have hJ0 := simpF_eq f
    unfold fmC at hmp ⊢
    clear hr hw hwk hr0 hfi hfk
    have hM := ((Mem.start w H hl).new' #[.int .i64 f.op, .int .i64 f.n, .slice a3 f.inn.length c3, .slice a4 f.kids.length c4] 29 (n := w.heap.size) rfl).new' #[.int .i64 0, .int .i64 0, .slice none 0 0, .slice none 0 0] 29 (n := w.heap.size + 1) (by simp)
    simp only [List.cons_append, List.nil_append] at hM
    replace hmp := Lib.hid hmp
    go_enter Tryz.func65, Tryz.ntmps65
    go_upto_region 1 with (fail)
    generalize World.alloc _ _ = w1 at *
    generalize hg4 : w.heap.size + 1 = g2 at *
    generalize hg3 : w.heap.size = g1 at *
    have u0 : w1.cell? ⟨g1, 0, none⟩ = some (.int .i64 f.op) := (hM.box 0 rfl).facts.1 0
    have u1 : w1.cell? ⟨g1, 1, none⟩ = some (.int .i64 f.n) := (hM.box 0 rfl).facts.1 1
    have u2 : w1.cell? ⟨g1, 2, none⟩ = some (.slice a3 f.inn.length c3) := (hM.box 0 rfl).facts.1 2
    have u3 : w1.cell? ⟨g1, 3, none⟩ = some (.slice a4 f.kids.length c4) := (hM.box 0 rfl).facts.1 3
    have uf := (hM.box 0 rfl).facts.2
    have ul := (hM.box 0 rfl).lt
    have hm1 := hmp.out w1 hM.ex
    clear hmp
    obtain ⟨K, hK⟩ : ∃ K, f.kids.map simpF = K := ⟨_, rfl⟩
    rw [hK] at hm1 hsum hKl hKw hJ0
    clear hK
    go_wp2_with fail
    refine hm1.mono ?_
    rintro e w2 ⟨p3, q3, p4, q4, rfl, hx2, hF⟩
    have hM2 := hM.up hx2
    generalize up H w1 w2 = H1 at *
    clear hM hm1 hx2 u0 u1 u2 u3 uf ul
    generalize simpF f = J at *
    have hb4 : sumN Fm.bulk K ≤ 400000 := by omega
    clear hb hbe hkl hin hsum hfn1
    have hfo2 : (f.op = 3 ∨ f.op = 6) → ∃ g, K = [g] := fun h => by
      obtain ⟨g, hg⟩ := formed_one hfo h
      rw [hg] at hKl
      match K, hKl with
      | [x], _ => exact ⟨x, rfl⟩
    clear hKl hfo
    generalize f.op = op at *
    generalize f.n = n at *
    generalize f.inn = inn at *
    generalize f.kids = fk at *
    clear f
    have u0 : w2.cell? ⟨g1, 0, none⟩ = some (.int .i64 op) := (hM2.box 0 rfl).facts.1 0
    have u1 : w2.cell? ⟨g1, 1, none⟩ = some (.int .i64 n) := (hM2.box 0 rfl).facts.1 1
    have u2 : w2.cell? ⟨g1, 2, none⟩ = some (.slice a3 inn.length c3) := (hM2.box 0 rfl).facts.1 2
    have u3 : w2.cell? ⟨g1, 3, none⟩ = some (.slice a4 fk.length c4) := (hM2.box 0 rfl).facts.1 3
    have uf := (hM2.box 0 rfl).facts.2
    have ul := (hM2.box 0 rfl).lt
    have hM3 := hM2.set4 0 rfl (.int .i64 (Fm.mk op n inn K).op) (.int .i64 (Fm.mk op n inn K).n) (.slice p3 (Fm.mk op n inn K).inn.length q3) (.slice p4 (Fm.mk op n inn K).kids.length q4)
    simp only [List.set_cons_zero] at hM3
    clear hM2
    have hFK : FmsR H1 (.slice p4 K.length q4) K := FmR.kids_rep (x := .mk op n inn K) hF
    go_upto_region 2 with (fail)
    generalize World.setCell _ _ _ = w3 at *
    replace hM3 : Mem w H [box g1 #[.int .i64 op, .int .i64 n, .slice p3 inn.length q3, .slice p4 K.length q4] 29, box g2 #[.int .i64 0, .int .i64 0, .slice none 0 0, .slice none 0 0] 29] H1 w3 := hM3
    clear u0 u1 u2 u3 uf ul
    have u0 : w3.cell? ⟨g1, 0, none⟩ = some (.int .i64 op) := (hM3.box 0 rfl).facts.1 0
    have u1 : w3.cell? ⟨g1, 1, none⟩ = some (.int .i64 n) := (hM3.box 0 rfl).facts.1 1
    have u2 : w3.cell? ⟨g1, 2, none⟩ = some (.slice p3 inn.length q3) := (hM3.box 0 rfl).facts.1 2
    have u3 : w3.cell? ⟨g1, 3, none⟩ = some (.slice p4 K.length q4) := (hM3.box 0 rfl).facts.1 3
    have ul := (hM3.box 0 rfl).lt
    by_cases h2 : op = 2
    · have b2 : (op == 2) = true := by simpa using h2
      by_cases hi0 : inn = []
      · have hJ : Hid (J = neverF) := by show _ = _; rw [hJ0]; unfold nodeS; rw [if_pos h2, if_pos hi0]
        have b0 : ((inn.length : Int) == 0) = true := by rw [hi0]; rfl
        clear hJ0 h2 hfo2 hKw hi0
        go_upto_region 5 with (fail)
        go_wp2_with fail
        refine (never_c H1 _ hM3.ple).mono ?_
        rintro e wn ⟨rfl, hxn⟩
        have hMn := hM3.ext hxn
        clear hM3 hxn
        have rz0 : _ = some (Value.int .i64 0) := (hMn.box 1 rfl).facts.1 0
        have rz1 : _ = some (Value.int .i64 0) := (hMn.box 1 rfl).facts.1 1
        have rz2 : _ = some (Value.slice none 0 0) := (hMn.box 1 rfl).facts.1 2
        have rz3 : _ = some (Value.slice none 0 0) := (hMn.box 1 rfl).facts.1 3
        obtain ⟨-, rzf⟩ := (hMn.box 1 rfl).facts
        have rzl := (hMn.box 1 rfl).lt
        have hM8 := hMn.set4 1 rfl (.int .i64 neverF.op) (.int .i64 neverF.n) (.slice none neverF.inn.length 0) (.slice none neverF.kids.length 0)
        simp only [List.set_cons_zero, List.set_cons_succ] at hM8
        clear hMn
        go_wp2_with fail
        generalize World.setCell _ _ _ = w9 at *
        obtain ⟨rq', -⟩ := (hM8.box 1 rfl).facts
        have rq0 : _ = some ((.int .i64 neverF.op) : Value) := rq' 0
        have rq1 : _ = some ((.int .i64 neverF.n) : Value) := rq' 1
        have rq2 : _ = some ((.slice none neverF.inn.length 0) : Value) := rq' 2
        have rq3 : _ = some ((.slice none neverF.kids.length 0) : Value) := rq' 3
        refine bodyPost_ret (v := .agg #[(.int .i64 neverF.op), (.int .i64 neverF.n), (.slice none neverF.inn.length 0), (.slice none neverF.kids.length 0)]) (by simp [results, Tryz.results65, go_sem, rq0, rq1, rq2, rq3]) rfl ?_
        exact ⟨none, 0, none, 0, by rw [hJ.out], hM8.ex, by rw [hJ.out]; exact neverF_R _⟩
      · have hJ : Hid (J = .mk op n inn K) := by show _ = _; rw [hJ0]; unfold nodeS; rw [if_pos h2, if_neg hi0]
        have b0 : ((inn.length : Int) == 0) = false := by
          rw [beq_eq_false_iff_ne]; intro e; exact hi0 (List.length_eq_zero_iff.1 (by omega))
        clear hJ0 h2 hfo2 hKw hi0
        have rz0 : _ = some (Value.int .i64 0) := (hM3.box 1 rfl).facts.1 0
        have rz1 : _ = some (Value.int .i64 0) := (hM3.box 1 rfl).facts.1 1
        have rz2 : _ = some (Value.slice none 0 0) := (hM3.box 1 rfl).facts.1 2
        have rz3 : _ = some (Value.slice none 0 0) := (hM3.box 1 rfl).facts.1 3
        obtain ⟨-, rzf⟩ := (hM3.box 1 rfl).facts
        have rzl := (hM3.box 1 rfl).lt
        have hM8 := hM3.set4 1 rfl (.int .i64 op) (.int .i64 n) (.slice p3 inn.length q3) (.slice p4 K.length q4)
        simp only [List.set_cons_zero, List.set_cons_succ] at hM8
        clear hM3
        go_wp2_with fail
        generalize World.setCell _ _ _ = w9 at *
        obtain ⟨rq', -⟩ := (hM8.box 1 rfl).facts
        have rq0 : _ = some ((.int .i64 op) : Value) := rq' 0
        have rq1 : _ = some ((.int .i64 n) : Value) := rq' 1
        have rq2 : _ = some ((.slice p3 inn.length q3) : Value) := rq' 2
        have rq3 : _ = some ((.slice p4 K.length q4) : Value) := rq' 3
        refine bodyPost_ret (v := .agg #[(.int .i64 op), (.int .i64 n), (.slice p3 inn.length q3), (.slice p4 K.length q4)]) (by simp [results, Tryz.results65, go_sem, rq0, rq1, rq2, rq3]) rfl ?_
        exact ⟨p3, q3, p4, q4, by rw [hJ.out]; rfl, hM8.ex, by rw [hJ.out]; exact mono_FmR _ _ _ _ hM8.ub hF⟩
    have b2 : (op == 2) = false := by simpa using h2
    by_cases h3 : op = 3
    · have b3 : (op == 3) = true := by simpa using h3
      obtain ⟨g, rfl⟩ := hfo2 (.inl h3)
      obtain ⟨kb, ko, k3, m3, k4, m4, ek, z0, z1, z2, z3, hE, zl⟩ := FmsR.atH hFK hM3.ple 0 (by simp)
      cases ek
      simp only [List.getElem_cons_zero, Nat.zero_mul, Nat.add_zero] at z0 z1 z2 z3 hE
      have hnv := fun W (e : Ext w3 W) => isNever_c g _ W (mono_FmR _ _ _ _ (hM3.ple.trans e.ple) hE)
      unfold fmC at hnv
      cases hn : neverB g with
      | true =>
        have hJ : Hid (J = neverF) := by
          show _ = _; rw [hJ0]; unfold nodeS; rw [if_neg h2, if_pos h3, if_pos (by exact hn)]
        rw [show decide (g.op = 5 ∧ g.kids = []) = true from hn] at hnv
        replace hnv := Lib.hid hnv
        clear hJ0 h2 h3 hfo2 hKw hn
        go_wp2_with fail
        refine RetV_at (hnv.out _ xE) ?_
        intro w4 hx4
        have hM4 := hM3.ext hx4
        clear hM3 hx4 hnv z0 z1 z2 z3 zl u0 u1 u2 u3 ul
        go_upto_region 8 with (fail)
        go_wp2_with fail
        refine (never_c H1 _ hM4.ple).mono ?_
        rintro e wn ⟨rfl, hxn⟩
        have hMn := hM4.ext hxn
        clear hM4 hxn
        have rz0 : _ = some (Value.int .i64 0) := (hMn.box 1 rfl).facts.1 0
        have rz1 : _ = some (Value.int .i64 0) := (hMn.box 1 rfl).facts.1 1
        have rz2 : _ = some (Value.slice none 0 0) := (hMn.box 1 rfl).facts.1 2
        have rz3 : _ = some (Value.slice none 0 0) := (hMn.box 1 rfl).facts.1 3
        obtain ⟨-, rzf⟩ := (hMn.box 1 rfl).facts
        have rzl := (hMn.box 1 rfl).lt
        have hM8 := hMn.set4 1 rfl (.int .i64 neverF.op) (.int .i64 neverF.n) (.slice none neverF.inn.length 0) (.slice none neverF.kids.length 0)
        simp only [List.set_cons_zero, List.set_cons_succ] at hM8
        clear hMn
        go_wp2_with fail
        generalize World.setCell _ _ _ = w9 at *
        obtain ⟨rq', -⟩ := (hM8.box 1 rfl).facts
        have rq0 : _ = some ((.int .i64 neverF.op) : Value) := rq' 0
        have rq1 : _ = some ((.int .i64 neverF.n) : Value) := rq' 1
        have rq2 : _ = some ((.slice none neverF.inn.length 0) : Value) := rq' 2
        have rq3 : _ = some ((.slice none neverF.kids.length 0) : Value) := rq' 3
        refine bodyPost_ret (v := .agg #[(.int .i64 neverF.op), (.int .i64 neverF.n), (.slice none neverF.inn.length 0), (.slice none neverF.kids.length 0)]) (by simp [results, Tryz.results65, go_sem, rq0, rq1, rq2, rq3]) rfl ?_
        exact ⟨none, 0, none, 0, by rw [hJ.out], hM8.ex, by rw [hJ.out]; exact neverF_R _⟩
      | false =>
        have hJ : Hid (J = .mk op n inn [g]) := by
          show _ = _; rw [hJ0]; unfold nodeS; rw [if_neg h2, if_pos h3, if_neg (by rw [show neverB ([g].headD noF) = false from hn]; simp)]
        rw [show decide (g.op = 5 ∧ g.kids = []) = false from hn] at hnv
        replace hnv := Lib.hid hnv
        clear hJ0 h2 h3 hfo2 hKw hn
        go_wp2_with fail
        refine RetV_at (hnv.out _ xE) ?_
        intro w4 hx4
        have hM4 := hM3.ext hx4
        clear hM3 hx4 hnv z0 z1 z2 z3 zl u0 u1 u2 u3 ul
        generalize (some ⟨kb, ko, none⟩ : Option Addr) = p4 at *
        obtain ⟨N1, hN1⟩ : ∃ N, Hid (N = ([g] : List Fm).length) := ⟨_, rfl⟩
        rw [← hN1.out] at hM4
        have u0 : w4.cell? ⟨g1, 0, none⟩ = some (.int .i64 op) := (hM4.box 0 rfl).facts.1 0
        have u1 : w4.cell? ⟨g1, 1, none⟩ = some (.int .i64 n) := (hM4.box 0 rfl).facts.1 1
        have u2 : w4.cell? ⟨g1, 2, none⟩ = some (.slice p3 inn.length q3) := (hM4.box 0 rfl).facts.1 2
        have u3 : w4.cell? ⟨g1, 3, none⟩ = some (.slice p4 N1 q4) := (hM4.box 0 rfl).facts.1 3
        have ul := (hM4.box 0 rfl).lt
        have rz0 : _ = some (Value.int .i64 0) := (hM4.box 1 rfl).facts.1 0
        have rz1 : _ = some (Value.int .i64 0) := (hM4.box 1 rfl).facts.1 1
        have rz2 : _ = some (Value.slice none 0 0) := (hM4.box 1 rfl).facts.1 2
        have rz3 : _ = some (Value.slice none 0 0) := (hM4.box 1 rfl).facts.1 3
        obtain ⟨-, rzf⟩ := (hM4.box 1 rfl).facts
        have rzl := (hM4.box 1 rfl).lt
        have hM8 := hM4.set4 1 rfl (.int .i64 op) (.int .i64 n) (.slice p3 inn.length q3) (.slice p4 N1 q4)
        simp only [List.set_cons_zero, List.set_cons_succ] at hM8
        clear hM4
        go_wp2_with fail
        generalize World.setCell _ _ _ = w9 at *
        obtain ⟨rq', -⟩ := (hM8.box 1 rfl).facts
        have rq0 : _ = some ((.int .i64 op) : Value) := rq' 0
        have rq1 : _ = some ((.int .i64 n) : Value) := rq' 1
        have rq2 : _ = some ((.slice p3 inn.length q3) : Value) := rq' 2
        have rq3 : _ = some ((.slice p4 N1 q4) : Value) := rq' 3
        refine bodyPost_ret (v := .agg #[(.int .i64 op), (.int .i64 n), (.slice p3 inn.length q3), (.slice p4 N1 q4)]) (by simp [results, Tryz.results65, go_sem, rq0, rq1, rq2, rq3]) rfl ?_
        exact ⟨p3, q3, p4, q4, by rw [hJ.out, hN1.out]; rfl, hM8.ex, by rw [hJ.out]; exact mono_FmR _ _ _ _ hM8.ub hF⟩
    have b3 : (op == 3) = false := by simpa using h3
    by_cases h6 : op = 6
    · have b6 : (op == 6) = true := by simpa using h6
      obtain ⟨g, rfl⟩ := hfo2 (.inr h6)
      obtain ⟨kb, ko, k3, m3, k4, m4, ek, z0, z1, z2, z3, hE, zl⟩ := FmsR.atH hFK hM3.ple 0 (by simp)
      cases ek
      simp only [List.getElem_cons_zero, Nat.zero_mul, Nat.add_zero] at z0 z1 z2 z3 hE
      have hgw := hKw g (by simp)
      have hM4 := hM3.ext (Ext.new w3 (.cells #[.int .i64 g.op, .int .i64 g.n, .slice k3 g.inn.length m3, .slice k4 g.kids.length m4] 29))
      have o7 := Proofs.YtbpilielamjnoaaGreat.Own.new w3 #[.int .i64 g.op, .int .i64 g.n, .slice k3 g.inn.length m3, .slice k4 g.kids.length m4] 29
      clear hKw hfo2
      go_upto_region 11 with (fail)
      generalize w3.heap.size = g7 at *
      clear hM3 z0 z1 z2 z3 zl u0 u1 u2 u3 ul
      generalize w3.alloc _ = w4 at *
      have y0 : w4.cell? ⟨g7, 0, none⟩ = some (.int .i64 g.op) := o7.facts.1 0
      have y1 : w4.cell? ⟨g7, 1, none⟩ = some (.int .i64 g.n) := o7.facts.1 1
      have y2 : w4.cell? ⟨g7, 2, none⟩ = some (.slice k3 g.inn.length m3) := o7.facts.1 2
      have y3 : w4.cell? ⟨g7, 3, none⟩ = some (.slice k4 g.kids.length m4) := o7.facts.1 3
      have yl := o7.lt
      by_cases h0 : g.op = 0
      · have c0 : (g.op == 0) = true := by simpa using h0
        have hJ : Hid (J = neverF) := by
          show _ = _; rw [hJ0]; unfold nodeS; rw [if_neg h2, if_neg h3, if_pos h6, if_pos (by exact h0)]
        clear hJ0 h2 h3 h6 h0 o7
        go_upto_region 12 with (fail)
        clear y0 y1 y2 y3 yl
        go_wp2_with fail
        refine (never_c H1 _ hM4.ple).mono ?_
        rintro e wn ⟨rfl, hxn⟩
        have hMn := hM4.ext hxn
        clear hM4 hxn
        have rz0 : _ = some (Value.int .i64 0) := (hMn.box 1 rfl).facts.1 0
        have rz1 : _ = some (Value.int .i64 0) := (hMn.box 1 rfl).facts.1 1
        have rz2 : _ = some (Value.slice none 0 0) := (hMn.box 1 rfl).facts.1 2
        have rz3 : _ = some (Value.slice none 0 0) := (hMn.box 1 rfl).facts.1 3
        obtain ⟨-, rzf⟩ := (hMn.box 1 rfl).facts
        have rzl := (hMn.box 1 rfl).lt
        have hM8 := hMn.set4 1 rfl (.int .i64 neverF.op) (.int .i64 neverF.n) (.slice none neverF.inn.length 0) (.slice none neverF.kids.length 0)
        simp only [List.set_cons_zero, List.set_cons_succ] at hM8
        clear hMn
        go_wp2_with fail
        generalize World.setCell _ _ _ = w9 at *
        obtain ⟨rq', -⟩ := (hM8.box 1 rfl).facts
        have rq0 : _ = some ((.int .i64 neverF.op) : Value) := rq' 0
        have rq1 : _ = some ((.int .i64 neverF.n) : Value) := rq' 1
        have rq2 : _ = some ((.slice none neverF.inn.length 0) : Value) := rq' 2
        have rq3 : _ = some ((.slice none neverF.kids.length 0) : Value) := rq' 3
        refine bodyPost_ret (v := .agg #[(.int .i64 neverF.op), (.int .i64 neverF.n), (.slice none neverF.inn.length 0), (.slice none neverF.kids.length 0)]) (by simp [results, Tryz.results65, go_sem, rq0, rq1, rq2, rq3]) rfl ?_
        exact ⟨none, 0, none, 0, by rw [hJ.out], hM8.ex, by rw [hJ.out]; exact neverF_R _⟩
      have c0 : (g.op == 0) = false := by simpa using h0
      have hnv := fun W (e : Ext w4 W) => isNever_c g _ W (mono_FmR _ _ _ _ (hM4.ple.trans e.ple) hE)
      unfold fmC at hnv
      cases hn : neverB g with
      | true =>
        have hJ : Hid (J = noF) := by
          show _ = _; rw [hJ0]; unfold nodeS; rw [if_neg h2, if_neg h3, if_pos h6, if_neg (by exact h0), if_pos (by exact hn)]
        rw [show decide (g.op = 5 ∧ g.kids = []) = true from hn] at hnv
        replace hnv := Lib.hid hnv
        clear hJ0 h2 h3 h6 h0 hn o7
        go_wp2_with fail
        refine RetV_at (hnv.out _ xE) ?_
        intro w5 hx5
        have hM5 := hM4.ext hx5
        clear hM4 hx5 hnv y0 y1 y2 y3 yl
        have rz0 : _ = some (Value.int .i64 0) := (hM5.box 1 rfl).facts.1 0
        have rz1 : _ = some (Value.int .i64 0) := (hM5.box 1 rfl).facts.1 1
        have rz2 : _ = some (Value.slice none 0 0) := (hM5.box 1 rfl).facts.1 2
        have rz3 : _ = some (Value.slice none 0 0) := (hM5.box 1 rfl).facts.1 3
        obtain ⟨-, rzf⟩ := (hM5.box 1 rfl).facts
        have rzl := (hM5.box 1 rfl).lt
        have hM8 := hM5.set4 1 rfl (.int .i64 0) (.int .i64 0) (.slice none 0 0) (.slice none 0 0)
        simp only [List.set_cons_zero, List.set_cons_succ] at hM8
        clear hM5
        go_wp2_with fail
        generalize World.setCell _ _ _ = w9 at *
        obtain ⟨rq', -⟩ := (hM8.box 1 rfl).facts
        have rq0 : _ = some ((.int .i64 0) : Value) := rq' 0
        have rq1 : _ = some ((.int .i64 0) : Value) := rq' 1
        have rq2 : _ = some ((.slice none 0 0) : Value) := rq' 2
        have rq3 : _ = some ((.slice none 0 0) : Value) := rq' 3
        refine bodyPost_ret (v := .agg #[(.int .i64 0), (.int .i64 0), (.slice none 0 0), (.slice none 0 0)]) (by simp [results, Tryz.results65, go_sem, rq0, rq1, rq2, rq3]) rfl ?_
        exact ⟨none, 0, none, 0, by rw [hJ.out]; rfl, hM8.ex, by rw [hJ.out]; exact noF_R _⟩
      | false =>
        rw [show decide (g.op = 5 ∧ g.kids = []) = false from hn] at hnv
        replace hnv := Lib.hid hnv
        go_wp2_with fail
        refine RetV_at (hnv.out _ xE) ?_
        intro w5 hx5
        have hM5 := hM4.ext hx5
        replace o7 := o7.keep hx5
        clear hM4 hx5 hnv y0 y1 y2 y3 yl
        have y0 : w5.cell? ⟨g7, 0, none⟩ = some (.int .i64 g.op) := o7.facts.1 0
        have y3 : w5.cell? ⟨g7, 3, none⟩ = some (.slice k4 g.kids.length m4) := o7.facts.1 3
        have yl := o7.lt
        by_cases h66 : g.op = 6
        · have c6 : (g.op == 6) = true := by simpa using h66
          obtain ⟨g', hg'⟩ := formed_one (wholeN_formed hgw) (.inr h66)
          have hGK : FmsR H1 (.slice k4 g.kids.length m4) g.kids := FmR.kids_rep hE
          have hJ : Hid (J = g') := by
            show _ = _; rw [hJ0]; unfold nodeS; rw [if_neg h2, if_neg h3, if_pos h6, if_neg (by exact h0), if_neg (by rw [show neverB ([g].headD noF) = false from hn]; simp), if_pos (by exact h66)]
            show g.kids.headD noF = g'
            rw [hg']; rfl
          rw [hg'] at hGK
          have hl1 : g.kids.length = 1 := by rw [hg']; rfl
          rw [hl1] at y3
          obtain ⟨jb, jo, j3, n3, j4, n4, ej, x0, x1, x2, x3, hE', xl⟩ := FmsR.atH hGK hM5.ple 0 (by simp)
          cases ej
          simp only [List.getElem_cons_zero, Nat.zero_mul, Nat.add_zero] at x0 x1 x2 x3 hE'
          clear hJ0 h2 h3 h6 h0 hn h66 hg' hl1 hGK
          have rz0 : _ = some (Value.int .i64 0) := (hM5.box 1 rfl).facts.1 0
          have rz1 : _ = some (Value.int .i64 0) := (hM5.box 1 rfl).facts.1 1
          have rz2 : _ = some (Value.slice none 0 0) := (hM5.box 1 rfl).facts.1 2
          have rz3 : _ = some (Value.slice none 0 0) := (hM5.box 1 rfl).facts.1 3
          obtain ⟨-, rzf⟩ := (hM5.box 1 rfl).facts
          have rzl := (hM5.box 1 rfl).lt
          have hM8 := hM5.set4 1 rfl (.int .i64 g'.op) (.int .i64 g'.n) (.slice j3 g'.inn.length n3) (.slice j4 g'.kids.length n4)
          simp only [List.set_cons_zero, List.set_cons_succ] at hM8
          clear hM5
          go_wp2_with fail
          generalize World.setCell _ _ _ = w9 at *
          obtain ⟨rq', -⟩ := (hM8.box 1 rfl).facts
          have rq0 : _ = some ((.int .i64 g'.op) : Value) := rq' 0
          have rq1 : _ = some ((.int .i64 g'.n) : Value) := rq' 1
          have rq2 : _ = some ((.slice j3 g'.inn.length n3) : Value) := rq' 2
          have rq3 : _ = some ((.slice j4 g'.kids.length n4) : Value) := rq' 3
          refine bodyPost_ret (v := .agg #[(.int .i64 g'.op), (.int .i64 g'.n), (.slice j3 g'.inn.length n3), (.slice j4 g'.kids.length n4)]) (by simp [results, Tryz.results65, go_sem, rq0, rq1, rq2, rq3]) rfl ?_
          exact ⟨j3, n3, j4, n4, by rw [hJ.out], hM8.ex, by rw [hJ.out]; exact mono_FmR _ _ _ _ hM8.ub hE'⟩
        · have c6 : (g.op == 6) = false := by simpa using h66
          have hJ : Hid (J = .mk op n inn [g]) := by
            show _ = _; rw [hJ0]; unfold nodeS; rw [if_neg h2, if_neg h3, if_pos h6, if_neg (by exact h0), if_neg (by rw [show neverB ([g].headD noF) = false from hn]; simp), if_neg (by exact h66)]
          clear hJ0 h2 h3 h6 h0 hn h66
          generalize (some ⟨kb, ko, none⟩ : Option Addr) = p4 at *
          obtain ⟨N1, hN1⟩ : ∃ N, Hid (N = ([g] : List Fm).length) := ⟨_, rfl⟩
          rw [← hN1.out] at hM5
          have u0 : w5.cell? ⟨g1, 0, none⟩ = some (.int .i64 op) := (hM5.box 0 rfl).facts.1 0
          have u1 : w5.cell? ⟨g1, 1, none⟩ = some (.int .i64 n) := (hM5.box 0 rfl).facts.1 1
          have u2 : w5.cell? ⟨g1, 2, none⟩ = some (.slice p3 inn.length q3) := (hM5.box 0 rfl).facts.1 2
          have u3 : w5.cell? ⟨g1, 3, none⟩ = some (.slice p4 N1 q4) := (hM5.box 0 rfl).facts.1 3
          have ul := (hM5.box 0 rfl).lt
          have rz0 : _ = some (Value.int .i64 0) := (hM5.box 1 rfl).facts.1 0
          have rz1 : _ = some (Value.int .i64 0) := (hM5.box 1 rfl).facts.1 1
          have rz2 : _ = some (Value.slice none 0 0) := (hM5.box 1 rfl).facts.1 2
          have rz3 : _ = some (Value.slice none 0 0) := (hM5.box 1 rfl).facts.1 3
          obtain ⟨-, rzf⟩ := (hM5.box 1 rfl).facts
          have rzl := (hM5.box 1 rfl).lt
          have hM8 := hM5.set4 1 rfl (.int .i64 op) (.int .i64 n) (.slice p3 inn.length q3) (.slice p4 N1 q4)
          simp only [List.set_cons_zero, List.set_cons_succ] at hM8
          clear hM5
          go_wp2_with fail
          generalize World.setCell _ _ _ = w9 at *
          obtain ⟨rq', -⟩ := (hM8.box 1 rfl).facts
          have rq0 : _ = some ((.int .i64 op) : Value) := rq' 0
          have rq1 : _ = some ((.int .i64 n) : Value) := rq' 1
          have rq2 : _ = some ((.slice p3 inn.length q3) : Value) := rq' 2
          have rq3 : _ = some ((.slice p4 N1 q4) : Value) := rq' 3
          refine bodyPost_ret (v := .agg #[(.int .i64 op), (.int .i64 n), (.slice p3 inn.length q3), (.slice p4 N1 q4)]) (by simp [results, Tryz.results65, go_sem, rq0, rq1, rq2, rq3]) rfl ?_
          exact ⟨p3, q3, p4, q4, by rw [hJ.out, hN1.out]; rfl, hM8.ex, by rw [hJ.out]; exact mono_FmR _ _ _ _ hM8.ub hF⟩
    have b6 : (op == 6) = false := by simpa using h6
    by_cases h45 : op = 4 ∨ op = 5
    · have hJ : Hid (J = joinF op K) := by
        show _ = _; rw [hJ0]; unfold nodeS; rw [if_neg h2, if_neg h3, if_neg h6, if_pos h45]
      have hcj := joined_c op K (.slice p4 K.length q4) w3 hM3.ple hFK h45 hb4
      rw [← hJ.out] at hcj
      clear hJ0 h2 h3 h6 hKw hfo2 hFK hF hb4
      have b45 : (op == 4) = true ∨ ((op == 4) = false ∧ (op == 5) = true) := by
        rcases h45 with rfl | rfl
        · exact .inl rfl
        · exact .inr ⟨rfl, rfl⟩
      clear h45 hJ
      replace hcj := Lib.hid hcj
      rcases b45 with b4 | ⟨b4, b5⟩
      all_goals
        go_wp2_with fail
        refine hcj.out.mono ?_
        rintro e w4 ⟨r3, s3, r4, s4, rfl, hx4, hQ⟩
        have hM4 := hM3.up hx4
        generalize up H1 w3 w4 = H4 at *
        clear hM3 hx4 hcj u0 u1 u2 u3 ul
        have rz0 : _ = some (Value.int .i64 0) := (hM4.box 1 rfl).facts.1 0
        have rz1 : _ = some (Value.int .i64 0) := (hM4.box 1 rfl).facts.1 1
        have rz2 : _ = some (Value.slice none 0 0) := (hM4.box 1 rfl).facts.1 2
        have rz3 : _ = some (Value.slice none 0 0) := (hM4.box 1 rfl).facts.1 3
        obtain ⟨-, rzf⟩ := (hM4.box 1 rfl).facts
        have rzl := (hM4.box 1 rfl).lt
        have hM8 := hM4.set4 1 rfl (.int .i64 J.op) (.int .i64 J.n) (.slice r3 J.inn.length s3) (.slice r4 J.kids.length s4)
        simp only [List.set_cons_zero, List.set_cons_succ] at hM8
        clear hM4
        go_wp2_with fail
        generalize World.setCell _ _ _ = w9 at *
        obtain ⟨rq', -⟩ := (hM8.box 1 rfl).facts
        have rq0 : _ = some ((.int .i64 J.op) : Value) := rq' 0
        have rq1 : _ = some ((.int .i64 J.n) : Value) := rq' 1
        have rq2 : _ = some ((.slice r3 J.inn.length s3) : Value) := rq' 2
        have rq3 : _ = some ((.slice r4 J.kids.length s4) : Value) := rq' 3
        refine bodyPost_ret (v := .agg #[(.int .i64 J.op), (.int .i64 J.n), (.slice r3 J.inn.length s3), (.slice r4 J.kids.length s4)]) (by simp [results, Tryz.results65, go_sem, rq0, rq1, rq2, rq3]) rfl ?_
        exact ⟨r3, s3, r4, s4, rfl, hM8.ex, mono_FmR _ _ _ _ hM8.ub hQ⟩
    · have hJ : Hid (J = .mk op n inn K) := by
        show _ = _; rw [hJ0]; unfold nodeS; rw [if_neg h2, if_neg h3, if_neg h6, if_neg h45]
      have b4 : (op == 4) = false := by rw [beq_eq_false_iff_ne]; omega
      have b5 : (op == 5) = false := by rw [beq_eq_false_iff_ne]; omega
      clear hJ0 h2 h3 h6 h45 hKw hfo2 hFK hb4
      have rz0 : _ = some (Value.int .i64 0) := (hM3.box 1 rfl).facts.1 0
      have rz1 : _ = some (Value.int .i64 0) := (hM3.box 1 rfl).facts.1 1
      have rz2 : _ = some (Value.slice none 0 0) := (hM3.box 1 rfl).facts.1 2
      have rz3 : _ = some (Value.slice none 0 0) := (hM3.box 1 rfl).facts.1 3
      obtain ⟨-, rzf⟩ := (hM3.box 1 rfl).facts
      have rzl := (hM3.box 1 rfl).lt
      have hM8 := hM3.set4 1 rfl (.int .i64 op) (.int .i64 n) (.slice p3 inn.length q3) (.slice p4 K.length q4)
      simp only [List.set_cons_zero, List.set_cons_succ] at hM8
      clear hM3
      go_wp2_with fail
      generalize World.setCell _ _ _ = w9 at *
      obtain ⟨rq', -⟩ := (hM8.box 1 rfl).facts
      have rq0 : _ = some ((.int .i64 op) : Value) := rq' 0
      have rq1 : _ = some ((.int .i64 n) : Value) := rq' 1
      have rq2 : _ = some ((.slice p3 inn.length q3) : Value) := rq' 2
      have rq3 : _ = some ((.slice p4 K.length q4) : Value) := rq' 3
      refine bodyPost_ret (v := .agg #[(.int .i64 op), (.int .i64 n), (.slice p3 inn.length q3), (.slice p4 K.length q4)]) (by simp [results, Tryz.results65, go_sem, rq0, rq1, rq2, rq3]) rfl ?_
      exact ⟨p3, q3, p4, q4, by rw [hJ.out]; rfl, hM8.ex, by rw [hJ.out]; exact mono_FmR _ _ _ _ hM8.ub hF⟩
def simpleE (f : Fm) : Fm × Int := if validF f = 0 then (simpF f, 0) else (noF, validF f)
def pushE (f : Fm) : Fm × Int := if validF f = 0 then (if validF (pushP f) = 0 then (pushP f, 0) else (noF, 4)) else (noF, validF f)
set_option maxRecDepth 100000 in
set_option maxHeartbeats 8000000 in
theorem fsimple_c (f : Fm) (cs : List Value) (w : World) (hr : FmR (ph w) cs f) (hb : f.bulk ≤ 400000) : Calls Tryz.prog 26 #[.agg cs.toArray] w (PushQ w (simpleE f)) := by
  have hr0 := hr
  obtain ⟨a3, c3, a4, c4, rfl, -⟩ := hr.form
  by_cases hf : validF f = 0
  · have hw := (validF_0 hf).2.2
    have hres : simpleE f = (simpF f, 0) := by unfold simpleE; rw [if_pos hf]
    rw [hres]
    have n0 : ((0 : Int) != 0) = false := rfl
    have hM := ((Mem.start w (ph w) (fun _ _ h => h)).new' #[.int .i64 f.op, .int .i64 f.n, .slice a3 f.inn.length c3, .slice a4 f.kids.length c4] 29 (n := w.heap.size) rfl).new' #[.int .i64 0, .int .i64 0, .slice none 0 0, .slice none 0 0] 29 (n := w.heap.size + 1) (by simp)
    simp only [List.cons_append, List.nil_append] at hM
    unfold fmC at hr ⊢
    go_enter Tryz.func26, Tryz.ntmps26
    go_upto_region 1 with (fail)
    generalize World.alloc _ _ = w1 at *
    generalize hg4 : w.heap.size + 1 = g2 at *
    generalize hg3 : w.heap.size = g1 at *
    have u0 : w1.cell? ⟨g1, 0, none⟩ = some (.int .i64 f.op) := (hM.box 0 rfl).facts.1 0
    have u1 : w1.cell? ⟨g1, 1, none⟩ = some (.int .i64 f.n) := (hM.box 0 rfl).facts.1 1
    have u2 : w1.cell? ⟨g1, 2, none⟩ = some (.slice a3 f.inn.length c3) := (hM.box 0 rfl).facts.1 2
    have u3 : w1.cell? ⟨g1, 3, none⟩ = some (.slice a4 f.kids.length c4) := (hM.box 0 rfl).facts.1 3
    have ul := (hM.box 0 rfl).lt
    have hv := fvalid_c f (fmC f a3 c3 a4 c4) w1 (mono_FmR _ _ _ _ hM.ple hr0) (by omega)
    rw [hf] at hv
    go_wp2_with fail
    refine RetV_at hv ?_
    intro w2 hx2
    replace hM := hM.ext hx2
    clear u0 u1 u2 u3 ul hv hx2
    have u0 : w2.cell? ⟨g1, 0, none⟩ = some (.int .i64 f.op) := (hM.box 0 rfl).facts.1 0
    have u1 : w2.cell? ⟨g1, 1, none⟩ = some (.int .i64 f.n) := (hM.box 0 rfl).facts.1 1
    have u2 : w2.cell? ⟨g1, 2, none⟩ = some (.slice a3 f.inn.length c3) := (hM.box 0 rfl).facts.1 2
    have u3 : w2.cell? ⟨g1, 3, none⟩ = some (.slice a4 f.kids.length c4) := (hM.box 0 rfl).facts.1 3
    have ul := (hM.box 0 rfl).lt
    have hcall := simple_c f (ph w) (fmC f a3 c3 a4 c4) w2 hM.ple hr0 hw hb
    unfold fmC at hcall
    generalize simpF f = R at *
    go_wp2_with fail
    refine hcall.mono ?_
    rintro e w4 ⟨p3, q3, p4, q4, rfl, hx4, hQ⟩
    have hM4 := hM.up hx4
    generalize up (ph w) w2 w4 = H4 at *
    clear hM hcall u0 u1 u2 u3 ul hx4
    have rz0 : _ = some (Value.int .i64 0) := (hM4.box 1 rfl).facts.1 0
    have rz1 : _ = some (Value.int .i64 0) := (hM4.box 1 rfl).facts.1 1
    have rz2 : _ = some (Value.slice none 0 0) := (hM4.box 1 rfl).facts.1 2
    have rz3 : _ = some (Value.slice none 0 0) := (hM4.box 1 rfl).facts.1 3
    obtain ⟨-, rzf⟩ := (hM4.box 1 rfl).facts
    have rzl := (hM4.box 1 rfl).lt
    have hM8 := hM4.set4 1 rfl (.int .i64 R.op) (.int .i64 R.n) (.slice p3 R.inn.length q3) (.slice p4 R.kids.length q4)
    simp only [List.set_cons_zero, List.set_cons_succ] at hM8
    clear hM4
    go_wp2_with fail
    generalize World.setCell _ _ _ = w9 at *
    obtain ⟨rq', -⟩ := (hM8.box 1 rfl).facts
    have rq0 : _ = some ((.int .i64 R.op) : Value) := rq' 0
    have rq1 : _ = some ((.int .i64 R.n) : Value) := rq' 1
    have rq2 : _ = some ((.slice p3 R.inn.length q3) : Value) := rq' 2
    have rq3 : _ = some ((.slice p4 R.kids.length q4) : Value) := rq' 3
    refine bodyPost_ret (v := .tuple #[.agg #[(.int .i64 R.op), (.int .i64 R.n), (.slice p3 R.inn.length q3), (.slice p4 R.kids.length q4)], .int .i64 0]) (by simp [results, Tryz.results26, go_sem, rq0, rq1, rq2, rq3]) rfl ?_
    exact ⟨p3, q3, p4, q4, rfl, hM8.ex, mono_FmR _ _ _ _ hM8.ple hQ⟩
  · have hres : simpleE f = (noF, validF f) := by unfold simpleE; rw [if_neg hf]
    rw [hres]
    obtain ⟨z, hz⟩ : ∃ z, validF f = z := ⟨_, rfl⟩
    rw [hz] at hf ⊢
    have n0 : (z != 0) = true := by simpa using hf
    clear hf
    have hf := hz
    clear hz hres
    have hM := ((Mem.start w (ph w) (fun _ _ h => h)).new' #[.int .i64 f.op, .int .i64 f.n, .slice a3 f.inn.length c3, .slice a4 f.kids.length c4] 29 (n := w.heap.size) rfl).new' #[.int .i64 0, .int .i64 0, .slice none 0 0, .slice none 0 0] 29 (n := w.heap.size + 1) (by simp)
    simp only [List.cons_append, List.nil_append] at hM
    unfold fmC at hr ⊢
    go_enter Tryz.func26, Tryz.ntmps26
    go_upto_region 1 with (fail)
    generalize World.alloc _ _ = w1 at *
    generalize hg4 : w.heap.size + 1 = g2 at *
    generalize hg3 : w.heap.size = g1 at *
    have u0 : w1.cell? ⟨g1, 0, none⟩ = some (.int .i64 f.op) := (hM.box 0 rfl).facts.1 0
    have u1 : w1.cell? ⟨g1, 1, none⟩ = some (.int .i64 f.n) := (hM.box 0 rfl).facts.1 1
    have u2 : w1.cell? ⟨g1, 2, none⟩ = some (.slice a3 f.inn.length c3) := (hM.box 0 rfl).facts.1 2
    have u3 : w1.cell? ⟨g1, 3, none⟩ = some (.slice a4 f.kids.length c4) := (hM.box 0 rfl).facts.1 3
    have ul := (hM.box 0 rfl).lt
    have hv := fvalid_c f (fmC f a3 c3 a4 c4) w1 (mono_FmR _ _ _ _ hM.ple hr0) (by omega)
    rw [hf] at hv
    clear hf
    go_wp2_with fail
    refine RetV_at hv ?_
    intro w2 hx2
    replace hM := hM.ext hx2
    clear u0 u1 u2 u3 ul hv hx2
    have rz0 : _ = some (Value.int .i64 0) := (hM.box 1 rfl).facts.1 0
    have rz1 : _ = some (Value.int .i64 0) := (hM.box 1 rfl).facts.1 1
    have rz2 : _ = some (Value.slice none 0 0) := (hM.box 1 rfl).facts.1 2
    have rz3 : _ = some (Value.slice none 0 0) := (hM.box 1 rfl).facts.1 3
    obtain ⟨-, rzf⟩ := (hM.box 1 rfl).facts
    have rzl := (hM.box 1 rfl).lt
    have hM8 := hM.set4 1 rfl (.int .i64 0) (.int .i64 0) (.slice none 0 0) (.slice none 0 0)
    simp only [List.set_cons_zero, List.set_cons_succ] at hM8
    clear hM
    go_wp2_with fail
    generalize World.setCell _ _ _ = w9 at *
    obtain ⟨rq', -⟩ := (hM8.box 1 rfl).facts
    have rq0 : _ = some ((.int .i64 0) : Value) := rq' 0
    have rq1 : _ = some ((.int .i64 0) : Value) := rq' 1
    have rq2 : _ = some ((.slice none 0 0) : Value) := rq' 2
    have rq3 : _ = some ((.slice none 0 0) : Value) := rq' 3
    refine bodyPost_ret (v := .tuple #[.agg #[(.int .i64 0), (.int .i64 0), (.slice none 0 0), (.slice none 0 0)], .int .i64 z]) (by simp [results, Tryz.results26, go_sem, rq0, rq1, rq2, rq3]) rfl ?_
    exact ⟨none, 0, none, 0, rfl, hM8.ex, noF_R _⟩
set_option maxRecDepth 100000 in
set_option maxHeartbeats 8000000 in
theorem fpush_c (f : Fm) (cs : List Value) (w : World) (hr : FmR (ph w) cs f) (hb : f.bulk ≤ 400000) : Calls Tryz.prog 24 #[.agg cs.toArray] w (PushQ w (pushE f)) := by
  have hr0 := hr
  obtain ⟨a3, c3, a4, c4, rfl, -⟩ := hr.form
  by_cases hf : validF f = 0
  · by_cases hp : validF (pushP f) = 0
    · have hres : pushE f = (pushP f, 0) := by unfold pushE; rw [if_pos hf, if_pos hp]
      rw [hres]
      exact push_c f _ w hr hf hp
    · have hres : pushE f = (noF, 4) := by unfold pushE; rw [if_pos hf, if_neg hp]
      rw [hres]
      clear hres
      have hb2 := (push_bulk f).1
      have hb1 := valid_bulk hf
      have hw := (validF_0 hf).2.2
      have n0 : ((0 : Int) != 0) = false := rfl
      have hM := ((Mem.start w (ph w) (fun _ _ h => h)).new' #[.int .i64 f.op, .int .i64 f.n, .slice a3 f.inn.length c3, .slice a4 f.kids.length c4] 29 (n := w.heap.size) rfl).new' #[.int .i64 0, .int .i64 0, .slice none 0 0, .slice none 0 0] 29 (n := w.heap.size + 1) (by simp)
      simp only [List.cons_append, List.nil_append] at hM
      unfold fmC at hr ⊢
      go_enter Tryz.func24, Tryz.ntmps24
      go_upto_region 1 with (fail)
      generalize World.alloc _ _ = w1 at *
      generalize hg4 : w.heap.size + 1 = g2 at *
      generalize hg3 : w.heap.size = g1 at *
      have u0 : w1.cell? ⟨g1, 0, none⟩ = some (.int .i64 f.op) := (hM.box 0 rfl).facts.1 0
      have u1 : w1.cell? ⟨g1, 1, none⟩ = some (.int .i64 f.n) := (hM.box 0 rfl).facts.1 1
      have u2 : w1.cell? ⟨g1, 2, none⟩ = some (.slice a3 f.inn.length c3) := (hM.box 0 rfl).facts.1 2
      have u3 : w1.cell? ⟨g1, 3, none⟩ = some (.slice a4 f.kids.length c4) := (hM.box 0 rfl).facts.1 3
      have ul := (hM.box 0 rfl).lt
      have hv := fvalid_c f (fmC f a3 c3 a4 c4) w1 (mono_FmR _ _ _ _ hM.ple hr0) (by omega)
      rw [hf] at hv
      go_wp2_with fail
      refine RetV_at hv ?_
      intro w2 hx2
      replace hM := hM.ext hx2
      clear u0 u1 u2 u3 ul hv hx2
      have hM3 := (hM.new' #[.func (.func 58) #[] #[.pointer (some ⟨w2.heap.size + 1, 0, none⟩), .pointer (some ⟨w2.heap.size, 0, none⟩)]] 54 (n := w2.heap.size) rfl).new' #[.func (.func 60) #[] #[.pointer (some ⟨w2.heap.size, 0, none⟩), .pointer (some ⟨w2.heap.size + 1, 0, none⟩)]] 54 (n := w2.heap.size + 1) (by simp)
      simp only [List.cons_append, List.nil_append] at hM3
      clear hM
      go_upto_region 7 with (fail)
      generalize World.alloc _ _ = w3 at *
      generalize hg6 : w2.heap.size + 1 = g6 at *
      generalize hg5 : w2.heap.size = g5 at *
      have u0 : w3.cell? ⟨g1, 0, none⟩ = some (.int .i64 f.op) := (hM3.box 0 rfl).facts.1 0
      have u1 : w3.cell? ⟨g1, 1, none⟩ = some (.int .i64 f.n) := (hM3.box 0 rfl).facts.1 1
      have u2 : w3.cell? ⟨g1, 2, none⟩ = some (.slice a3 f.inn.length c3) := (hM3.box 0 rfl).facts.1 2
      have u3 : w3.cell? ⟨g1, 3, none⟩ = some (.slice a4 f.kids.length c4) := (hM3.box 0 rfl).facts.1 3
      have ul := (hM3.box 0 rfl).lt
      have hc5 : w3.cell? ⟨g5, 0, none⟩ = some (.func (.func 58) #[] #[.pointer (some ⟨g6, 0, none⟩), .pointer (some ⟨g5, 0, none⟩)]) := (hM3.box 2 rfl).facts.1 0
      have hc6 : w3.cell? ⟨g6, 0, none⟩ = some (.func (.func 60) #[] #[.pointer (some ⟨g5, 0, none⟩), .pointer (some ⟨g6, 0, none⟩)]) := (hM3.box 3 rfl).facts.1 0
      have l5 : g5 < w3.heap.size := cell_lt hc5
      have hcall := (push_fc g5 g6 f (ph w) (fmC f a3 c3 a4 c4) w3 hc5 hc6 hM3.ple hr0 hw (by omega)).1
      have hfn1 := fun args w => enterFn Tryz.func58 rfl rfl args w
      unfold fmC at hcall
      generalize pushP f = R at *
      go_wp2_with fail
      refine hcall.mono ?_
      rintro e w4 ⟨p3, q3, p4, q4, rfl, hx4, hQ⟩
      have hM4 := hM3.up hx4
      generalize up (ph w) w3 w4 = H4 at *
      clear hM3 hcall hfn1 u0 u1 u2 u3 ul hc5 hc6 l5 hx4
      go_upto_region 8 with (fail)
      have hM5 := (hM4.pick [1] (by decide)).new' #[.int .i64 R.op, .int .i64 R.n, .slice p3 R.inn.length q3, .slice p4 R.kids.length q4] 29 (n := w4.heap.size) rfl
      simp only [List.map_cons, List.map_nil, List.getElem?_cons_zero, List.getElem?_cons_succ, Option.getD_some, List.cons_append, List.nil_append] at hM5
      clear hM4
      generalize w4.alloc _ = w5 at *
      generalize w4.heap.size = g7 at *
      have u0 : w5.cell? ⟨g7, 0, none⟩ = some (.int .i64 R.op) := (hM5.box 1 rfl).facts.1 0
      have u1 : w5.cell? ⟨g7, 1, none⟩ = some (.int .i64 R.n) := (hM5.box 1 rfl).facts.1 1
      have u2 : w5.cell? ⟨g7, 2, none⟩ = some (.slice p3 R.inn.length q3) := (hM5.box 1 rfl).facts.1 2
      have u3 : w5.cell? ⟨g7, 3, none⟩ = some (.slice p4 R.kids.length q4) := (hM5.box 1 rfl).facts.1 3
      have ul := (hM5.box 1 rfl).lt
      have hv := fvalid_c R (fmC R p3 q3 p4 q4) w5 (mono_FmR _ _ _ _ hM5.ple hQ) (by omega)
      have n1 : (validF R != 0) = true := by simpa using hp
      generalize validF R = z at *
      clear hp
      unfold fmC at hv
      go_wp2_with fail
      refine RetV_at hv ?_
      intro w6 hx6
      replace hM5 := hM5.ext hx6
      clear u0 u1 u2 u3 ul hv hx6
      have rz0 : _ = some (Value.int .i64 0) := (hM5.box 0 rfl).facts.1 0
      have rz1 : _ = some (Value.int .i64 0) := (hM5.box 0 rfl).facts.1 1
      have rz2 : _ = some (Value.slice none 0 0) := (hM5.box 0 rfl).facts.1 2
      have rz3 : _ = some (Value.slice none 0 0) := (hM5.box 0 rfl).facts.1 3
      obtain ⟨-, rzf⟩ := (hM5.box 0 rfl).facts
      have rzl := (hM5.box 0 rfl).lt
      have hM8 := hM5.set4 0 rfl (.int .i64 0) (.int .i64 0) (.slice none 0 0) (.slice none 0 0)
      simp only [List.set_cons_zero, List.set_cons_succ] at hM8
      clear hM5
      go_wp2_with fail
      generalize World.setCell _ _ _ = w9 at *
      obtain ⟨rq', -⟩ := (hM8.box 0 rfl).facts
      have rq0 : _ = some ((.int .i64 0) : Value) := rq' 0
      have rq1 : _ = some ((.int .i64 0) : Value) := rq' 1
      have rq2 : _ = some ((.slice none 0 0) : Value) := rq' 2
      have rq3 : _ = some ((.slice none 0 0) : Value) := rq' 3
      refine bodyPost_ret (v := .tuple #[.agg #[(.int .i64 0), (.int .i64 0), (.slice none 0 0), (.slice none 0 0)], .int .i64 4]) (by simp [results, Tryz.results24, go_sem, rq0, rq1, rq2, rq3]) rfl ?_
      exact ⟨none, 0, none, 0, rfl, hM8.ex, noF_R _⟩
  · have hres : pushE f = (noF, validF f) := by unfold pushE; rw [if_neg hf]
    rw [hres]
    obtain ⟨z, hz⟩ : ∃ z, validF f = z := ⟨_, rfl⟩
    rw [hz] at hf ⊢
    have n0 : (z != 0) = true := by simpa using hf
    clear hf
    have hf := hz
    clear hz hres
    have hM := ((Mem.start w (ph w) (fun _ _ h => h)).new' #[.int .i64 f.op, .int .i64 f.n, .slice a3 f.inn.length c3, .slice a4 f.kids.length c4] 29 (n := w.heap.size) rfl).new' #[.int .i64 0, .int .i64 0, .slice none 0 0, .slice none 0 0] 29 (n := w.heap.size + 1) (by simp)
    simp only [List.cons_append, List.nil_append] at hM
    unfold fmC at hr ⊢
    go_enter Tryz.func24, Tryz.ntmps24
    go_upto_region 1 with (fail)
    generalize World.alloc _ _ = w1 at *
    generalize hg4 : w.heap.size + 1 = g2 at *
    generalize hg3 : w.heap.size = g1 at *
    have u0 : w1.cell? ⟨g1, 0, none⟩ = some (.int .i64 f.op) := (hM.box 0 rfl).facts.1 0
    have u1 : w1.cell? ⟨g1, 1, none⟩ = some (.int .i64 f.n) := (hM.box 0 rfl).facts.1 1
    have u2 : w1.cell? ⟨g1, 2, none⟩ = some (.slice a3 f.inn.length c3) := (hM.box 0 rfl).facts.1 2
    have u3 : w1.cell? ⟨g1, 3, none⟩ = some (.slice a4 f.kids.length c4) := (hM.box 0 rfl).facts.1 3
    have ul := (hM.box 0 rfl).lt
    have hv := fvalid_c f (fmC f a3 c3 a4 c4) w1 (mono_FmR _ _ _ _ hM.ple hr0) (by omega)
    rw [hf] at hv
    clear hf
    go_wp2_with fail
    refine RetV_at hv ?_
    intro w2 hx2
    replace hM := hM.ext hx2
    clear u0 u1 u2 u3 ul hv hx2
    have rz0 : _ = some (Value.int .i64 0) := (hM.box 1 rfl).facts.1 0
    have rz1 : _ = some (Value.int .i64 0) := (hM.box 1 rfl).facts.1 1
    have rz2 : _ = some (Value.slice none 0 0) := (hM.box 1 rfl).facts.1 2
    have rz3 : _ = some (Value.slice none 0 0) := (hM.box 1 rfl).facts.1 3
    obtain ⟨-, rzf⟩ := (hM.box 1 rfl).facts
    have rzl := (hM.box 1 rfl).lt
    have hM8 := hM.set4 1 rfl (.int .i64 0) (.int .i64 0) (.slice none 0 0) (.slice none 0 0)
    simp only [List.set_cons_zero, List.set_cons_succ] at hM8
    clear hM
    go_wp2_with fail
    generalize World.setCell _ _ _ = w9 at *
    obtain ⟨rq', -⟩ := (hM8.box 1 rfl).facts
    have rq0 : _ = some ((.int .i64 0) : Value) := rq' 0
    have rq1 : _ = some ((.int .i64 0) : Value) := rq' 1
    have rq2 : _ = some ((.slice none 0 0) : Value) := rq' 2
    have rq3 : _ = some ((.slice none 0 0) : Value) := rq' 3
    refine bodyPost_ret (v := .tuple #[.agg #[(.int .i64 0), (.int .i64 0), (.slice none 0 0), (.slice none 0 0)], .int .i64 z]) (by simp [results, Tryz.results24, go_sem, rq0, rq1, rq2, rq3]) rfl ?_
    exact ⟨none, 0, none, 0, rfl, hM8.ex, noF_R _⟩
end Go.Proofs.YtbpilielamjnoaaGreat
namespace Go.Proofs.YtbpilielamjnoaaGreat
open Go.RowKit
mutual
def lowF (n : Int) : Fm → Bool
  | .mk op m inn kids => (!decide (op = 1) || decide (m < n)) && lowFs n kids
def lowFs (n : Int) : List Fm → Bool
  | [] => true
  | f :: l => lowF n f && lowFs n l
end
theorem lowFs_eq (n : Int) : ∀ l : List Fm, lowFs n l = l.all (lowF n)
  | [] => rfl
  | f :: l => by rw [lowFs, List.all_cons, lowFs_eq n l]
theorem lowF_eq (n : Int) (f : Fm) : lowF n f = ((!decide (f.op = 1) || decide (f.n < n)) && f.kids.all (lowF n)) := by
  cases f with
  | mk op m inn kids => rw [lowF, lowFs_eq]; rfl
theorem wholeN_low (n : Int) (f : Fm) : wholeN n f = (wholeB f && lowF n f) := by
  induction f using Fm.ind with
  | h f ih =>
    rw [wholeN_eq, wholeB_eq, lowF_eq]
    have : f.kids.all (wholeN n) = (f.kids.all wholeB && f.kids.all (lowF n)) := by
      rw [Bool.eq_iff_iff, Bool.and_eq_true]
      simp only [List.all_eq_true]
      constructor
      · intro h
        exact ⟨fun x hx => by have := h x hx; rw [ih x hx, Bool.and_eq_true] at this; exact this.1, fun x hx => by have := h x hx; rw [ih x hx, Bool.and_eq_true] at this; exact this.2⟩
      · rintro ⟨h1, h2⟩ x hx
        rw [ih x hx, h1 x hx, h2 x hx]; rfl
    rw [this]
    cases formed1 f <;> cases (!decide (f.op = 1) || decide (f.n < n)) <;> cases f.kids.all wholeB <;> cases f.kids.all (lowF n) <;> rfl
noncomputable def lowT (n : Int) (t : Thing) : Bool := B (t.clsLt n)
theorem lowT_eq (n : Int) (t : Thing) : lowT n t = (t.cls.all (fun x => decide (x < n)) && t.parts.all (lowT n)) := by
  unfold lowT
  rw [Bool.eq_iff_iff, B_iff, Thing.clsLt_iff, Bool.and_eq_true, List.all_eq_true, List.all_eq_true]
  simp only [B_iff, decide_eq_true_eq]
end Go.Proofs.YtbpilielamjnoaaGreat
namespace Go.Proofs.YtbpilielamjnoaaGreat
open Go.RowKit Go.Shelf
def RcI (ps : List (List Int)) (c i : Nat) (xs : List Int) : Prop := xs.Nodup ∧ (∀ x ∈ xs, 0 ≤ x ∧ x < ps.length ∧ Rch ps c x.toNat) ∧ (c : Int) ∈ xs ∧
  ∀ (j : Nat) (x : Int) (l : List Int), j < i → xs[j]? = some x → ps[x.toNat]? = some l → ∀ p ∈ l, p ∈ xs
theorem Rch.last {ps : List (List Int)} {c d p : Nat} {l : List Int} (h : Rch ps c d) (hl : ps[d]? = some l) (hp : (p : Int) ∈ l) : Rch ps c p := by
  induction h with
  | refl => exact .step hl hp (.refl _)
  | step h1 h2 _ ih => exact .step h1 h2 (ih hl)
theorem RcI.put {ps : List (List Int)} {c i : Nat} {xs : List Int} (h : RcI ps c i xs) (hi : i ≤ xs.length) {x y : Int} {l : List Int} (hx : x ∈ xs) (hl : ps[x.toNat]? = some l) (hy : y ∈ l) (hr : 0 ≤ y ∧ y < ps.length) (hn : y ∉ xs) : RcI ps c i (xs ++ [y]) := by
  obtain ⟨h1, h2, h3, h4⟩ := h
  refine ⟨List.nodup_append.2 ⟨h1, by simp, fun a ha b hb e => ?_⟩, fun z hz => ?_, List.mem_append_left _ h3, fun j z m hj hz hm p hp => ?_⟩
  · rw [List.mem_singleton.1 hb] at e; exact hn (e ▸ ha)
  · rcases List.mem_append.1 hz with h | h
    · exact h2 z h
    · rw [List.mem_singleton.1 h]
      refine ⟨hr.1, hr.2, (h2 x hx).2.2.last hl ?_⟩
      rw [Int.toNat_of_nonneg hr.1]; exact hy
  · rw [List.getElem?_append_left (by omega)] at hz
    exact List.mem_append_left _ (h4 j z m hj hz hm p hp)
theorem RcI.done {ps : List (List Int)} {c : Nat} {xs : List Int} {rk : Nat → Nat} (ok : ParOk ps rk) (h : RcI ps c xs.length xs) (d : Int) : d ∈ xs ↔ 0 ≤ d ∧ d < ps.length ∧ Rch ps c d.toNat := by
  refine ⟨fun hd => h.2.1 d hd, fun ⟨h0, h1, h2⟩ => ?_⟩
  have key : ∀ a b : Nat, Rch ps a b → (a : Int) ∈ xs → (b : Int) ∈ xs := by
    intro a b hab
    induction hab with
    | refl => exact id
    | step hl hp _ ih =>
      intro ha
      obtain ⟨j, hj, e⟩ := List.getElem_of_mem ha
      exact ih (h.2.2.2 j _ _ hj (by rw [List.getElem?_eq_getElem hj, e]) (by rw [Int.toNat_natCast]; exact hl) _ hp)
  have := key _ _ h2 h.2.2.1
  rwa [Int.toNat_of_nonneg h0] at this
section
variable {w0 w w' : World} {H0 H : PH} {L : List Chunk}
end
noncomputable def holdE (ps : List (List Int)) (f : Fm) (t : Thing) : Bool × Int :=
  if validF f ≠ 0 then (false, validF f) else if validV t ≠ 0 then (false, validV t) else if lowF ps.length f && lowT ps.length t then (hold ps f t, 0) else (false, 7)
theorem holdE_1 {ps : List (List Int)} {f : Fm} {t : Thing} (h : validF f ≠ 0) : holdE ps f t = (false, validF f) := by unfold holdE; rw [if_pos h]
theorem holdE_2 {ps : List (List Int)} {f : Fm} {t : Thing} (h : validF f = 0) (h2 : validV t ≠ 0) : holdE ps f t = (false, validV t) := by unfold holdE; rw [if_neg (by simp [h]), if_pos h2]
theorem holdE_3 {ps : List (List Int)} {f : Fm} {t : Thing} (h : validF f = 0) (h2 : validV t = 0) (h3 : (lowF ps.length f && lowT ps.length t) = false) : holdE ps f t = (false, 7) := by unfold holdE; rw [if_neg (by simp [h]), if_neg (by simp [h2]), if_neg (by simp [h3])]
theorem holdE_4 {ps : List (List Int)} {f : Fm} {t : Thing} (h : validF f = 0) (h2 : validV t = 0) (h3 : (lowF ps.length f && lowT ps.length t) = true) : holdE ps f t = (hold ps f t, 0) := by unfold holdE; rw [if_neg (by simp [h]), if_neg (by simp [h2]), if_pos h3]
theorem valid_whole {f : Fm} (h : validF f = 0) : wholeB f = true := by
  unfold validF at h
  split at h
  · omega
  · split at h
    · assumption
    · omega
def HoldE (w : World) (r : Bool × Int) (e : Ending) (w' : World) : Prop := e = .returned (.tuple #[.bool r.1, .int .i64 r.2]) ∧ Ext w w'
set_option maxHeartbeats 1000000 in
theorem kindsE_c (n : Int) (hn : I64 n) (t : Thing) : ∀ (cs : List Value) (w : World), ThingR (ph w) cs t → Calls Tryz.prog 53 #[.agg cs.toArray, .int .i64 n] w (RetV w (.bool (lowT n t))) := by
  induction t using Thing.ind with
  | h t ih =>
    intro cs w hr
    have hq := Lib.hid (lowT_eq n t)
    obtain ⟨a1, c1, a2, c2, a3, c3, rfl, -, -, -, h1, h2, h3⟩ := hr.form
    have HI := Lib.hid ih; clear ih
    have e1 : Ext w ((w.alloc (.cells #[.slice a1 t.cls.length c1, .slice a2 t.vals.length c2, .slice a3 t.parts.length c3] 41)).alloc (.cells #[.int .i64 n] 3)) := xE
    have o2 : Own ((w.alloc (.cells #[.slice a1 t.cls.length c1, .slice a2 t.vals.length c2, .slice a3 t.parts.length c3] 41)).alloc (.cells #[.int .i64 n] 3)) w.heap.size #[.slice a1 t.cls.length c1, .slice a2 t.vals.length c2, .slice a3 t.parts.length c3] 41 := oE
    have o3 : Own ((w.alloc (.cells #[.slice a1 t.cls.length c1, .slice a2 t.vals.length c2, .slice a3 t.parts.length c3] 41)).alloc (.cells #[.int .i64 n] 3)) (w.heap.size + 1) #[.int .i64 n] 3 := oE
    go_enter Tryz.func53, Tryz.ntmps53
    go_upto_region 1 with (fail)
    generalize World.alloc _ _ = w1 at *
    generalize hB3 : w.heap.size + 1 = B3 at *
    generalize w.heap.size = B2 at *
    clear hB3
    have u0 : w1.cell? ⟨B2, 0, none⟩ = some (.slice a1 t.cls.length c1) := o2.facts.1 0
    have u2 : w1.cell? ⟨B2, 2, none⟩ = some (.slice a3 t.parts.length c3) := o2.facts.1 2
    have l2 := o2.lt
    have hc3 : w1.cell? ⟨B3, 0, none⟩ = some (.int .i64 n) := o3.facts.1 0
    have hc1 := containsInt_P 98 #[.pointer (some ⟨B3, 0, none⟩)] _ t.cls (h1.mono mono_IntR e1.ple) (fun x => decide (n ≤ x)) w1 (fun _ _ h => h) (fun args w => enterFn Tryz.func98 rfl rfl args w) (fun k hk wr hx hi => kinds1_c _ n _ wr (hx.cell1 hc3))
    cases hany : t.cls.any fun x => decide (n ≤ x) with
    | true =>
      have hv : Hid (lowT n t = false) := by
        show _ = _
        rw [hq.out, Bool.and_eq_false_iff]
        obtain ⟨x, hx, h⟩ := List.any_eq_true.1 hany
        exact .inl (List.all_eq_false.2 ⟨x, hx, by simp at h ⊢; omega⟩)
      rw [hany] at hc1
      clear hany
      have l3 := o3.lt
      go_wp2_with fail
      refine RetV_at hc1 ?_
      intro w2 hx2
      go_wp2_with fail
      go_ret
      exact ⟨ret_bool hv.out.symm, e1.then hx2⟩
    | false =>
    have hv : Hid (lowT n t = !(t.parts.any fun x => !lowT n x)) := by
      show _ = _
      have h1 : t.cls.all (fun x => decide (x < n)) = true := by
        rw [List.all_eq_true]
        intro x hx
        have := List.any_eq_false.1 hany x hx
        simp at this ⊢; omega
      rw [hq.out, h1, Bool.true_and, List.not_any_eq_all_not]
      simp
    rw [hany] at hc1
    clear hany
    have l3 := o3.lt
    go_wp2_with fail
    refine RetV_at hc1 ?_
    intro w2 hx2
    replace u2 := hx2.cell1 u2
    replace l2 := cell_lt u2
    replace hc3 := hx2.cell1 hc3
    replace l3 := cell_lt hc3
    clear hc1 u0 o2 o3
    have hc2 := containsFunc_thing (fun x => !lowT n x) 100 #[.pointer (some ⟨B3, 0, none⟩)] _ t.parts w2 (h3.mono mono_ThingR (e1.then hx2).ple) (fun args w => enterFn Tryz.func100 rfl rfl args w) (by
      intro w3 hx3 x hx cs hE
      obtain ⟨b1, d1, b2, d2, b3, d3, rfl, -⟩ := hE.form
      replace hc3 := hx3.cell1 hc3
      replace l3 := cell_lt hc3
      clear u2 l2 h1 h2 h3
      go_enter Tryz.func100, Tryz.ntmps100
      go_wp2_with fail
      refine RetV_at (HI.out x hx _ _ (mono_ThingR _ _ _ _ (Ext.ple xE) hE)) ?_
      intro w4 hx4
      go_wp2_with fail
      go_ret
      exact ⟨rfl, xE⟩)
    go_wp2_with fail
    refine RetV_at hc2 ?_
    intro w3 hx3
    go_wp2_with fail
    go_ret
    exact ⟨ret_bool hv.out.symm, (e1.then hx2).then hx3⟩
def orE (a b : Int) : Int := if a = 0 then b else a
theorem orE2_c (a c : Int) (b : Nat) (w : World) (ho : Own w b #[.int .i64 a, .int .i64 c] 25) : Calls Tryz.prog 50 #[.slice (some ⟨b, 0, none⟩) 2 2] w (RetV w (.int .i64 (orE a c))) := by
  have hr : Hid (a = 0 → orE a c = c) := Lib.hid fun h => if_pos h
  have hr2 : Hid (a ≠ 0 → orE a c = a) := Lib.hid fun h => if_neg h
  generalize orE a c = res at *
  go_enter Tryz.func50, Tryz.ntmps50
  go_wp2_with fail
  go_loopw [8] (fun i wr => ∃ k : Nat, k ≤ 2 ∧ i = .int .i64 k ∧ Ext w wr ∧ Hid (1 ≤ k → a = 0) ∧ Hid (2 ≤ k → c = 0)) (fun i _ => 2 - (intOf i).toNat)
  case atStart => exact ⟨0, by omega, rfl, Ext.rfl' _, Lib.hid (by omega), Lib.hid (by omega)⟩
  case round =>
    obtain ⟨k, hk, rfl, hx, ha, hc⟩ := hrel
    by_cases hlt : k < 2
    · have h2 : (k : Int) < 2 := by omega
      have ho2 := ho.keep hx
      have hl := ho2.lt
      clear ho
      rcases k with _ | _ | k
      · have hcl : wr.cell? ⟨b, 0, none⟩ = some (.int .i64 a) := ho2.facts.1 0
        by_cases h0 : a = 0
        · have b0 : (a == 0) = true := by simpa using h0
          have ha2 := Lib.hid h0
          clear h0
          go_wp2_with fail
          go_roundw
          case rel => exact ⟨1, by omega, by go_num, hx, Lib.hid fun _ => ha2.out, Lib.hid (by omega)⟩
          case measure => simp [intOf]
        · have b0 : (a == 0) = false := by simpa using h0
          have hv := Lib.hid (hr2.out h0)
          clear hr hr2
          go_wp2_with fail
          go_ret
          exact ⟨ret_int hv.out.symm, hx⟩
      · have hcl : wr.cell? ⟨b, 1, none⟩ = some (.int .i64 c) := ho2.facts.1 1
        have hv := Lib.hid (hr.out (ha.out (by omega)))
        by_cases h0 : c = 0
        · have b0 : (c == 0) = true := by simpa using h0
          have hc2 := Lib.hid h0
          clear h0 hr hr2 hv
          go_wp2_with fail
          go_roundw
          case rel => exact ⟨2, by omega, by go_num, hx, Lib.hid fun _ => ha.out (by omega), Lib.hid fun _ => hc2.out⟩
          case measure => simp [intOf]
        · have b0 : (c == 0) = false := by simpa using h0
          clear hr hr2
          go_wp2_with fail
          go_ret
          exact ⟨ret_int hv.out.symm, hx⟩
      · omega
    · obtain rfl : k = 2 := by omega
      have hv : Hid (res = 0) := by
        show _ = _
        rw [hr.out (ha.out (by omega)), hc.out (by omega)]
      clear hr hr2
      go_wp2_with fail
      go_ret
      exact ⟨ret_int hv.out.symm, hx⟩
end Go.Proofs.YtbpilielamjnoaaGreat
