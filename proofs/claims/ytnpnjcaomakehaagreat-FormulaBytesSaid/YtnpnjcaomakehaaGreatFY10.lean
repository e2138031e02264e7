/- Lemmas for FY, part 11: package formula: never, not, Push, and more. -/
import Derived.Laws.EntriesVeiled
import Derived.Test.YtnpnjcaomakehaaGreatFY04
import Derived.Test.YtnpnjcaomakehaaGreatFY09
set_option linter.unusedSimpArgs false
set_option linter.unusedVariables false
namespace Go.Proofs.YtnpnjcaomakehaaGreat
open Go.RowKit Go.Shelf
def neverF : Fm := .mk 5 0 [] []
mutual
def pushP : Fm → Fm
  | .mk op n inn kids => if op = 6 then pushNF kids else .mk op n inn (pushPs kids)
def pushN : Fm → Fm
  | .mk op n inn kids => if op = 0 then neverF else if op = 6 then pushPF kids else if op = 5 ∧ kids = [] then noF else if op = 4 then .mk 5 n inn (pushNs kids) else if op = 5 then .mk 4 n inn (pushNs kids) else .mk 6 0 [] [.mk op n inn (pushPs kids)]
def pushPs : List Fm → List Fm
  | [] => []
  | f :: l => pushP f :: pushPs l
def pushNs : List Fm → List Fm
  | [] => []
  | f :: l => pushN f :: pushNs l
def pushPF : List Fm → Fm
  | [] => noF
  | f :: _ => pushP f
def pushNF : List Fm → Fm
  | [] => noF
  | f :: _ => pushN f
end
theorem pushPs_eq : ∀ l : List Fm, pushPs l = l.map pushP
  | [] => rfl
  | f :: l => by rw [pushPs, List.map_cons, pushPs_eq l]
theorem pushNs_eq : ∀ l : List Fm, pushNs l = l.map pushN
  | [] => rfl
  | f :: l => by rw [pushNs, List.map_cons, pushNs_eq l]
theorem pushP_eq (f : Fm) : pushP f = if f.op = 6 then pushNF f.kids else .mk f.op f.n f.inn (f.kids.map pushP) := by
  cases f; rw [pushP, pushPs_eq]; rfl
theorem pushN_eq (f : Fm) : pushN f = if f.op = 0 then neverF else if f.op = 6 then pushPF f.kids else if f.op = 5 ∧ f.kids = [] then noF else if f.op = 4 then .mk 5 f.n f.inn (f.kids.map pushN) else if f.op = 5 then .mk 4 f.n f.inn (f.kids.map pushN) else .mk 6 0 [] [.mk f.op f.n f.inn (f.kids.map pushP)] := by
  cases f; rw [pushN, pushPs_eq, pushNs_eq]; rfl
theorem neverF_R (H : PH) : FmR H (fmC neverF none 0 none 0) neverF := FmR.of (by simp [neverF, Fm.op, I64]) (by simp [neverF, Fm.n, I64]) (SliceRep.nil _ _ _) (SliceRep.nil _ _ _)
theorem never_c (H : PH) (w : World) (hl : PLe H (ph w)) : Calls Tryz.prog 105 #[] w (fun e w' => e = .returned (fmV neverF none 0 none 0) ∧ Ext w w') := by
  go_enter Tryz.func105, Tryz.ntmps105
  go_wp2_with fail
  have ho := Proofs.YtnpnjcaomakehaaGreat.Own.new w #[.int .i64 5, .int .i64 0, .slice none 0 0, .slice none 0 0] 50
  have hx := Ext.new w (.cells #[.int .i64 5, .int .i64 0, .slice none 0 0, .slice none 0 0] 50)
  generalize w.alloc _ = w9 at *
  obtain ⟨q, -⟩ := ho.facts
  have q0 : _ = some (Value.int .i64 5) := q 0
  have q1 : _ = some (Value.int .i64 0) := q 1
  have q2 : _ = some (Value.slice none 0 0) := q 2
  have q3 : _ = some (Value.slice none 0 0) := q 3
  refine bodyPost_ret (v := .agg #[.int .i64 5, .int .i64 0, .slice none 0 0, .slice none 0 0]) (by simp [results, Tryz.results105, go_sem, q0, q1, q2, q3]) rfl ?_
  exact ⟨rfl, hx⟩
set_option maxRecDepth 100000 in
set_option maxHeartbeats 2000000 in
theorem notf_c {H : PH} (f : Fm) (a3 : Option Addr) (c3 : Nat) (a4 : Option Addr) (c4 : Nat) (w : World) (hl : PLe H (ph w)) (hr : FmR H (fmC f a3 c3 a4 c4) f) : Calls Tryz.prog 107 #[fmV f a3 c3 a4 c4] w (NewF w H (.mk 6 0 [] [f])) := by
  have hM := ((((Mem.start w H hl).new' #[.int .i64 f.op, .int .i64 f.n, .slice a3 f.inn.length c3, .slice a4 f.kids.length c4] 50 (n := w.heap.size) rfl).new' #[.int .i64 6, .int .i64 0, .slice none 0 0, .slice (some ⟨w.heap.size + 1 + 1, 0, none⟩) 1 1] 50 (n := w.heap.size + 1) (by simp)).new' #[.int .i64 f.op, .int .i64 f.n, .slice a3 f.inn.length c3, .slice a4 f.kids.length c4] 50 (n := w.heap.size + 1 + 1) (by simp)).asOwn 2 rfl mono_FmR (sz := 4) (xs := [f]) (n := 1) (by simp) (by simp [maxLen]) rfl ⟨_, [], rfl, rfl, hr, rfl⟩
  simp only [List.cons_append, List.nil_append, List.set_cons_succ, List.set_cons_zero] at hM
  obtain ⟨H5, hl5, hM5, hR5⟩ := hM.freezeS 2 rfl
  replace hM5 := hM5.pick [0, 1] (by decide)
  simp only [List.set_cons_succ, List.set_cons_zero, List.map_cons, List.map_nil, List.getElem?_cons_zero, List.getElem?_cons_succ, Option.getD_some] at hM5
  go_enter Tryz.func107, Tryz.ntmps107
  go_wp2_with fail
  generalize World.alloc _ _ = w9 at *
  obtain ⟨q, -⟩ := (hM5.box 1 rfl).facts
  have q0 : _ = some (Value.int .i64 6) := q 0
  have q1 : _ = some (Value.int .i64 0) := q 1
  have q2 : _ = some (Value.slice none 0 0) := q 2
  have q3 : _ = some (Value.slice (some ⟨w.heap.size + 1 + 1, 0, none⟩) 1 1) := q 3
  refine bodyPost_ret (v := .agg #[.int .i64 6, .int .i64 0, .slice none 0 0, .slice (some ⟨w.heap.size + 1 + 1, 0, none⟩) 1 1]) (by simp [results, Tryz.results107, go_sem, q0, q1, q2, q3]) rfl ?_
  exact ⟨none, 0, some ⟨w.heap.size + 1 + 1, 0, none⟩, 1, rfl, hM5.ex, mono_FmR _ _ _ _ hM5.ub (FmR.of (f := .mk 6 0 [] [f]) (by simp [Fm.op, I64]) (by simp [Fm.n, I64]) (SliceRep.nil _ _ _) hR5)⟩
theorem up_laterH {H : PH} {w1 w' w6 : World} (hl : PLe H (ph w1)) (h : Ext w1 w') : PLe (up H w' w6) (up H w1 w6) := by
  intro k o hk
  unfold up at *
  have := h.size
  by_cases h1 : k < w'.heap.size
  · rw [if_pos h1] at hk
    have := ph_lt (hl k o hk)
    rw [if_pos this]; exact hk
  · rw [if_neg h1] at hk
    rw [if_neg (by omega)]; exact hk
set_option maxRecDepth 100000 in
set_option maxHeartbeats 8000000 in
theorem push_fc (g5 g6 : Nat) (f : Fm) : ∀ (H : PH) (cs : List Value) (w : World), w.cell? ⟨g5, 0, none⟩ = some (.func (.func 102) #[] #[.pointer (some ⟨g6, 0, none⟩), .pointer (some ⟨g5, 0, none⟩)]) → w.cell? ⟨g6, 0, none⟩ = some (.func (.func 104) #[] #[.pointer (some ⟨g5, 0, none⟩), .pointer (some ⟨g6, 0, none⟩)]) → PLe H (ph w) → FmR H cs f → wholeB f = true → f.bulk ≤ 900000 →
    Calls Tryz.prog 102 #[.agg cs.toArray, .pointer (some ⟨g6, 0, none⟩), .pointer (some ⟨g5, 0, none⟩)] w (NewF w H (pushP f)) ∧ Calls Tryz.prog 104 #[.agg cs.toArray, .pointer (some ⟨g5, 0, none⟩), .pointer (some ⟨g6, 0, none⟩)] w (NewF w H (pushN f)) := by
  induction f using Fm.ind with
  | h f ih =>
    intro H cs w hc5 hc6 hl hr hw hb
    obtain ⟨a3, c3, a4, c4, rfl, i1, i2, -, -, hfi, hfk⟩ := hr.form
    have hwk : ∀ x ∈ f.kids, wholeB x = true := by
      rw [wholeB_eq, Bool.and_eq_true, List.all_eq_true] at hw; exact hw.2
    have hform : formed1 f = true := by
      rw [wholeB_eq, Bool.and_eq_true] at hw; exact hw.1
    have hkn := f.kids_le
    have hin : f.inn.length ≤ 1000000 := by have := f.bulk_eq; omega
    have HI := Lib.hid (fun x hx (H' : PH) (cs' : List Value) (wr : World) (e : Ext w wr) (hl' : PLe H' (ph wr)) (hr' : FmR H' cs' x) => ih x hx H' cs' wr (e.cell1 hc5) (e.cell1 hc6) hl' hr' (hwk x hx) (by have := Fm.kid_le hx; omega))
    clear ih hw hwk
    have hr0 := hr
    unfold fmC at hr ⊢
    have hM := ((Mem.start w H hl).new' #[.int .i64 f.op, .int .i64 f.n, .slice a3 f.inn.length c3, .slice a4 f.kids.length c4] 50 (n := w.heap.size) rfl).new' #[.int .i64 0, .int .i64 0, .slice none 0 0, .slice none 0 0] 50 (n := w.heap.size + 1) (by simp)
    simp only [List.cons_append, List.nil_append] at hM
    have hkid : f.op = 3 ∨ f.op = 6 → ∃ g0, f.kids = [g0] := by
      intro h
      obtain ⟨op, n, inn, kids⟩ := f
      simp only [Fm.op, Fm.kids] at *
      rw [formed1_mk] at hform
      have hl : kids.length = 1 := by
        split at hform
        · cases hform
        · rcases h with rfl | rfl <;> simpa using hform
      exact List.length_eq_one_iff.1 hl
    have hfn1 := fun args w => enterFn Tryz.func102 rfl rfl args w
    have hfn2 := fun args w => enterFn Tryz.func104 rfl rfl args w
    constructor
    · by_cases h6 : f.op = 6
      · have hv : pushP f = pushNF f.kids := by rw [pushP_eq, if_pos h6]
        obtain ⟨g0, hg0⟩ := hkid (.inr h6)
        have hv2 : pushP f = pushN g0 := by rw [hv, hg0]; rfl
        rw [hv2]
        clear hv2
        have b6 : (f.op == 6) = true := by simpa using h6
        clear h6 hv
        replace hg0 := Lib.hid hg0
        go_enter Tryz.func102, Tryz.ntmps102
        go_upto_region 2 with (fail)
        generalize World.alloc _ _ = w1 at *
        generalize hg4 : w.heap.size + 1 = g4 at *
        generalize hg3 : w.heap.size = g3 at *
        have u0 : w1.cell? ⟨g3, 0, none⟩ = some (.int .i64 f.op) := (hM.box 0 rfl).facts.1 0
        have u1 : w1.cell? ⟨g3, 1, none⟩ = some (.int .i64 f.n) := (hM.box 0 rfl).facts.1 1
        have u2 : w1.cell? ⟨g3, 2, none⟩ = some (.slice a3 f.inn.length c3) := (hM.box 0 rfl).facts.1 2
        have u3 : w1.cell? ⟨g3, 3, none⟩ = some (.slice a4 f.kids.length c4) := (hM.box 0 rfl).facts.1 3
        have ul := (hM.box 0 rfl).lt
        replace hg0 := hg0.out
        have v5 : w1.cell? ⟨g6, 0, none⟩ = some _ := hM.ex.cell1 hc6
        have v5l : g6 < w1.heap.size := cell_lt v5
        obtain ⟨kb, ko, k3, m3, k4, m4, ek, z0, z1, z2, z3, hE, zl⟩ := FmsR.atH hfk hM.ple 0 (by rw [hg0]; simp)
        have hk0 : f.kids[0]'(by rw [hg0]; simp) = g0 := by simp [hg0]
        rw [hk0] at z0 z1 z2 z3 hE
        simp only [Nat.zero_mul, Nat.add_zero] at z0 z1 z2 z3
        cases ek
        have hkl : f.kids.length = 1 := by rw [hg0]; rfl
        rw [hkl] at u3
        have hcall := fun w' (e : Ext w1 w') => (HI.out g0 (by rw [hg0]; simp) H (fmC g0 k3 m3 k4 m4) w' (hM.ex.then e) (hM.ple.trans e.ple) hE).2
        unfold fmC at hcall
        replace hcall := Lib.hid hcall
        have hHw1 := hM.ple
        have hb0 : (0 : Nat) < 1 := by omega
        generalize pushN g0 = R at *
        clear HI hkl hk0 hE
        (refine wp_region_I 6 (by kernel_rfl) (by kernel_rfl) ?_; simp only [List.toList_toArray, List.take_succ_cons, List.take_zero, List.drop_succ_cons, List.drop_zero])
        iterate 5 (refine wiA rfl (by simp) rfl ?_; (try simp only [List.nil_append, List.cons_append]))
        (refine walkI_step ((fun v w' => ∃ p3 q3 p4 q4, v = fmV R p3 q3 p4 q4 ∧ FmR (up H w1 w') (fmC R p3 q3 p4 q4) R)) rfl (by simp) rfl ((fun v w w' hS ⟨p3, q3, p4, q4, h1, h2⟩ e' => ⟨p3, q3, p4, q4, h1, mono_FmR _ _ _ _ (up_then hS e') h2⟩)) ?_ ?_; (focus (intro A w' hS hA K hK; (simp only [List.map_cons, List.map_nil, knows, Is, Op.operands, Call.operands, List.lookup_cons, List.lookup_nil, Nat.reduceBEq, Bool.false_eq_true, if_false, if_true, Act.eval, Array.getD_eq_getD_getElem?, List.getElem?_toArray, List.getElem?_cons_succ, List.getElem?_cons_zero, Option.getD_some, and_true, true_and, List.append_toArray, List.nil_append, List.cons_append, List.toList_toArray, Array.toList_append, Option.toArray, List.append_nil] at hA); (go_simp; refine (hcall.out _ hS).mono ?_; rintro e w9 ⟨p3, q3, p4, q4, rfl, hx9, hQ⟩; exact hK _ _ hx9 ⟨p3, q3, p4, q4, rfl, mono_FmR _ _ _ _ (up_laterH hHw1 hS) hQ⟩))); (try simp only [List.nil_append, List.cons_append]))
        (refine walkI_nil ?_; simp only [List.nil_append, List.cons_append, fins, Is, forall_eq, Act.put, List.setIfInBounds_toArray, List.set_cons_zero, List.set_cons_succ])
        rintro w5 hx5 v13 ⟨p3, q3, p4, q4, rfl, hQ⟩
        have hM5 := hM.up hx5
        generalize up H w1 w5 = H5 at *
        clear hM u0 u1 u2 u3 ul v5 v5l hx5 hfn1 hfn2 z0 z1 z2 z3 zl hcall
        have z0 : _ = some (Value.int .i64 0) := (hM5.box 1 rfl).facts.1 0
        have z1 : _ = some (Value.int .i64 0) := (hM5.box 1 rfl).facts.1 1
        have z2 : _ = some (Value.slice none 0 0) := (hM5.box 1 rfl).facts.1 2
        have z3 : _ = some (Value.slice none 0 0) := (hM5.box 1 rfl).facts.1 3
        obtain ⟨-, zf⟩ := (hM5.box 1 rfl).facts
        have zl := (hM5.box 1 rfl).lt
        have hM8 := hM5.set4 1 rfl (.int .i64 (R).op) (.int .i64 (R).n) (.slice p3 (R).inn.length q3) (.slice p4 (R).kids.length q4)
        simp only [List.set_cons_zero, List.set_cons_succ] at hM8
        clear hM5
        go_wp2_with fail
        generalize World.setCell _ _ _ = w9 at *
        obtain ⟨q', -⟩ := (hM8.box 1 rfl).facts
        have k0 : _ = some (Value.int .i64 (R).op) := q' 0
        have k1 : _ = some (Value.int .i64 (R).n) := q' 1
        have k2 : _ = some (Value.slice p3 (R).inn.length q3) := q' 2
        have k3 : _ = some (Value.slice p4 (R).kids.length q4) := q' 3
        refine bodyPost_ret (v := fmV (R) p3 q3 p4 q4) (by simp [results, Tryz.results102, go_sem, k0, k1, k2, k3, fmV]) rfl ?_
        exact ⟨p3, q3, p4, q4, rfl, hM8.ex, mono_FmR _ _ _ _ hM8.ub hQ⟩
      · have hv : pushP f = .mk f.op f.n f.inn (f.kids.map pushP) := by rw [pushP_eq, if_neg h6]
        have b6 : (f.op == 6) = false := by simpa using h6
        rw [hv]
        go_enter Tryz.func102, Tryz.ntmps102
        go_upto_region 3 with (fail)
        generalize World.alloc _ _ = w1 at *
        generalize hg4 : w.heap.size + 1 = g4 at *
        generalize hg3 : w.heap.size = g3 at *
        have u0 : w1.cell? ⟨g3, 0, none⟩ = some (.int .i64 f.op) := (hM.box 0 rfl).facts.1 0
        have u1 : w1.cell? ⟨g3, 1, none⟩ = some (.int .i64 f.n) := (hM.box 0 rfl).facts.1 1
        have u2 : w1.cell? ⟨g3, 2, none⟩ = some (.slice a3 f.inn.length c3) := (hM.box 0 rfl).facts.1 2
        have u3 : w1.cell? ⟨g3, 3, none⟩ = some (.slice a4 f.kids.length c4) := (hM.box 0 rfl).facts.1 3
        have ul := (hM.box 0 rfl).lt
        have v5 := hM.ex.cell1 hc5
        have v5l := cell_lt v5
        have hmp := mapped_c 102 #[.pointer (some ⟨g6, 0, none⟩), .pointer (some ⟨g5, 0, none⟩)] pushP f _ w1 hM.ple hr0 (by omega) hin hfn1 (fun x hx H' wr cs' e hl' hr' => (HI.out x hx H' cs' wr (hM.ex.then e) hl' hr').1)
        unfold fmC at hmp
        generalize Fm.mk f.op f.n f.inn (f.kids.map pushP) = R at *
        go_wp2_with fail
        refine hmp.mono ?_
        rintro e w5 ⟨p3, q3, p4, q4, rfl, hx5, hQ⟩
        have hM5 := hM.up hx5
        generalize up H w1 w5 = H5 at *
        clear hM hmp u0 u1 u2 u3 ul v5 v5l hx5 hfn1 hfn2
        have z0 : _ = some (Value.int .i64 0) := (hM5.box 1 rfl).facts.1 0
        have z1 : _ = some (Value.int .i64 0) := (hM5.box 1 rfl).facts.1 1
        have z2 : _ = some (Value.slice none 0 0) := (hM5.box 1 rfl).facts.1 2
        have z3 : _ = some (Value.slice none 0 0) := (hM5.box 1 rfl).facts.1 3
        obtain ⟨-, zf⟩ := (hM5.box 1 rfl).facts
        have zl := (hM5.box 1 rfl).lt
        have hM8 := hM5.set4 1 rfl (.int .i64 (R).op) (.int .i64 (R).n) (.slice p3 (R).inn.length q3) (.slice p4 (R).kids.length q4)
        simp only [List.set_cons_zero, List.set_cons_succ] at hM8
        clear hM5
        go_wp2_with fail
        generalize World.setCell _ _ _ = w9 at *
        obtain ⟨q', -⟩ := (hM8.box 1 rfl).facts
        have k0 : _ = some (Value.int .i64 (R).op) := q' 0
        have k1 : _ = some (Value.int .i64 (R).n) := q' 1
        have k2 : _ = some (Value.slice p3 (R).inn.length q3) := q' 2
        have k3 : _ = some (Value.slice p4 (R).kids.length q4) := q' 3
        refine bodyPost_ret (v := fmV (R) p3 q3 p4 q4) (by simp [results, Tryz.results102, go_sem, k0, k1, k2, k3, fmV]) rfl ?_
        exact ⟨p3, q3, p4, q4, rfl, hM8.ex, mono_FmR _ _ _ _ hM8.ub hQ⟩
    · by_cases h0 : f.op = 0
      · have hv : pushN f = neverF := by rw [pushN_eq, if_pos h0]
        have b0 : (f.op == 0) = true := by simpa using h0
        rw [hv]
        clear h0 hv
        go_enter Tryz.func104, Tryz.ntmps104
        go_upto_region 2 with (fail)
        generalize World.alloc _ _ = w1 at *
        generalize hg4 : w.heap.size + 1 = g4 at *
        generalize hg3 : w.heap.size = g3 at *
        have u0 : w1.cell? ⟨g3, 0, none⟩ = some (.int .i64 f.op) := (hM.box 0 rfl).facts.1 0
        have u1 : w1.cell? ⟨g3, 1, none⟩ = some (.int .i64 f.n) := (hM.box 0 rfl).facts.1 1
        have u2 : w1.cell? ⟨g3, 2, none⟩ = some (.slice a3 f.inn.length c3) := (hM.box 0 rfl).facts.1 2
        have u3 : w1.cell? ⟨g3, 3, none⟩ = some (.slice a4 f.kids.length c4) := (hM.box 0 rfl).facts.1 3
        have ul := (hM.box 0 rfl).lt
        go_wp2_with fail
        refine (never_c H w1 hM.ple).mono ?_
        rintro e w5 ⟨rfl, hx5⟩
        have hM5 := hM.up hx5
        have hQ := neverF_R (up H w1 w5)
        generalize up H w1 w5 = H5 at *
        clear hM u0 u1 u2 u3 ul hx5 hfn1 hfn2
        obtain ⟨p3, q3, p4, q4, hp, hQ⟩ : ∃ p3 q3 p4 q4, fmV neverF none 0 none 0 = fmV neverF p3 q3 p4 q4 ∧ FmR H5 (fmC neverF p3 q3 p4 q4) neverF := ⟨none, 0, none, 0, rfl, hQ⟩
        rw [hp]
        clear hp
        generalize neverF = R at *
        have z0 : _ = some (Value.int .i64 0) := (hM5.box 1 rfl).facts.1 0
        have z1 : _ = some (Value.int .i64 0) := (hM5.box 1 rfl).facts.1 1
        have z2 : _ = some (Value.slice none 0 0) := (hM5.box 1 rfl).facts.1 2
        have z3 : _ = some (Value.slice none 0 0) := (hM5.box 1 rfl).facts.1 3
        obtain ⟨-, zf⟩ := (hM5.box 1 rfl).facts
        have zl := (hM5.box 1 rfl).lt
        have hM8 := hM5.set4 1 rfl (.int .i64 (R).op) (.int .i64 (R).n) (.slice p3 (R).inn.length q3) (.slice p4 (R).kids.length q4)
        simp only [List.set_cons_zero, List.set_cons_succ] at hM8
        clear hM5
        go_wp2_with fail
        generalize World.setCell _ _ _ = w9 at *
        obtain ⟨q', -⟩ := (hM8.box 1 rfl).facts
        have k0 : _ = some (Value.int .i64 (R).op) := q' 0
        have k1 : _ = some (Value.int .i64 (R).n) := q' 1
        have k2 : _ = some (Value.slice p3 (R).inn.length q3) := q' 2
        have k3 : _ = some (Value.slice p4 (R).kids.length q4) := q' 3
        refine bodyPost_ret (v := fmV (R) p3 q3 p4 q4) (by simp [results, Tryz.results104, go_sem, k0, k1, k2, k3, fmV]) rfl ?_
        exact ⟨p3, q3, p4, q4, rfl, hM8.ex, mono_FmR _ _ _ _ hM8.ub hQ⟩
      have b0 : (f.op == 0) = false := by simpa using h0
      by_cases h6 : f.op = 6
      · have hv : pushN f = pushPF f.kids := by rw [pushN_eq, if_neg h0, if_pos h6]
        obtain ⟨g0, hg0⟩ := hkid (.inr h6)
        have hv2 : pushN f = pushP g0 := by rw [hv, hg0]; rfl
        rw [hv2]
        clear hv2
        have b6 : (f.op == 6) = true := by simpa using h6
        clear h6 hv h0
        replace hg0 := Lib.hid hg0
        go_enter Tryz.func104, Tryz.ntmps104
        go_upto_region 4 with (fail)
        generalize World.alloc _ _ = w1 at *
        generalize hg4 : w.heap.size + 1 = g4 at *
        generalize hg3 : w.heap.size = g3 at *
        have u0 : w1.cell? ⟨g3, 0, none⟩ = some (.int .i64 f.op) := (hM.box 0 rfl).facts.1 0
        have u1 : w1.cell? ⟨g3, 1, none⟩ = some (.int .i64 f.n) := (hM.box 0 rfl).facts.1 1
        have u2 : w1.cell? ⟨g3, 2, none⟩ = some (.slice a3 f.inn.length c3) := (hM.box 0 rfl).facts.1 2
        have u3 : w1.cell? ⟨g3, 3, none⟩ = some (.slice a4 f.kids.length c4) := (hM.box 0 rfl).facts.1 3
        have ul := (hM.box 0 rfl).lt
        replace hg0 := hg0.out
        have v5 : w1.cell? ⟨g5, 0, none⟩ = some _ := hM.ex.cell1 hc5
        have v5l : g5 < w1.heap.size := cell_lt v5
        obtain ⟨kb, ko, k3, m3, k4, m4, ek, z0, z1, z2, z3, hE, zl⟩ := FmsR.atH hfk hM.ple 0 (by rw [hg0]; simp)
        have hk0 : f.kids[0]'(by rw [hg0]; simp) = g0 := by simp [hg0]
        rw [hk0] at z0 z1 z2 z3 hE
        simp only [Nat.zero_mul, Nat.add_zero] at z0 z1 z2 z3
        cases ek
        have hkl : f.kids.length = 1 := by rw [hg0]; rfl
        rw [hkl] at u3
        have hcall := fun w' (e : Ext w1 w') => (HI.out g0 (by rw [hg0]; simp) H (fmC g0 k3 m3 k4 m4) w' (hM.ex.then e) (hM.ple.trans e.ple) hE).1
        unfold fmC at hcall
        replace hcall := Lib.hid hcall
        have hHw1 := hM.ple
        have hb0 : (0 : Nat) < 1 := by omega
        generalize pushP g0 = R at *
        clear HI hkl hk0 hE
        (refine wp_region_I 6 (by kernel_rfl) (by kernel_rfl) ?_; simp only [List.toList_toArray, List.take_succ_cons, List.take_zero, List.drop_succ_cons, List.drop_zero])
        iterate 5 (refine wiA rfl (by simp) rfl ?_; (try simp only [List.nil_append, List.cons_append]))
        (refine walkI_step ((fun v w' => ∃ p3 q3 p4 q4, v = fmV R p3 q3 p4 q4 ∧ FmR (up H w1 w') (fmC R p3 q3 p4 q4) R)) rfl (by simp) rfl ((fun v w w' hS ⟨p3, q3, p4, q4, h1, h2⟩ e' => ⟨p3, q3, p4, q4, h1, mono_FmR _ _ _ _ (up_then hS e') h2⟩)) ?_ ?_; (focus (intro A w' hS hA K hK; (simp only [List.map_cons, List.map_nil, knows, Is, Op.operands, Call.operands, List.lookup_cons, List.lookup_nil, Nat.reduceBEq, Bool.false_eq_true, if_false, if_true, Act.eval, Array.getD_eq_getD_getElem?, List.getElem?_toArray, List.getElem?_cons_succ, List.getElem?_cons_zero, Option.getD_some, and_true, true_and, List.append_toArray, List.nil_append, List.cons_append, List.toList_toArray, Array.toList_append, Option.toArray, List.append_nil] at hA); (go_simp; refine (hcall.out _ hS).mono ?_; rintro e w9 ⟨p3, q3, p4, q4, rfl, hx9, hQ⟩; exact hK _ _ hx9 ⟨p3, q3, p4, q4, rfl, mono_FmR _ _ _ _ (up_laterH hHw1 hS) hQ⟩))); (try simp only [List.nil_append, List.cons_append]))
        (refine walkI_nil ?_; simp only [List.nil_append, List.cons_append, fins, Is, forall_eq, Act.put, List.setIfInBounds_toArray, List.set_cons_zero, List.set_cons_succ])
        rintro w5 hx5 v13 ⟨p3, q3, p4, q4, rfl, hQ⟩
        have hM5 := hM.up hx5
        generalize up H w1 w5 = H5 at *
        clear hM u0 u1 u2 u3 ul v5 v5l hx5 hfn1 hfn2 z0 z1 z2 z3 zl hcall
        have z0 : _ = some (Value.int .i64 0) := (hM5.box 1 rfl).facts.1 0
        have z1 : _ = some (Value.int .i64 0) := (hM5.box 1 rfl).facts.1 1
        have z2 : _ = some (Value.slice none 0 0) := (hM5.box 1 rfl).facts.1 2
        have z3 : _ = some (Value.slice none 0 0) := (hM5.box 1 rfl).facts.1 3
        obtain ⟨-, zf⟩ := (hM5.box 1 rfl).facts
        have zl := (hM5.box 1 rfl).lt
        have hM8 := hM5.set4 1 rfl (.int .i64 (R).op) (.int .i64 (R).n) (.slice p3 (R).inn.length q3) (.slice p4 (R).kids.length q4)
        simp only [List.set_cons_zero, List.set_cons_succ] at hM8
        clear hM5
        go_wp2_with fail
        generalize World.setCell _ _ _ = w9 at *
        obtain ⟨q', -⟩ := (hM8.box 1 rfl).facts
        have k0 : _ = some (Value.int .i64 (R).op) := q' 0
        have k1 : _ = some (Value.int .i64 (R).n) := q' 1
        have k2 : _ = some (Value.slice p3 (R).inn.length q3) := q' 2
        have k3 : _ = some (Value.slice p4 (R).kids.length q4) := q' 3
        refine bodyPost_ret (v := fmV (R) p3 q3 p4 q4) (by simp [results, Tryz.results104, go_sem, k0, k1, k2, k3, fmV]) rfl ?_
        exact ⟨p3, q3, p4, q4, rfl, hM8.ex, mono_FmR _ _ _ _ hM8.ub hQ⟩
      have b6 : (f.op == 6) = false := by simpa using h6
      by_cases hnev : f.op = 5 ∧ f.kids = []
      · have hv : pushN f = noF := by rw [pushN_eq, if_neg h0, if_neg h6, if_pos hnev]
        rw [hv]
        have hnv : decide (f.op = 5 ∧ f.kids = []) = true := by simpa using hnev
        clear hnev hv h0 h6
        go_enter Tryz.func104, Tryz.ntmps104
        go_upto_region 5 with (fail)
        generalize World.alloc _ _ = w1 at *
        generalize hg4 : w.heap.size + 1 = g4 at *
        generalize hg3 : w.heap.size = g3 at *
        have u0 : w1.cell? ⟨g3, 0, none⟩ = some (.int .i64 f.op) := (hM.box 0 rfl).facts.1 0
        have u1 : w1.cell? ⟨g3, 1, none⟩ = some (.int .i64 f.n) := (hM.box 0 rfl).facts.1 1
        have u2 : w1.cell? ⟨g3, 2, none⟩ = some (.slice a3 f.inn.length c3) := (hM.box 0 rfl).facts.1 2
        have u3 : w1.cell? ⟨g3, 3, none⟩ = some (.slice a4 f.kids.length c4) := (hM.box 0 rfl).facts.1 3
        have ul := (hM.box 0 rfl).lt
        go_wp2_with fail
        refine RetV_at (isNever_c f (fmC f a3 c3 a4 c4) w1 (mono_FmR _ _ _ _ hM.ple hr0)) ?_
        intro w2 hx2
        rw [hnv]
        replace hM := hM.ext hx2
        have z0 : _ = some (Value.int .i64 0) := (hM.box 1 rfl).facts.1 0
        have z1 : _ = some (Value.int .i64 0) := (hM.box 1 rfl).facts.1 1
        have z2 : _ = some (Value.slice none 0 0) := (hM.box 1 rfl).facts.1 2
        have z3 : _ = some (Value.slice none 0 0) := (hM.box 1 rfl).facts.1 3
        obtain ⟨-, zf⟩ := (hM.box 1 rfl).facts
        have zl := (hM.box 1 rfl).lt
        have hM8 := hM.set4 1 rfl (.int .i64 0) (.int .i64 0) (.slice none 0 0) (.slice none 0 0)
        simp only [List.set_cons_zero, List.set_cons_succ] at hM8
        clear hM u0 u1 u2 u3 ul hx2 hnv
        go_wp2_with fail
        generalize World.setCell _ _ _ = w9 at *
        obtain ⟨q', -⟩ := (hM8.box 1 rfl).facts
        have k0 : _ = some (Value.int .i64 0) := q' 0
        have k1 : _ = some (Value.int .i64 0) := q' 1
        have k2 : _ = some (Value.slice none 0 0) := q' 2
        have k3 : _ = some (Value.slice none 0 0) := q' 3
        refine bodyPost_ret (v := .agg #[.int .i64 0, .int .i64 0, .slice none 0 0, .slice none 0 0]) (by simp [results, Tryz.results104, go_sem, k0, k1, k2, k3]) rfl ?_
        exact ⟨none, 0, none, 0, rfl, hM8.ex, noF_R _⟩
      have hnv : decide (f.op = 5 ∧ f.kids = []) = false := by simpa using hnev
      by_cases h4 : f.op = 4
      · have hv : pushN f = .mk 5 f.n f.inn (f.kids.map pushN) := by rw [pushN_eq, if_neg h0, if_neg h6, if_neg hnev, if_pos h4]
        rw [hv]
        have b4 : (f.op == 4) = true := by simpa using h4
        clear h4 hnev
        clear h0 hv h6
        go_enter Tryz.func104, Tryz.ntmps104
        go_upto_region 5 with (fail)
        generalize World.alloc _ _ = w1 at *
        generalize hg4 : w.heap.size + 1 = g4 at *
        generalize hg3 : w.heap.size = g3 at *
        have u0 : w1.cell? ⟨g3, 0, none⟩ = some (.int .i64 f.op) := (hM.box 0 rfl).facts.1 0
        have u1 : w1.cell? ⟨g3, 1, none⟩ = some (.int .i64 f.n) := (hM.box 0 rfl).facts.1 1
        have u2 : w1.cell? ⟨g3, 2, none⟩ = some (.slice a3 f.inn.length c3) := (hM.box 0 rfl).facts.1 2
        have u3 : w1.cell? ⟨g3, 3, none⟩ = some (.slice a4 f.kids.length c4) := (hM.box 0 rfl).facts.1 3
        have ul := (hM.box 0 rfl).lt
        go_wp2_with fail
        refine RetV_at (isNever_c f (fmC f a3 c3 a4 c4) w1 (mono_FmR _ _ _ _ hM.ple hr0)) ?_
        intro w2 hx2
        rw [hnv]
        replace hM := hM.ext hx2
        replace u0 := hx2.cell1 u0
        replace ul := cell_lt u0
        have e0 := (hM.box 0 rfl).facts.2 0
        have hM2 := hM.set 0 rfl 0 (.int .i64 5)
        simp only [List.set_cons_zero, List.setIfInBounds_toArray, List.set_cons_succ] at hM2
        clear u1 u2 u3 hM hx2 hnv
        go_upto_region 9 with (fail)
        generalize World.setCell _ _ _ = w3 at *
        clear u0 ul e0
        have u0 : w3.cell? ⟨g3, 0, none⟩ = some (.int .i64 5) := (hM2.box 0 rfl).facts.1 0
        have u1 : w3.cell? ⟨g3, 1, none⟩ = some (.int .i64 f.n) := (hM2.box 0 rfl).facts.1 1
        have u2 : w3.cell? ⟨g3, 2, none⟩ = some (.slice a3 f.inn.length c3) := (hM2.box 0 rfl).facts.1 2
        have u3 : w3.cell? ⟨g3, 3, none⟩ = some (.slice a4 f.kids.length c4) := (hM2.box 0 rfl).facts.1 3
        have ul := (hM2.box 0 rfl).lt
        have v6 : w3.cell? ⟨g6, 0, none⟩ = some _ := hM2.ex.cell1 hc6
        have v6l : g6 < w3.heap.size := cell_lt v6
        have hmp : Calls Tryz.prog 103 #[.agg #[.int .i64 5, .int .i64 f.n, .slice a3 f.inn.length c3, .slice a4 f.kids.length c4], .func (.func 104) #[] #[.pointer (some ⟨g5, 0, none⟩), .pointer (some ⟨g6, 0, none⟩)]] w3 (NewF w3 H (.mk 5 f.n f.inn (f.kids.map pushN))) := mapped_c 104 #[.pointer (some ⟨g5, 0, none⟩), .pointer (some ⟨g6, 0, none⟩)] pushN (.mk 5 f.n f.inn f.kids) (fmC (.mk 5 f.n f.inn f.kids) a3 c3 a4 c4) w3 hM2.ple (FmR.of (f := .mk 5 f.n f.inn f.kids) (by simp [Fm.op, I64]) i2 hfi hfk) (by show f.kids.length ≤ _; omega) hin hfn2 (fun x hx H' wr cs' e hl' hr' => (HI.out x hx H' cs' wr (hM2.ex.then e) hl' hr').2)
        generalize Fm.mk 5 f.n f.inn (f.kids.map pushN) = R at *
        go_wp2_with fail
        refine hmp.mono ?_
        rintro e w5 ⟨p3, q3, p4, q4, rfl, hx5, hQ⟩
        have hM5 := hM2.up hx5
        generalize up H w3 w5 = H5 at *
        clear hM2 hmp u0 u1 u2 u3 ul v6 v6l hx5 hfn1 hfn2
        have z0 : _ = some (Value.int .i64 0) := (hM5.box 1 rfl).facts.1 0
        have z1 : _ = some (Value.int .i64 0) := (hM5.box 1 rfl).facts.1 1
        have z2 : _ = some (Value.slice none 0 0) := (hM5.box 1 rfl).facts.1 2
        have z3 : _ = some (Value.slice none 0 0) := (hM5.box 1 rfl).facts.1 3
        obtain ⟨-, zf⟩ := (hM5.box 1 rfl).facts
        have zl := (hM5.box 1 rfl).lt
        have hM8 := hM5.set4 1 rfl (.int .i64 (R).op) (.int .i64 (R).n) (.slice p3 (R).inn.length q3) (.slice p4 (R).kids.length q4)
        simp only [List.set_cons_zero, List.set_cons_succ] at hM8
        clear hM5
        go_wp2_with fail
        generalize World.setCell _ _ _ = w9 at *
        obtain ⟨q', -⟩ := (hM8.box 1 rfl).facts
        have k0 : _ = some (Value.int .i64 (R).op) := q' 0
        have k1 : _ = some (Value.int .i64 (R).n) := q' 1
        have k2 : _ = some (Value.slice p3 (R).inn.length q3) := q' 2
        have k3 : _ = some (Value.slice p4 (R).kids.length q4) := q' 3
        refine bodyPost_ret (v := fmV (R) p3 q3 p4 q4) (by simp [results, Tryz.results104, go_sem, k0, k1, k2, k3, fmV]) rfl ?_
        exact ⟨p3, q3, p4, q4, rfl, hM8.ex, mono_FmR _ _ _ _ hM8.ub hQ⟩
      have b4 : (f.op == 4) = false := by simpa using h4
      by_cases h5 : f.op = 5
      · have hv : pushN f = .mk 4 f.n f.inn (f.kids.map pushN) := by rw [pushN_eq, if_neg h0, if_neg h6, if_neg hnev, if_neg h4, if_pos h5]
        rw [hv]
        have b5 : (f.op == 5) = true := by simpa using h5
        clear h4 h5 hnev
        clear h0 hv h6
        go_enter Tryz.func104, Tryz.ntmps104
        go_upto_region 5 with (fail)
        generalize World.alloc _ _ = w1 at *
        generalize hg4 : w.heap.size + 1 = g4 at *
        generalize hg3 : w.heap.size = g3 at *
        have u0 : w1.cell? ⟨g3, 0, none⟩ = some (.int .i64 f.op) := (hM.box 0 rfl).facts.1 0
        have u1 : w1.cell? ⟨g3, 1, none⟩ = some (.int .i64 f.n) := (hM.box 0 rfl).facts.1 1
        have u2 : w1.cell? ⟨g3, 2, none⟩ = some (.slice a3 f.inn.length c3) := (hM.box 0 rfl).facts.1 2
        have u3 : w1.cell? ⟨g3, 3, none⟩ = some (.slice a4 f.kids.length c4) := (hM.box 0 rfl).facts.1 3
        have ul := (hM.box 0 rfl).lt
        go_wp2_with fail
        refine RetV_at (isNever_c f (fmC f a3 c3 a4 c4) w1 (mono_FmR _ _ _ _ hM.ple hr0)) ?_
        intro w2 hx2
        rw [hnv]
        replace hM := hM.ext hx2
        replace u0 := hx2.cell1 u0
        replace ul := cell_lt u0
        have e0 := (hM.box 0 rfl).facts.2 0
        have hM2 := hM.set 0 rfl 0 (.int .i64 4)
        simp only [List.set_cons_zero, List.setIfInBounds_toArray, List.set_cons_succ] at hM2
        clear u1 u2 u3 hM hx2 hnv
        go_upto_region 12 with (fail)
        generalize World.setCell _ _ _ = w3 at *
        clear u0 ul e0
        have u0 : w3.cell? ⟨g3, 0, none⟩ = some (.int .i64 4) := (hM2.box 0 rfl).facts.1 0
        have u1 : w3.cell? ⟨g3, 1, none⟩ = some (.int .i64 f.n) := (hM2.box 0 rfl).facts.1 1
        have u2 : w3.cell? ⟨g3, 2, none⟩ = some (.slice a3 f.inn.length c3) := (hM2.box 0 rfl).facts.1 2
        have u3 : w3.cell? ⟨g3, 3, none⟩ = some (.slice a4 f.kids.length c4) := (hM2.box 0 rfl).facts.1 3
        have ul := (hM2.box 0 rfl).lt
        have v6 : w3.cell? ⟨g6, 0, none⟩ = some _ := hM2.ex.cell1 hc6
        have v6l : g6 < w3.heap.size := cell_lt v6
        have hmp : Calls Tryz.prog 103 #[.agg #[.int .i64 4, .int .i64 f.n, .slice a3 f.inn.length c3, .slice a4 f.kids.length c4], .func (.func 104) #[] #[.pointer (some ⟨g5, 0, none⟩), .pointer (some ⟨g6, 0, none⟩)]] w3 (NewF w3 H (.mk 4 f.n f.inn (f.kids.map pushN))) := mapped_c 104 #[.pointer (some ⟨g5, 0, none⟩), .pointer (some ⟨g6, 0, none⟩)] pushN (.mk 4 f.n f.inn f.kids) (fmC (.mk 4 f.n f.inn f.kids) a3 c3 a4 c4) w3 hM2.ple (FmR.of (f := .mk 4 f.n f.inn f.kids) (by simp [Fm.op, I64]) i2 hfi hfk) (by show f.kids.length ≤ _; omega) hin hfn2 (fun x hx H' wr cs' e hl' hr' => (HI.out x hx H' cs' wr (hM2.ex.then e) hl' hr').2)
        generalize Fm.mk 4 f.n f.inn (f.kids.map pushN) = R at *
        go_wp2_with fail
        refine hmp.mono ?_
        rintro e w5 ⟨p3, q3, p4, q4, rfl, hx5, hQ⟩
        have hM5 := hM2.up hx5
        generalize up H w3 w5 = H5 at *
        clear hM2 hmp u0 u1 u2 u3 ul v6 v6l hx5 hfn1 hfn2
        have z0 : _ = some (Value.int .i64 0) := (hM5.box 1 rfl).facts.1 0
        have z1 : _ = some (Value.int .i64 0) := (hM5.box 1 rfl).facts.1 1
        have z2 : _ = some (Value.slice none 0 0) := (hM5.box 1 rfl).facts.1 2
        have z3 : _ = some (Value.slice none 0 0) := (hM5.box 1 rfl).facts.1 3
        obtain ⟨-, zf⟩ := (hM5.box 1 rfl).facts
        have zl := (hM5.box 1 rfl).lt
        have hM8 := hM5.set4 1 rfl (.int .i64 (R).op) (.int .i64 (R).n) (.slice p3 (R).inn.length q3) (.slice p4 (R).kids.length q4)
        simp only [List.set_cons_zero, List.set_cons_succ] at hM8
        clear hM5
        go_wp2_with fail
        generalize World.setCell _ _ _ = w9 at *
        obtain ⟨q', -⟩ := (hM8.box 1 rfl).facts
        have k0 : _ = some (Value.int .i64 (R).op) := q' 0
        have k1 : _ = some (Value.int .i64 (R).n) := q' 1
        have k2 : _ = some (Value.slice p3 (R).inn.length q3) := q' 2
        have k3 : _ = some (Value.slice p4 (R).kids.length q4) := q' 3
        refine bodyPost_ret (v := fmV (R) p3 q3 p4 q4) (by simp [results, Tryz.results104, go_sem, k0, k1, k2, k3, fmV]) rfl ?_
        exact ⟨p3, q3, p4, q4, rfl, hM8.ex, mono_FmR _ _ _ _ hM8.ub hQ⟩
      have b5 : (f.op == 5) = false := by simpa using h5
      have hv : pushN f = .mk 6 0 [] [.mk f.op f.n f.inn (f.kids.map pushP)] := by rw [pushN_eq, if_neg h0, if_neg h6, if_neg hnev, if_neg h4, if_neg h5]
      rw [hv]
      clear hv h0 h6 hnev h4 h5
      go_enter Tryz.func104, Tryz.ntmps104
      go_upto_region 5 with (fail)
      generalize World.alloc _ _ = w1 at *
      generalize hg4 : w.heap.size + 1 = g4 at *
      generalize hg3 : w.heap.size = g3 at *
      have u0 : w1.cell? ⟨g3, 0, none⟩ = some (.int .i64 f.op) := (hM.box 0 rfl).facts.1 0
      have u1 : w1.cell? ⟨g3, 1, none⟩ = some (.int .i64 f.n) := (hM.box 0 rfl).facts.1 1
      have u2 : w1.cell? ⟨g3, 2, none⟩ = some (.slice a3 f.inn.length c3) := (hM.box 0 rfl).facts.1 2
      have u3 : w1.cell? ⟨g3, 3, none⟩ = some (.slice a4 f.kids.length c4) := (hM.box 0 rfl).facts.1 3
      have ul := (hM.box 0 rfl).lt
      go_wp2_with fail
      refine RetV_at (isNever_c f (fmC f a3 c3 a4 c4) w1 (mono_FmR _ _ _ _ hM.ple hr0)) ?_
      intro w2 hx2
      rw [hnv]
      replace hM := hM.ext hx2
      replace u0 := hx2.cell1 u0
      replace u1 := hx2.cell1 u1
      replace u2 := hx2.cell1 u2
      replace u3 := hx2.cell1 u3
      replace ul := cell_lt u0
      have v5 : w2.cell? ⟨g5, 0, none⟩ = some _ := hM.ex.cell1 hc5
      have v5l : g5 < w2.heap.size := cell_lt v5
      have hmp := mapped_c 102 #[.pointer (some ⟨g6, 0, none⟩), .pointer (some ⟨g5, 0, none⟩)] pushP f _ w2 hM.ple hr0 (by omega) hin hfn1 (fun x hx H' wr cs' e hl' hr' => (HI.out x hx H' cs' wr (hM.ex.then e) hl' hr').1)
      unfold fmC at hmp
      generalize Fm.mk f.op f.n f.inn (f.kids.map pushP) = R1 at *
      clear hnv
      go_wp2_with fail
      refine hmp.mono ?_
      rintro e w4 ⟨s3, t3, s4, t4, rfl, hx4, hQ1⟩
      have hM4 := hM.up hx4
      generalize up H w2 w4 = H4 at *
      clear hM hmp u0 u1 u2 u3 ul v5 v5l hx4 hfn1 hfn2
      have hnt := notf_c R1 s3 t3 s4 t4 w4 hM4.ple hQ1
      generalize Fm.mk 6 0 [] [R1] = R at *
      go_wp2_with fail
      refine hnt.mono ?_
      rintro e w5 ⟨p3, q3, p4, q4, rfl, hx5, hQ⟩
      have hM5 := hM4.up hx5
      generalize up H4 w4 w5 = H5 at *
      clear hM4 hnt hx5 hQ1
      have z0 : _ = some (Value.int .i64 0) := (hM5.box 1 rfl).facts.1 0
      have z1 : _ = some (Value.int .i64 0) := (hM5.box 1 rfl).facts.1 1
      have z2 : _ = some (Value.slice none 0 0) := (hM5.box 1 rfl).facts.1 2
      have z3 : _ = some (Value.slice none 0 0) := (hM5.box 1 rfl).facts.1 3
      obtain ⟨-, zf⟩ := (hM5.box 1 rfl).facts
      have zl := (hM5.box 1 rfl).lt
      have hM8 := hM5.set4 1 rfl (.int .i64 (R).op) (.int .i64 (R).n) (.slice p3 (R).inn.length q3) (.slice p4 (R).kids.length q4)
      simp only [List.set_cons_zero, List.set_cons_succ] at hM8
      clear hM5
      go_wp2_with fail
      generalize World.setCell _ _ _ = w9 at *
      obtain ⟨q', -⟩ := (hM8.box 1 rfl).facts
      have k0 : _ = some (Value.int .i64 (R).op) := q' 0
      have k1 : _ = some (Value.int .i64 (R).n) := q' 1
      have k2 : _ = some (Value.slice p3 (R).inn.length q3) := q' 2
      have k3 : _ = some (Value.slice p4 (R).kids.length q4) := q' 3
      refine bodyPost_ret (v := fmV (R) p3 q3 p4 q4) (by simp [results, Tryz.results104, go_sem, k0, k1, k2, k3, fmV]) rfl ?_
      exact ⟨p3, q3, p4, q4, rfl, hM8.ex, mono_FmR _ _ _ _ hM8.ub hQ⟩
end Go.Proofs.YtnpnjcaomakehaaGreat
