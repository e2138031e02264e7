/- Lemmas for FF, part 10: package formula: never, not, Push, and more. -/
import Derived.Laws.EntriesVeiled
import Derived.Test.YtbpilielamjnoaaGreatFF05
import Derived.Test.YtbpilielamjnoaaGreatFF08
set_option linter.unusedSimpArgs false
set_option linter.unusedVariables false
namespace Go.Proofs.YtbpilielamjnoaaGreat
open Go.RowKit Go.Shelf
def neverF : Fm := .mk 5 0 [] []
mutual
def pushP : Fm → Fm
  | .mk op n inn kids => if op = 6 then pushNF kids else .mk op n inn (pushPs kids)
def pushN : Fm → Fm
  | .mk op n inn kids => if op = 0 then neverF else if op = 6 then pushPF kids else if op = 5 ∧ kids = [] then noF else if op = 4 then .mk 5 n inn (pushNs kids) else if op = 5 then .mk 4 n inn (pushNs kids) else .mk 6 0 [] [.mk op n inn (pushPs kids)]
def pushPs : List Fm → List Fm
  | [] => []
  | f :: l => pushP f :: pushPs l
def pushNs : List Fm → List Fm
  | [] => []
  | f :: l => pushN f :: pushNs l
def pushPF : List Fm → Fm
  | [] => noF
  | f :: _ => pushP f
def pushNF : List Fm → Fm
  | [] => noF
  | f :: _ => pushN f
end
theorem pushPs_eq : ∀ l : List Fm, pushPs l = l.map pushP
  | [] => rfl
  | f :: l => by rw [pushPs, List.map_cons, pushPs_eq l]
theorem pushNs_eq : ∀ l : List Fm, pushNs l = l.map pushN
  | [] => rfl
  | f :: l => by rw [pushNs, List.map_cons, pushNs_eq l]
theorem pushP_eq (f : Fm) : pushP f = if f.op = 6 then pushNF f.kids else .mk f.op f.n f.inn (f.kids.map pushP) := by
  cases f; rw [pushP, pushPs_eq]; rfl
theorem pushN_eq (f : Fm) : pushN f = if f.op = 0 then neverF else if f.op = 6 then pushPF f.kids else if f.op = 5 ∧ f.kids = [] then noF else if f.op = 4 then .mk 5 f.n f.inn (f.kids.map pushN) else if f.op = 5 then .mk 4 f.n f.inn (f.kids.map pushN) else .mk 6 0 [] [.mk f.op f.n f.inn (f.kids.map pushP)] := by
  cases f; rw [pushN, pushPs_eq, pushNs_eq]; rfl
theorem neverF_R (H : PH) : FmR H (fmC neverF none 0 none 0) neverF := FmR.of (by simp [neverF, Fm.op, I64]) (by simp [neverF, Fm.n, I64]) (SliceRep.nil _ _ _) (SliceRep.nil _ _ _)
theorem never_c (H : PH) (w : World) (hl : PLe H (ph w)) : Calls Tryz.prog 61 #[] w (fun e w' => e = .returned (fmV neverF none 0 none 0) ∧ Ext w w') := by
  go_enter Tryz.func61, Tryz.ntmps61
  go_wp2_with fail
  have ho := Proofs.YtbpilielamjnoaaGreat.Own.new w #[.int .i64 5, .int .i64 0, .slice none 0 0, .slice none 0 0] 29
  have hx := Ext.new w (.cells #[.int .i64 5, .int .i64 0, .slice none 0 0, .slice none 0 0] 29)
  generalize w.alloc _ = w9 at *
  obtain ⟨q, -⟩ := ho.facts
  have q0 : _ = some (Value.int .i64 5) := q 0
  have q1 : _ = some (Value.int .i64 0) := q 1
  have q2 : _ = some (Value.slice none 0 0) := q 2
  have q3 : _ = some (Value.slice none 0 0) := q 3
  refine bodyPost_ret (v := .agg #[.int .i64 5, .int .i64 0, .slice none 0 0, .slice none 0 0]) (by simp [results, Tryz.results61, go_sem, q0, q1, q2, q3]) rfl ?_
  exact ⟨rfl, hx⟩
set_option maxRecDepth 100000 in
set_option maxHeartbeats 2000000 in
theorem notf_c {H : PH} (f : Fm) (a3 : Option Addr) (c3 : Nat) (a4 : Option Addr) (c4 : Nat) (w : World) (hl : PLe H (ph w)) (hr : FmR H (fmC f a3 c3 a4 c4) f) : Calls Tryz.prog 63 #[fmV f a3 c3 a4 c4] w (NewF w H (.mk 6 0 [] [f])) := by
  have hM := ((((Mem.start w H hl).new' #[.int .i64 f.op, .int .i64 f.n, .slice a3 f.inn.length c3, .slice a4 f.kids.length c4] 29 (n := w.heap.size) rfl).new' #[.int .i64 6, .int .i64 0, .slice none 0 0, .slice (some ⟨w.heap.size + 1 + 1, 0, none⟩) 1 1] 29 (n := w.heap.size + 1) (by simp)).new' #[.int .i64 f.op, .int .i64 f.n, .slice a3 f.inn.length c3, .slice a4 f.kids.length c4] 29 (n := w.heap.size + 1 + 1) (by simp)).asOwn 2 rfl mono_FmR (sz := 4) (xs := [f]) (n := 1) (by simp) (by simp [maxLen]) rfl ⟨_, [], rfl, rfl, hr, rfl⟩
  simp only [List.cons_append, List.nil_append, List.set_cons_succ, List.set_cons_zero] at hM
  obtain ⟨H5, hl5, hM5, hR5⟩ := hM.freezeS 2 rfl
  replace hM5 := hM5.pick [0, 1] (by decide)
  simp only [List.set_cons_succ, List.set_cons_zero, List.map_cons, List.map_nil, List.getElem?_cons_zero, List.getElem?_cons_succ, Option.getD_some] at hM5
  go_enter Tryz.func63, Tryz.ntmps63
  go_wp2_with fail
  generalize World.alloc _ _ = w9 at *
  obtain ⟨q, -⟩ := (hM5.box 1 rfl).facts
  have q0 : _ = some (Value.int .i64 6) := q 0
  have q1 : _ = some (Value.int .i64 0) := q 1
  have q2 : _ = some (Value.slice none 0 0) := q 2
  have q3 : _ = some (Value.slice (some ⟨w.heap.size + 1 + 1, 0, none⟩) 1 1) := q 3
  refine bodyPost_ret (v := .agg #[.int .i64 6, .int .i64 0, .slice none 0 0, .slice (some ⟨w.heap.size + 1 + 1, 0, none⟩) 1 1]) (by simp [results, Tryz.results63, go_sem, q0, q1, q2, q3]) rfl ?_
  exact ⟨none, 0, some ⟨w.heap.size + 1 + 1, 0, none⟩, 1, rfl, hM5.ex, mono_FmR _ _ _ _ hM5.ub (FmR.of (f := .mk 6 0 [] [f]) (by simp [Fm.op, I64]) (by simp [Fm.n, I64]) (SliceRep.nil _ _ _) hR5)⟩
theorem up_laterH {H : PH} {w1 w' w6 : World} (hl : PLe H (ph w1)) (h : Ext w1 w') : PLe (up H w' w6) (up H w1 w6) := by
  intro k o hk
  unfold up at *
  have := h.size
  by_cases h1 : k < w'.heap.size
  · rw [if_pos h1] at hk
    have := ph_lt (hl k o hk)
    rw [if_pos this]; exact hk
  · rw [if_neg h1] at hk
    rw [if_neg (by omega)]; exact hk
set_option maxRecDepth 100000 in
set_option maxHeartbeats 8000000 in
theorem push_fc (g5 g6 : Nat) (f : Fm) : ∀ (H : PH) (cs : List Value) (w : World), w.cell? ⟨g5, 0, none⟩ = some (.func (.func 58) #[] #[.pointer (some ⟨g6, 0, none⟩), .pointer (some ⟨g5, 0, none⟩)]) → w.cell? ⟨g6, 0, none⟩ = some (.func (.func 60) #[] #[.pointer (some ⟨g5, 0, none⟩), .pointer (some ⟨g6, 0, none⟩)]) → PLe H (ph w) → FmR H cs f → wholeB f = true → f.bulk ≤ 900000 →
    Calls Tryz.prog 58 #[.agg cs.toArray, .pointer (some ⟨g6, 0, none⟩), .pointer (some ⟨g5, 0, none⟩)] w (NewF w H (pushP f)) ∧ Calls Tryz.prog 60 #[.agg cs.toArray, .pointer (some ⟨g5, 0, none⟩), .pointer (some ⟨g6, 0, none⟩)] w (NewF w H (pushN f)) := by
  induction f using Fm.ind with
  | h f ih =>
    intro H cs w hc5 hc6 hl hr hw hb
    obtain ⟨a3, c3, a4, c4, rfl, i1, i2, -, -, hfi, hfk⟩ := hr.form
    have hwk : ∀ x ∈ f.kids, wholeB x = true := by
      rw [wholeB_eq, Bool.and_eq_true, List.all_eq_true] at hw; exact hw.2
    have hform : formed1 f = true := by
      rw [wholeB_eq, Bool.and_eq_true] at hw; exact hw.1
    have hkn := f.kids_le
    have hin : f.inn.length ≤ 1000000 := by have := f.bulk_eq; omega
    have HI := Lib.hid (fun x hx (H' : PH) (cs' : List Value) (wr : World) (e : Ext w wr) (hl' : PLe H' (ph wr)) (hr' : FmR H' cs' x) => ih x hx H' cs' wr (e.cell1 hc5) (e.cell1 hc6) hl' hr' (hwk x hx) (by have := Fm.kid_le hx; omega))
    clear ih hw hwk
    have hr0 := hr
    unfold fmC at hr ⊢
    have hM := ((Mem.start w H hl).new' #[.int .i64 f.op, .int .i64 f.n, .slice a3 f.inn.length c3, .slice a4 f.kids.length c4] 29 (n := w.heap.size) rfl).new' #[.int .i64 0, .int .i64 0, .slice none 0 0, .slice none 0 0] 29 (n := w.heap.size + 1) (by simp)
    simp only [List.cons_append, List.nil_append] at hM
    have hkid : f.op = 3 ∨ f.op = 6 → ∃ g0, f.kids = [g0] := by
      intro h
      obtain ⟨op, n, inn, kids⟩ := f
      simp only [Fm.op, Fm.kids] at *
      rw [formed1_mk] at hform
      have hl : kids.length = 1 := by
        split at hform
        · cases hform
        · rcases h with rfl | rfl <;> simpa using hform
      exact List.length_eq_one_iff.1 hl
    have hfn1 := fun args w => enterFn Tryz.func58 rfl rfl args w
    have hfn2 := fun args w => enterFn Tryz.func60 rfl rfl args w
    constructor
    · by_cases h6 : f.op = 6
      · have hv : pushP f = pushNF f.kids := by rw [pushP_eq, if_pos h6]
        obtain ⟨g0, hg0⟩ := hkid (.inr h6)
        have hv2 : pushP f = pushN g0 := by rw [hv, hg0]; rfl
        rw [hv2]
        clear hv2
        have b6 : (f.op == 6) = true := by simpa using h6
        clear h6 hv
        replace hg0 := Lib.hid hg0
        go_enter Tryz.func58, Tryz.ntmps58
        go_upto_region 2 with (fail)
        generalize World.alloc _ _ = w1 at *
        generalize hg4 : w.heap.size + 1 = g4 at *
        generalize hg3 : w.heap.size = g3 at *
        have u0 : w1.cell? ⟨g3, 0, none⟩ = some (.int .i64 f.op) := (hM.box 0 rfl).facts.1 0
        have u1 : w1.cell? ⟨g3, 1, none⟩ = some (.int .i64 f.n) := (hM.box 0 rfl).facts.1 1
        have u2 : w1.cell? ⟨g3, 2, none⟩ = some (.slice a3 f.inn.length c3) := (hM.box 0 rfl).facts.1 2
        have u3 : w1.cell? ⟨g3, 3, none⟩ = some (.slice a4 f.kids.length c4) := (hM.box 0 rfl).facts.1 3
        have ul := (hM.box 0 rfl).lt
        replace hg0 := hg0.out
        have v5 : w1.cell? ⟨g6, 0, none⟩ = some _ := hM.ex.cell1 hc6
        have v5l : g6 < w1.heap.size := cell_lt v5
        obtain ⟨kb, ko, k3, m3, k4, m4, ek, z0, z1, z2, z3, hE, zl⟩ := FmsR.atH hfk hM.ple 0 (by rw [hg0]; simp)
        have hk0 : f.kids[0]'(by rw [hg0]; simp) = g0 := by simp [hg0]
        rw [hk0] at z0 z1 z2 z3 hE
        simp only [Nat.zero_mul, Nat.add_zero] at z0 z1 z2 z3
        cases ek
        have hkl : f.kids.length = 1 := by rw [hg0]; rfl
        rw [hkl] at u3
        have hcall := fun w' (e : Ext w1 w') => (HI.out g0 (by rw [hg0]; simp) H (fmC g0 k3 m3 k4 m4) w' (hM.ex.then e) (hM.ple.trans e.ple) hE).2
        unfold fmC at hcall
        replace hcall := Lib.hid hcall
        have hHw1 := hM.ple
        have hb0 : (0 : Nat) < 1 := by omega
        generalize pushN g0 = R at *
        clear HI hkl hk0 hE
        (refine wp_region_I 6 (by kernel_rfl) (by kernel_rfl) ?_; simp only [List.toList_toArray, List.take_succ_cons, List.take_zero, List.drop_succ_cons, List.drop_zero])
        iterate 5 (refine walkI_is (u := ?_) rfl (by simp) rfl ?_ ?_; rotate_left; (focus (intro A w' hS hA K hK; (simp only [List.map_cons, List.map_nil, knows, Is, Op.operands, Call.operands, List.lookup_cons, List.lookup_nil, Nat.reduceBEq, Bool.false_eq_true, if_false, if_true, Act.eval, Array.getD_eq_getD_getElem?, List.getElem?_toArray, List.getElem?_cons_succ, List.getElem?_cons_zero, Option.getD_some, and_true, true_and, List.append_toArray, List.nil_append, List.cons_append, List.toList_toArray, Array.toList_append, Option.toArray, List.append_nil] at hA); (obtain ⟨hSc, hSf, hSs⟩ := hS.cells; go_simp; exact hK _ xN))); (try simp only [List.nil_append, List.cons_append]))
        (refine walkI_step ((fun v w' => ∃ p3 q3 p4 q4, v = fmV R p3 q3 p4 q4 ∧ FmR (up H w1 w') (fmC R p3 q3 p4 q4) R)) rfl (by simp) rfl ((fun v w w' hS ⟨p3, q3, p4, q4, h1, h2⟩ e' => ⟨p3, q3, p4, q4, h1, mono_FmR _ _ _ _ (up_then hS e') h2⟩)) ?_ ?_; (focus (intro A w' hS hA K hK; (simp only [List.map_cons, List.map_nil, knows, Is, Op.operands, Call.operands, List.lookup_cons, List.lookup_nil, Nat.reduceBEq, Bool.false_eq_true, if_false, if_true, Act.eval, Array.getD_eq_getD_getElem?, List.getElem?_toArray, List.getElem?_cons_succ, List.getElem?_cons_zero, Option.getD_some, and_true, true_and, List.append_toArray, List.nil_append, List.cons_append, List.toList_toArray, Array.toList_append, Option.toArray, List.append_nil] at hA); (go_simp; refine (hcall.out _ hS).mono ?_; rintro e w9 ⟨p3, q3, p4, q4, rfl, hx9, hQ⟩; exact hK _ _ hx9 ⟨p3, q3, p4, q4, rfl, mono_FmR _ _ _ _ (up_laterH hHw1 hS) hQ⟩))); (try simp only [List.nil_append, List.cons_append]))
        (refine walkI_nil ?_; simp only [List.nil_append, List.cons_append, fins, Is, forall_eq, Act.put, List.setIfInBounds_toArray, List.set_cons_zero, List.set_cons_succ])
        rintro w5 hx5 v13 ⟨p3, q3, p4, q4, rfl, hQ⟩
        have hM5 := hM.up hx5
        generalize up H w1 w5 = H5 at *
        clear hM u0 u1 u2 u3 ul v5 v5l hx5 hfn1 hfn2 z0 z1 z2 z3 zl hcall
        have z0 : _ = some (Value.int .i64 0) := (hM5.box 1 rfl).facts.1 0
        have z1 : _ = some (Value.int .i64 0) := (hM5.box 1 rfl).facts.1 1
        have z2 : _ = some (Value.slice none 0 0) := (hM5.box 1 rfl).facts.1 2
        have z3 : _ = some (Value.slice none 0 0) := (hM5.box 1 rfl).facts.1 3
        obtain ⟨-, zf⟩ := (hM5.box 1 rfl).facts
        have zl := (hM5.box 1 rfl).lt
        have hM8 := hM5.set4 1 rfl (.int .i64 (R).op) (.int .i64 (R).n) (.slice p3 (R).inn.length q3) (.slice p4 (R).kids.length q4)
        simp only [List.set_cons_zero, List.set_cons_succ] at hM8
        clear hM5
        go_wp2_with fail
        generalize World.setCell _ _ _ = w9 at *
        obtain ⟨q', -⟩ := (hM8.box 1 rfl).facts
        have k0 : _ = some (Value.int .i64 (R).op) := q' 0
        have k1 : _ = some (Value.int .i64 (R).n) := q' 1
        have k2 : _ = some (Value.slice p3 (R).inn.length q3) := q' 2
        have k3 : _ = some (Value.slice p4 (R).kids.length q4) := q' 3
        refine bodyPost_ret (v := fmV (R) p3 q3 p4 q4) (by simp [results, Tryz.results58, go_sem, k0, k1, k2, k3, fmV]) rfl ?_
        exact ⟨p3, q3, p4, q4, rfl, hM8.ex, mono_FmR _ _ _ _ hM8.ub hQ⟩
      · have hv : pushP f = .mk f.op f.n f.inn (f.kids.map pushP) := by rw [pushP_eq, if_neg h6]
        have b6 : (f.op == 6) = false := by simpa using h6
        rw [hv]
        go_enter Tryz.func58, Tryz.ntmps58
        go_upto_region 3 with (fail)
        generalize World.alloc _ _ = w1 at *
        generalize hg4 : w.heap.size + 1 = g4 at *
        generalize hg3 : w.heap.size = g3 at *
        have u0 : w1.cell? ⟨g3, 0, none⟩ = some (.int .i64 f.op) := (hM.box 0 rfl).facts.1 0
        have u1 : w1.cell? ⟨g3, 1, none⟩ = some (.int .i64 f.n) := (hM.box 0 rfl).facts.1 1
        have u2 : w1.cell? ⟨g3, 2, none⟩ = some (.slice a3 f.inn.length c3) := (hM.box 0 rfl).facts.1 2
        have u3 : w1.cell? ⟨g3, 3, none⟩ = some (.slice a4 f.kids.length c4) := (hM.box 0 rfl).facts.1 3
        have ul := (hM.box 0 rfl).lt
        have v5 := hM.ex.cell1 hc5
        have v5l := cell_lt v5
        have hmp := mapped_c 58 #[.pointer (some ⟨g6, 0, none⟩), .pointer (some ⟨g5, 0, none⟩)] pushP f _ w1 hM.ple hr0 (by omega) hin hfn1 (fun x hx H' wr cs' e hl' hr' => (HI.out x hx H' cs' wr (hM.ex.then e) hl' hr').1)
        unfold fmC at hmp
        generalize Fm.mk f.op f.n f.inn (f.kids.map pushP) = R at *
        go_wp2_with fail
        refine hmp.mono ?_
        rintro e w5 ⟨p3, q3, p4, q4, rfl, hx5, hQ⟩
        have hM5 := hM.up hx5
        generalize up H w1 w5 = H5 at *
        clear hM hmp u0 u1 u2 u3 ul v5 v5l hx5 hfn1 hfn2
        have z0 : _ = some (Value.int .i64 0) := (hM5.box 1 rfl).facts.1 0
        have z1 : _ = some (Value.int .i64 0) := (hM5.box 1 rfl).facts.1 1
        have z2 : _ = some (Value.slice none 0 0) := (hM5.box 1 rfl).facts.1 2
        have z3 : _ = some (Value.slice none 0 0) := (hM5.box 1 rfl).facts.1 3
        obtain ⟨-, zf⟩ := (hM5.box 1 rfl).facts
        have zl := (hM5.box 1 rfl).lt
        have hM8 := hM5.set4 1 rfl (.int .i64 (R).op) (.int .i64 (R).n) (.slice p3 (R).inn.length q3) (.slice p4 (R).kids.length q4)
        simp only [List.set_cons_zero, List.set_cons_succ] at hM8
        clear hM5
        go_wp2_with fail
        generalize World.setCell _ _ _ = w9 at *
        obtain ⟨q', -⟩ := (hM8.box 1 rfl).facts
        have k0 : _ = some (Value.int .i64 (R).op) := q' 0
        have k1 : _ = some (Value.int .i64 (R).n) := q' 1
        have k2 : _ = some (Value.slice p3 (R).inn.length q3) := q' 2
        have k3 : _ = some (Value.slice p4 (R).kids.length q4) := q' 3
        refine bodyPost_ret (v := fmV (R) p3 q3 p4 q4) (by simp [results, Tryz.results58, go_sem, k0, k1, k2, k3, fmV]) rfl ?_
        exact ⟨p3, q3, p4, q4, rfl, hM8.ex, mono_FmR _ _ _ _ hM8.ub hQ⟩
    · by_cases h0 : f.op = 0
      · have hv : pushN f = neverF := by rw [pushN_eq, if_pos h0]
        have b0 : (f.op == 0) = true := by simpa using h0
        rw [hv]
        clear h0 hv
        go_enter Tryz.func60, Tryz.ntmps60
        go_upto_region 2 with (fail)
        generalize World.alloc _ _ = w1 at *
        generalize hg4 : w.heap.size + 1 = g4 at *
        generalize hg3 : w.heap.size = g3 at *
        have u0 : w1.cell? ⟨g3, 0, none⟩ = some (.int .i64 f.op) := (hM.box 0 rfl).facts.1 0
        have u1 : w1.cell? ⟨g3, 1, none⟩ = some (.int .i64 f.n) := (hM.box 0 rfl).facts.1 1
        have u2 : w1.cell? ⟨g3, 2, none⟩ = some (.slice a3 f.inn.length c3) := (hM.box 0 rfl).facts.1 2
        have u3 : w1.cell? ⟨g3, 3, none⟩ = some (.slice a4 f.kids.length c4) := (hM.box 0 rfl).facts.1 3
        have ul := (hM.box 0 rfl).lt
        go_wp2_with fail
        refine (never_c H w1 hM.ple).mono ?_
        rintro e w5 ⟨rfl, hx5⟩
        have hM5 := hM.up hx5
        have hQ := neverF_R (up H w1 w5)
        generalize up H w1 w5 = H5 at *
        clear hM u0 u1 u2 u3 ul hx5 hfn1 hfn2
        obtain ⟨p3, q3, p4, q4, hp, hQ⟩ : ∃ p3 q3 p4 q4, fmV neverF none 0 none 0 = fmV neverF p3 q3 p4 q4 ∧ FmR H5 (fmC neverF p3 q3 p4 q4) neverF := ⟨none, 0, none, 0, rfl, hQ⟩
        rw [hp]
        clear hp
        generalize neverF = R at *
        have z0 : _ = some (Value.int .i64 0) := (hM5.box 1 rfl).facts.1 0
        have z1 : _ = some (Value.int .i64 0) := (hM5.box 1 rfl).facts.1 1
        have z2 : _ = some (Value.slice none 0 0) := (hM5.box 1 rfl).facts.1 2
        have z3 : _ = some (Value.slice none 0 0) := (hM5.box 1 rfl).facts.1 3
        obtain ⟨-, zf⟩ := (hM5.box 1 rfl).facts
        have zl := (hM5.box 1 rfl).lt
        have hM8 := hM5.set4 1 rfl (.int .i64 (R).op) (.int .i64 (R).n) (.slice p3 (R).inn.length q3) (.slice p4 (R).kids.length q4)
        simp only [List.set_cons_zero, List.set_cons_succ] at hM8
        clear hM5
        go_wp2_with fail
        generalize World.setCell _ _ _ = w9 at *
        obtain ⟨q', -⟩ := (hM8.box 1 rfl).facts
        have k0 : _ = some (Value.int .i64 (R).op) := q' 0
        have k1 : _ = some (Value.int .i64 (R).n) := q' 1
        have k2 : _ = some (Value.slice p3 (R).inn.length q3) := q' 2
        have k3 : _ = some (Value.slice p4 (R).kids.length q4) := q' 3
        refine bodyPost_ret (v := fmV (R) p3 q3 p4 q4) (by simp [results, Tryz.results60, go_sem, k0, k1, k2, k3, fmV]) rfl ?_
        exact ⟨p3, q3, p4, q4, rfl, hM8.ex, mono_FmR _ _ _ _ hM8.ub hQ⟩
      have b0 : (f.op == 0) = false := by simpa using h0
      by_cases h6 : f.op = 6
      · have hv : pushN f = pushPF f.kids := by rw [pushN_eq, if_neg h0, if_pos h6]
        obtain ⟨g0, hg0⟩ := hkid (.inr h6)
        have hv2 : pushN f = pushP g0 := by rw [hv, hg0]; rfl
        rw [hv2]
        clear hv2
        have b6 : (f.op == 6) = true := by simpa using h6
        clear h6 hv h0
        replace hg0 := Lib.hid hg0
        go_enter Tryz.func60, Tryz.ntmps60
        go_upto_region 4 with (fail)
        generalize World.alloc _ _ = w1 at *
        generalize hg4 : w.heap.size + 1 = g4 at *
        generalize hg3 : w.heap.size = g3 at *
        have u0 : w1.cell? ⟨g3, 0, none⟩ = some (.int .i64 f.op) := (hM.box 0 rfl).facts.1 0
        have u1 : w1.cell? ⟨g3, 1, none⟩ = some (.int .i64 f.n) := (hM.box 0 rfl).facts.1 1
        have u2 : w1.cell? ⟨g3, 2, none⟩ = some (.slice a3 f.inn.length c3) := (hM.box 0 rfl).facts.1 2
        have u3 : w1.cell? ⟨g3, 3, none⟩ = some (.slice a4 f.kids.length c4) := (hM.box 0 rfl).facts.1 3
        have ul := (hM.box 0 rfl).lt
        replace hg0 := hg0.out
        have v5 : w1.cell? ⟨g5, 0, none⟩ = some _ := hM.ex.cell1 hc5
        have v5l : g5 < w1.heap.size := cell_lt v5
        obtain ⟨kb, ko, k3, m3, k4, m4, ek, z0, z1, z2, z3, hE, zl⟩ := FmsR.atH hfk hM.ple 0 (by rw [hg0]; simp)
        have hk0 : f.kids[0]'(by rw [hg0]; simp) = g0 := by simp [hg0]
        rw [hk0] at z0 z1 z2 z3 hE
        simp only [Nat.zero_mul, Nat.add_zero] at z0 z1 z2 z3
        cases ek
        have hkl : f.kids.length = 1 := by rw [hg0]; rfl
        rw [hkl] at u3
        have hcall := fun w' (e : Ext w1 w') => (HI.out g0 (by rw [hg0]; simp) H (fmC g0 k3 m3 k4 m4) w' (hM.ex.then e) (hM.ple.trans e.ple) hE).1
        unfold fmC at hcall
        replace hcall := Lib.hid hcall
        have hHw1 := hM.ple
        have hb0 : (0 : Nat) < 1 := by omega
        generalize pushP g0 = R at *
        clear HI hkl hk0 hE
        (refine wp_region_I 6 (by kernel_rfl) (by kernel_rfl) ?_; simp only [List.toList_toArray, List.take_succ_cons, List.take_zero, List.drop_succ_cons, List.drop_zero])
        iterate 5 (refine walkI_is (u := ?_) rfl (by simp) rfl ?_ ?_; rotate_left; (focus (intro A w' hS hA K hK; (simp only [List.map_cons, List.map_nil, knows, Is, Op.operands, Call.operands, List.lookup_cons, List.lookup_nil, Nat.reduceBEq, Bool.false_eq_true, if_false, if_true, Act.eval, Array.getD_eq_getD_getElem?, List.getElem?_toArray, List.getElem?_cons_succ, List.getElem?_cons_zero, Option.getD_some, and_true, true_and, List.append_toArray, List.nil_append, List.cons_append, List.toList_toArray, Array.toList_append, Option.toArray, List.append_nil] at hA); (obtain ⟨hSc, hSf, hSs⟩ := hS.cells; go_simp; exact hK _ xN))); (try simp only [List.nil_append, List.cons_append]))
        (refine walkI_step ((fun v w' => ∃ p3 q3 p4 q4, v = fmV R p3 q3 p4 q4 ∧ FmR (up H w1 w') (fmC R p3 q3 p4 q4) R)) rfl (by simp) rfl ((fun v w w' hS ⟨p3, q3, p4, q4, h1, h2⟩ e' => ⟨p3, q3, p4, q4, h1, mono_FmR _ _ _ _ (up_then hS e') h2⟩)) ?_ ?_; (focus (intro A w' hS hA K hK; (simp only [List.map_cons, List.map_nil, knows, Is, Op.operands, Call.operands, List.lookup_cons, List.lookup_nil, Nat.reduceBEq, Bool.false_eq_true, if_false, if_true, Act.eval, Array.getD_eq_getD_getElem?, List.getElem?_toArray, List.getElem?_cons_succ, List.getElem?_cons_zero, Option.getD_some, and_true, true_and, List.append_toArray, List.nil_append, List.cons_append, List.toList_toArray, Array.toList_append, Option.toArray, List.append_nil] at hA); (go_simp; refine (hcall.out _ hS).mono ?_; rintro e w9 ⟨p3, q3, p4, q4, rfl, hx9, hQ⟩; exact hK _ _ hx9 ⟨p3, q3, p4, q4, rfl, mono_FmR _ _ _ _ (up_laterH hHw1 hS) hQ⟩))); (try simp only [List.nil_append, List.cons_append]))
        (refine walkI_nil ?_; simp only [List.nil_append, List.cons_append, fins, Is, forall_eq, Act.put, List.setIfInBounds_toArray, List.set_cons_zero, List.set_cons_succ])
        rintro w5 hx5 v13 ⟨p3, q3, p4, q4, rfl, hQ⟩
        have hM5 := hM.up hx5
        generalize up H w1 w5 = H5 at *
        clear hM u0 u1 u2 u3 ul v5 v5l hx5 hfn1 hfn2 z0 z1 z2 z3 zl hcall
        have z0 : _ = some (Value.int .i64 0) := (hM5.box 1 rfl).facts.1 0
        have z1 : _ = some (Value.int .i64 0) := (hM5.box 1 rfl).facts.1 1
        have z2 : _ = some (Value.slice none 0 0) := (hM5.box 1 rfl).facts.1 2
        have z3 : _ = some (Value.slice none 0 0) := (hM5.box 1 rfl).facts.1 3
        obtain ⟨-, zf⟩ := (hM5.box 1 rfl).facts
        have zl := (hM5.box 1 rfl).lt
        have hM8 := hM5.set4 1 rfl (.int .i64 (R).op) (.int .i64 (R).n) (.slice p3 (R).inn.length q3) (.slice p4 (R).kids.length q4)
        simp only [List.set_cons_zero, List.set_cons_succ] at hM8
        clear hM5
        go_wp2_with fail
        generalize World.setCell _ _ _ = w9 at *
        obtain ⟨q', -⟩ := (hM8.box 1 rfl).facts
        have k0 : _ = some (Value.int .i64 (R).op) := q' 0
        have k1 : _ = some (Value.int .i64 (R).n) := q' 1
        have k2 : _ = some (Value.slice p3 (R).inn.length q3) := q' 2
        have k3 : _ = some (Value.slice p4 (R).kids.length q4) := q' 3
        refine bodyPost_ret (v := fmV (R) p3 q3 p4 q4) (by simp [results, Tryz.results60, go_sem, k0, k1, k2, k3, fmV]) rfl ?_
        exact ⟨p3, q3, p4, q4, rfl, hM8.ex, mono_FmR _ _ _ _ hM8.ub hQ⟩
      have b6 : (f.op == 6) = false := by simpa using h6
      by_cases hnev : f.op = 5 ∧ f.kids = []
      · have hv : pushN f = noF := by rw [pushN_eq, if_neg h0, if_neg h6, if_pos hnev]
        rw [hv]
        have hnv : decide (f.op = 5 ∧ f.kids = []) = true := by simpa using hnev
        clear hnev hv h0 h6
        go_enter Tryz.func60, Tryz.ntmps60
        go_upto_region 5 with (fail)
        generalize World.alloc _ _ = w1 at *
        generalize hg4 : w.heap.size + 1 = g4 at *
        generalize hg3 : w.heap.size = g3 at *
        have u0 : w1.cell? ⟨g3, 0, none⟩ = some (.int .i64 f.op) := (hM.box 0 rfl).facts.1 0
        have u1 : w1.cell? ⟨g3, 1, none⟩ = some (.int .i64 f.n) := (hM.box 0 rfl).facts.1 1
        have u2 : w1.cell? ⟨g3, 2, none⟩ = some (.slice a3 f.inn.length c3) := (hM.box 0 rfl).facts.1 2
        have u3 : w1.cell? ⟨g3, 3, none⟩ = some (.slice a4 f.kids.length c4) := (hM.box 0 rfl).facts.1 3
        have ul := (hM.box 0 rfl).lt
        go_wp2_with fail
        refine RetV_at (isNever_c f (fmC f a3 c3 a4 c4) w1 (mono_FmR _ _ _ _ hM.ple hr0)) ?_
        intro w2 hx2
        rw [hnv]
        replace hM := hM.ext hx2
        have z0 : _ = some (Value.int .i64 0) := (hM.box 1 rfl).facts.1 0
        have z1 : _ = some (Value.int .i64 0) := (hM.box 1 rfl).facts.1 1
        have z2 : _ = some (Value.slice none 0 0) := (hM.box 1 rfl).facts.1 2
        have z3 : _ = some (Value.slice none 0 0) := (hM.box 1 rfl).facts.1 3
        obtain ⟨-, zf⟩ := (hM.box 1 rfl).facts
        have zl := (hM.box 1 rfl).lt
        have hM8 := hM.set4 1 rfl (.int .i64 0) (.int .i64 0) (.slice none 0 0) (.slice none 0 0)
        simp only [List.set_cons_zero, List.set_cons_succ] at hM8
        clear hM u0 u1 u2 u3 ul hx2 hnv
        go_wp2_with fail
        generalize World.setCell _ _ _ = w9 at *
        obtain ⟨q', -⟩ := (hM8.box 1 rfl).facts
        have k0 : _ = some (Value.int .i64 0) := q' 0
        have k1 : _ = some (Value.int .i64 0) := q' 1
        have k2 : _ = some (Value.slice none 0 0) := q' 2
        have k3 : _ = some (Value.slice none 0 0) := q' 3
        refine bodyPost_ret (v := .agg #[.int .i64 0, .int .i64 0, .slice none 0 0, .slice none 0 0]) (by simp [results, Tryz.results60, go_sem, k0, k1, k2, k3]) rfl ?_
        exact ⟨none, 0, none, 0, rfl, hM8.ex, noF_R _⟩
      have hnv : decide (f.op = 5 ∧ f.kids = []) = false := by simpa using hnev
      by_cases h4 : f.op = 4
      · have hv : pushN f = .mk 5 f.n f.inn (f.kids.map pushN) := by rw [pushN_eq, if_neg h0, if_neg h6, if_neg hnev, if_pos h4]
        rw [hv]
        have b4 : (f.op == 4) = true := by simpa using h4
        clear h4 hnev
        clear h0 hv h6
        go_enter Tryz.func60, Tryz.ntmps60
        go_upto_region 5 with (fail)
        generalize World.alloc _ _ = w1 at *
        generalize hg4 : w.heap.size + 1 = g4 at *
        generalize hg3 : w.heap.size = g3 at *
        have u0 : w1.cell? ⟨g3, 0, none⟩ = some (.int .i64 f.op) := (hM.box 0 rfl).facts.1 0
        have u1 : w1.cell? ⟨g3, 1, none⟩ = some (.int .i64 f.n) := (hM.box 0 rfl).facts.1 1
        have u2 : w1.cell? ⟨g3, 2, none⟩ = some (.slice a3 f.inn.length c3) := (hM.box 0 rfl).facts.1 2
        have u3 : w1.cell? ⟨g3, 3, none⟩ = some (.slice a4 f.kids.length c4) := (hM.box 0 rfl).facts.1 3
        have ul := (hM.box 0 rfl).lt
        go_wp2_with fail
        refine RetV_at (isNever_c f (fmC f a3 c3 a4 c4) w1 (mono_FmR _ _ _ _ hM.ple hr0)) ?_
        intro w2 hx2
        rw [hnv]
        replace hM := hM.ext hx2
        replace u0 := hx2.cell1 u0
        replace ul := cell_lt u0
        have e0 := (hM.box 0 rfl).facts.2 0
        have hM2 := hM.set 0 rfl 0 (.int .i64 5)
        simp only [List.set_cons_zero, List.setIfInBounds_toArray, List.set_cons_succ] at hM2
        clear u1 u2 u3 hM hx2 hnv
        go_upto_region 9 with (fail)
        generalize World.setCell _ _ _ = w3 at *
        clear u0 ul e0
        have u0 : w3.cell? ⟨g3, 0, none⟩ = some (.int .i64 5) := (hM2.box 0 rfl).facts.1 0
        have u1 : w3.cell? ⟨g3, 1, none⟩ = some (.int .i64 f.n) := (hM2.box 0 rfl).facts.1 1
        have u2 : w3.cell? ⟨g3, 2, none⟩ = some (.slice a3 f.inn.length c3) := (hM2.box 0 rfl).facts.1 2
        have u3 : w3.cell? ⟨g3, 3, none⟩ = some (.slice a4 f.kids.length c4) := (hM2.box 0 rfl).facts.1 3
        have ul := (hM2.box 0 rfl).lt
        have v6 : w3.cell? ⟨g6, 0, none⟩ = some _ := hM2.ex.cell1 hc6
        have v6l : g6 < w3.heap.size := cell_lt v6
        have hmp : Calls Tryz.prog 59 #[.agg #[.int .i64 5, .int .i64 f.n, .slice a3 f.inn.length c3, .slice a4 f.kids.length c4], .func (.func 60) #[] #[.pointer (some ⟨g5, 0, none⟩), .pointer (some ⟨g6, 0, none⟩)]] w3 (NewF w3 H (.mk 5 f.n f.inn (f.kids.map pushN))) := mapped_c 60 #[.pointer (some ⟨g5, 0, none⟩), .pointer (some ⟨g6, 0, none⟩)] pushN (.mk 5 f.n f.inn f.kids) (fmC (.mk 5 f.n f.inn f.kids) a3 c3 a4 c4) w3 hM2.ple (FmR.of (f := .mk 5 f.n f.inn f.kids) (by simp [Fm.op, I64]) i2 hfi hfk) (by show f.kids.length ≤ _; omega) hin hfn2 (fun x hx H' wr cs' e hl' hr' => (HI.out x hx H' cs' wr (hM2.ex.then e) hl' hr').2)
        generalize Fm.mk 5 f.n f.inn (f.kids.map pushN) = R at *
        go_wp2_with fail
        refine hmp.mono ?_
        rintro e w5 ⟨p3, q3, p4, q4, rfl, hx5, hQ⟩
        have hM5 := hM2.up hx5
        generalize up H w3 w5 = H5 at *
        clear hM2 hmp u0 u1 u2 u3 ul v6 v6l hx5 hfn1 hfn2
        have z0 : _ = some (Value.int .i64 0) := (hM5.box 1 rfl).facts.1 0
        have z1 : _ = some (Value.int .i64 0) := (hM5.box 1 rfl).facts.1 1
        have z2 : _ = some (Value.slice none 0 0) := (hM5.box 1 rfl).facts.1 2
        have z3 : _ = some (Value.slice none 0 0) := (hM5.box 1 rfl).facts.1 3
        obtain ⟨-, zf⟩ := (hM5.box 1 rfl).facts
        have zl := (hM5.box 1 rfl).lt
        have hM8 := hM5.set4 1 rfl (.int .i64 (R).op) (.int .i64 (R).n) (.slice p3 (R).inn.length q3) (.slice p4 (R).kids.length q4)
        simp only [List.set_cons_zero, List.set_cons_succ] at hM8
        clear hM5
        go_wp2_with fail
        generalize World.setCell _ _ _ = w9 at *
        obtain ⟨q', -⟩ := (hM8.box 1 rfl).facts
        have k0 : _ = some (Value.int .i64 (R).op) := q' 0
        have k1 : _ = some (Value.int .i64 (R).n) := q' 1
        have k2 : _ = some (Value.slice p3 (R).inn.length q3) := q' 2
        have k3 : _ = some (Value.slice p4 (R).kids.length q4) := q' 3
        refine bodyPost_ret (v := fmV (R) p3 q3 p4 q4) (by simp [results, Tryz.results60, go_sem, k0, k1, k2, k3, fmV]) rfl ?_
        exact ⟨p3, q3, p4, q4, rfl, hM8.ex, mono_FmR _ _ _ _ hM8.ub hQ⟩
      have b4 : (f.op == 4) = false := by simpa using h4
      by_cases h5 : f.op = 5
      · have hv : pushN f = .mk 4 f.n f.inn (f.kids.map pushN) := by rw [pushN_eq, if_neg h0, if_neg h6, if_neg hnev, if_neg h4, if_pos h5]
        rw [hv]
        have b5 : (f.op == 5) = true := by simpa using h5
        clear h4 h5 hnev
        clear h0 hv h6
        go_enter Tryz.func60, Tryz.ntmps60
        go_upto_region 5 with (fail)
        generalize World.alloc _ _ = w1 at *
        generalize hg4 : w.heap.size + 1 = g4 at *
        generalize hg3 : w.heap.size = g3 at *
        have u0 : w1.cell? ⟨g3, 0, none⟩ = some (.int .i64 f.op) := (hM.box 0 rfl).facts.1 0
        have u1 : w1.cell? ⟨g3, 1, none⟩ = some (.int .i64 f.n) := (hM.box 0 rfl).facts.1 1
        have u2 : w1.cell? ⟨g3, 2, none⟩ = some (.slice a3 f.inn.length c3) := (hM.box 0 rfl).facts.1 2
        have u3 : w1.cell? ⟨g3, 3, none⟩ = some (.slice a4 f.kids.length c4) := (hM.box 0 rfl).facts.1 3
        have ul := (hM.box 0 rfl).lt
        go_wp2_with fail
        refine RetV_at (isNever_c f (fmC f a3 c3 a4 c4) w1 (mono_FmR _ _ _ _ hM.ple hr0)) ?_
        intro w2 hx2
        rw [hnv]
        replace hM := hM.ext hx2
        replace u0 := hx2.cell1 u0
        replace ul := cell_lt u0
        have e0 := (hM.box 0 rfl).facts.2 0
        have hM2 := hM.set 0 rfl 0 (.int .i64 4)
        simp only [List.set_cons_zero, List.setIfInBounds_toArray, List.set_cons_succ] at hM2
        clear u1 u2 u3 hM hx2 hnv
        go_upto_region 12 with (fail)
        generalize World.setCell _ _ _ = w3 at *
        clear u0 ul e0
        have u0 : w3.cell? ⟨g3, 0, none⟩ = some (.int .i64 4) := (hM2.box 0 rfl).facts.1 0
        have u1 : w3.cell? ⟨g3, 1, none⟩ = some (.int .i64 f.n) := (hM2.box 0 rfl).facts.1 1
        have u2 : w3.cell? ⟨g3, 2, none⟩ = some (.slice a3 f.inn.length c3) := (hM2.box 0 rfl).facts.1 2
        have u3 : w3.cell? ⟨g3, 3, none⟩ = some (.slice a4 f.kids.length c4) := (hM2.box 0 rfl).facts.1 3
        have ul := (hM2.box 0 rfl).lt
        have v6 : w3.cell? ⟨g6, 0, none⟩ = some _ := hM2.ex.cell1 hc6
        have v6l : g6 < w3.heap.size := cell_lt v6
        have hmp : Calls Tryz.prog 59 #[.agg #[.int .i64 4, .int .i64 f.n, .slice a3 f.inn.length c3, .slice a4 f.kids.length c4], .func (.func 60) #[] #[.pointer (some ⟨g5, 0, none⟩), .pointer (some ⟨g6, 0, none⟩)]] w3 (NewF w3 H (.mk 4 f.n f.inn (f.kids.map pushN))) := mapped_c 60 #[.pointer (some ⟨g5, 0, none⟩), .pointer (some ⟨g6, 0, none⟩)] pushN (.mk 4 f.n f.inn f.kids) (fmC (.mk 4 f.n f.inn f.kids) a3 c3 a4 c4) w3 hM2.ple (FmR.of (f := .mk 4 f.n f.inn f.kids) (by simp [Fm.op, I64]) i2 hfi hfk) (by show f.kids.length ≤ _; omega) hin hfn2 (fun x hx H' wr cs' e hl' hr' => (HI.out x hx H' cs' wr (hM2.ex.then e) hl' hr').2)
        generalize Fm.mk 4 f.n f.inn (f.kids.map pushN) = R at *
        go_wp2_with fail
        refine hmp.mono ?_
        rintro e w5 ⟨p3, q3, p4, q4, rfl, hx5, hQ⟩
        have hM5 := hM2.up hx5
        generalize up H w3 w5 = H5 at *
        clear hM2 hmp u0 u1 u2 u3 ul v6 v6l hx5 hfn1 hfn2
        have z0 : _ = some (Value.int .i64 0) := (hM5.box 1 rfl).facts.1 0
        have z1 : _ = some (Value.int .i64 0) := (hM5.box 1 rfl).facts.1 1
        have z2 : _ = some (Value.slice none 0 0) := (hM5.box 1 rfl).facts.1 2
        have z3 : _ = some (Value.slice none 0 0) := (hM5.box 1 rfl).facts.1 3
        obtain ⟨-, zf⟩ := (hM5.box 1 rfl).facts
        have zl := (hM5.box 1 rfl).lt
        have hM8 := hM5.set4 1 rfl (.int .i64 (R).op) (.int .i64 (R).n) (.slice p3 (R).inn.length q3) (.slice p4 (R).kids.length q4)
        simp only [List.set_cons_zero, List.set_cons_succ] at hM8
        clear hM5
        go_wp2_with fail
        generalize World.setCell _ _ _ = w9 at *
        obtain ⟨q', -⟩ := (hM8.box 1 rfl).facts
        have k0 : _ = some (Value.int .i64 (R).op) := q' 0
        have k1 : _ = some (Value.int .i64 (R).n) := q' 1
        have k2 : _ = some (Value.slice p3 (R).inn.length q3) := q' 2
        have k3 : _ = some (Value.slice p4 (R).kids.length q4) := q' 3
        refine bodyPost_ret (v := fmV (R) p3 q3 p4 q4) (by simp [results, Tryz.results60, go_sem, k0, k1, k2, k3, fmV]) rfl ?_
        exact ⟨p3, q3, p4, q4, rfl, hM8.ex, mono_FmR _ _ _ _ hM8.ub hQ⟩
      have b5 : (f.op == 5) = false := by simpa using h5
      have hv : pushN f = .mk 6 0 [] [.mk f.op f.n f.inn (f.kids.map pushP)] := by rw [pushN_eq, if_neg h0, if_neg h6, if_neg hnev, if_neg h4, if_neg h5]
      rw [hv]
      clear hv h0 h6 hnev h4 h5
      go_enter Tryz.func60, Tryz.ntmps60
      go_upto_region 5 with (fail)
      generalize World.alloc _ _ = w1 at *
      generalize hg4 : w.heap.size + 1 = g4 at *
      generalize hg3 : w.heap.size = g3 at *
      have u0 : w1.cell? ⟨g3, 0, none⟩ = some (.int .i64 f.op) := (hM.box 0 rfl).facts.1 0
      have u1 : w1.cell? ⟨g3, 1, none⟩ = some (.int .i64 f.n) := (hM.box 0 rfl).facts.1 1
      have u2 : w1.cell? ⟨g3, 2, none⟩ = some (.slice a3 f.inn.length c3) := (hM.box 0 rfl).facts.1 2
      have u3 : w1.cell? ⟨g3, 3, none⟩ = some (.slice a4 f.kids.length c4) := (hM.box 0 rfl).facts.1 3
      have ul := (hM.box 0 rfl).lt
      go_wp2_with fail
      refine RetV_at (isNever_c f (fmC f a3 c3 a4 c4) w1 (mono_FmR _ _ _ _ hM.ple hr0)) ?_
      intro w2 hx2
      rw [hnv]
      replace hM := hM.ext hx2
      replace u0 := hx2.cell1 u0
      replace u1 := hx2.cell1 u1
      replace u2 := hx2.cell1 u2
      replace u3 := hx2.cell1 u3
      replace ul := cell_lt u0
      have v5 : w2.cell? ⟨g5, 0, none⟩ = some _ := hM.ex.cell1 hc5
      have v5l : g5 < w2.heap.size := cell_lt v5
      have hmp := mapped_c 58 #[.pointer (some ⟨g6, 0, none⟩), .pointer (some ⟨g5, 0, none⟩)] pushP f _ w2 hM.ple hr0 (by omega) hin hfn1 (fun x hx H' wr cs' e hl' hr' => (HI.out x hx H' cs' wr (hM.ex.then e) hl' hr').1)
      unfold fmC at hmp
      generalize Fm.mk f.op f.n f.inn (f.kids.map pushP) = R1 at *
      clear hnv
      go_wp2_with fail
      refine hmp.mono ?_
      rintro e w4 ⟨s3, t3, s4, t4, rfl, hx4, hQ1⟩
      have hM4 := hM.up hx4
      generalize up H w2 w4 = H4 at *
      clear hM hmp u0 u1 u2 u3 ul v5 v5l hx4 hfn1 hfn2
      have hnt := notf_c R1 s3 t3 s4 t4 w4 hM4.ple hQ1
      generalize Fm.mk 6 0 [] [R1] = R at *
      go_wp2_with fail
      refine hnt.mono ?_
      rintro e w5 ⟨p3, q3, p4, q4, rfl, hx5, hQ⟩
      have hM5 := hM4.up hx5
      generalize up H4 w4 w5 = H5 at *
      clear hM4 hnt hx5 hQ1
      have z0 : _ = some (Value.int .i64 0) := (hM5.box 1 rfl).facts.1 0
      have z1 : _ = some (Value.int .i64 0) := (hM5.box 1 rfl).facts.1 1
      have z2 : _ = some (Value.slice none 0 0) := (hM5.box 1 rfl).facts.1 2
      have z3 : _ = some (Value.slice none 0 0) := (hM5.box 1 rfl).facts.1 3
      obtain ⟨-, zf⟩ := (hM5.box 1 rfl).facts
      have zl := (hM5.box 1 rfl).lt
      have hM8 := hM5.set4 1 rfl (.int .i64 (R).op) (.int .i64 (R).n) (.slice p3 (R).inn.length q3) (.slice p4 (R).kids.length q4)
      simp only [List.set_cons_zero, List.set_cons_succ] at hM8
      clear hM5
      go_wp2_with fail
      generalize World.setCell _ _ _ = w9 at *
      obtain ⟨q', -⟩ := (hM8.box 1 rfl).facts
      have k0 : _ = some (Value.int .i64 (R).op) := q' 0
      have k1 : _ = some (Value.int .i64 (R).n) := q' 1
      have k2 : _ = some (Value.slice p3 (R).inn.length q3) := q' 2
      have k3 : _ = some (Value.slice p4 (R).kids.length q4) := q' 3
      refine bodyPost_ret (v := fmV (R) p3 q3 p4 q4) (by simp [results, Tryz.results60, go_sem, k0, k1, k2, k3, fmV]) rfl ?_
      exact ⟨p3, q3, p4, q4, rfl, hM8.ex, mono_FmR _ _ _ _ hM8.ub hQ⟩
def SzP (lf : Int) (s : Nat) : Prop := 1 ≤ s ∧ (s : Int) ≤ 1 + 3 * (max (lf - 3) 0 - max (lf - s - 3) 0)
theorem szP_1 (lf : Int) : SzP lf 1 := by unfold SzP; omega
def KsP (lf : Int) (m : Nat) (sm : Nat) : Prop := (sm : Int) ≤ m + 3 * (max (lf - 1 - 3) 0 - max (lf - 1 - sm - 3) 0)
theorem ksP_step {lf : Int} {m sm s : Nat} (h : KsP lf m sm) (h2 : SzP (lf - 1 - sm) s) : KsP lf (m + 1) (sm + s) := by unfold KsP SzP at *; omega
theorem szP_of {lf : Int} {m sm : Nat} (h : KsP lf m sm) (hm : m ≤ 3) (hl : 3 ≤ lf - 1) : SzP lf (1 + sm) := by unfold KsP SzP at *; omega
theorem ksP_bd {lf : Int} {m sm : Nat} (h : KsP lf m sm) (hm : m ≤ 3) (hl : lf ≤ 100) : (sm : Int) ≤ 300 := by unfold KsP at h; omega
theorem deep_leaf {f : Fm} (h : f.kids = []) : f.deep = 1 := by rw [Fm.deep_eq, h]; rfl
theorem size_leaf' {f : Fm} (h : f.kids = []) : f.size = 1 := by rw [Fm.size_eq, h]; rfl
theorem size_mk (o n : Int) (i : List Itv) (k : List Fm) : (Fm.mk o n i k).size = 1 + sumN Fm.size k := Fm.size_eq _
theorem deep_mk (o n : Int) (i : List Itv) (k : List Fm) : (Fm.mk o n i k).deep = 1 + maxN Fm.deep k := Fm.deep_eq _
def kidsG (T : Int → Int → Fm × Int) (lf a : Int) : Nat → List Fm × Int
  | 0 => ([], a)
  | m + 1 => ((kidsG T lf a m).1 ++ [(T (kidsG T lf a m).2 (lf - (sumN Fm.size (kidsG T lf a m).1 : Nat))).1], (T (kidsG T lf a m).2 (lf - (sumN Fm.size (kidsG T lf a m).1 : Nat))).2)
def treeF (l : List Int) (cl : Int) : Nat → Int → Int → Fm × Int
  | 0, a, _ => leafF l cl (a + 1)
  | d + 1, a, lf =>
    if lf - 1 < 3 ∨ (l.length : Int) < a + 1 ∨ pickV l a 14 < 3 then leafF l cl (a + 1)
    else if pickV l a 14 < 5 then (.mk 3 0 [] [(treeF l cl d (a + 1) (lf - 1)).1], (treeF l cl d (a + 1) (lf - 1)).2)
    else if pickV l a 14 < 7 then (.mk 6 0 [] [(treeF l cl d (a + 1) (lf - 1)).1], (treeF l cl d (a + 1) (lf - 1)).2)
    else (.mk (4 + pickV l a 14 % 2) 0 [] (kidsG (treeF l cl d) (lf - 1) (a + 1 + 1) ([2, 2, 2, 3, 1, 0].getD (pickV l (a + 1) 6).toNat 0)).1, (kidsG (treeF l cl d) (lf - 1) (a + 1 + 1) ([2, 2, 2, 3, 1, 0].getD (pickV l (a + 1) 6).toNat 0)).2)
theorem treeF_leaf {l : List Int} {cl : Int} {d : Nat} {a lf : Int} (h : d = 0 ∨ lf - 1 < 3 ∨ (l.length : Int) < a + 1 ∨ pickV l a 14 < 3) : treeF l cl d a lf = leafF l cl (a + 1) := by
  cases d with
  | zero => rfl
  | succ d => rw [treeF, if_pos (h.resolve_left (by omega))]
theorem treeF_3 {l : List Int} {cl : Int} {d : Nat} {a lf k a2 : Int} {f : Fm} (hk : k = pickV l a 14) (h1 : ¬ lf - 1 < 3) (h2 : ¬ (l.length : Int) < a + 1) (h3 : ¬ k < 3) (h4 : k < 5) (h : treeF l cl d (a + 1) (lf - 1) = (f, a2)) :
    treeF l cl (d + 1) a lf = (.mk 3 0 [] [f], a2) := by
  subst hk; rw [treeF, if_neg (by omega), if_pos h4, h]
theorem treeF_6 {l : List Int} {cl : Int} {d : Nat} {a lf k a2 : Int} {f : Fm} (hk : k = pickV l a 14) (h1 : ¬ lf - 1 < 3) (h2 : ¬ (l.length : Int) < a + 1) (h3 : ¬ k < 3) (h4 : ¬ k < 5) (h5 : k < 7) (h : treeF l cl d (a + 1) (lf - 1) = (f, a2)) :
    treeF l cl (d + 1) a lf = (.mk 6 0 [] [f], a2) := by
  subst hk; rw [treeF, if_neg (by omega), if_neg h4, if_pos h5, h]
theorem treeF_n {l : List Int} {cl : Int} {d nv j : Nat} {a lf k a2 : Int} {ks : List Fm} (hk : k = pickV l a 14) (h1 : ¬ lf - 1 < 3) (h2 : ¬ (l.length : Int) < a + 1) (h3 : ¬ k < 3) (h5 : ¬ k < 7) (hj : (j : Int) = pickV l (a + 1) 6) (hn : nv = [2, 2, 2, 3, 1, 0].getD j 0)
    (h : kidsG (treeF l cl d) (lf - 1) (a + 1 + 1) nv = (ks, a2)) : treeF l cl (d + 1) a lf = (.mk (4 + k % 2) 0 [] ks, a2) := by
  subst hk hn; rw [treeF, if_neg (by omega), if_neg (by omega), if_neg h5, ← hj, Int.toNat_natCast, h]
theorem kidsG_step {T : Int → Int → Fm × Int} {lf a at1 at2 : Int} {m : Nat} {ks : List Fm} {f : Fm} (h : kidsG T lf a m = (ks, at1)) (h2 : T at1 (lf - (sumN Fm.size ks : Nat)) = (f, at2)) : kidsG T lf a (m + 1) = (ks ++ [f], at2) := by
  rw [kidsG, h]; simp only []; rw [h2]
abbrev TreeQ (w : World) (g : Nat) (l : List Int) (vl : Value) (at' cl lf : Int) (d : Nat) : Ending → World → Prop := TreeP w g vl at' cl lf fun f a2 => (SzP lf f.size ∧ f.deep ≤ max 1 (d + 1)) ∧ Hid (treeF l cl d at' lf = (f, a2))
theorem sumN_app (ks : List Fm) (f : Fm) : sumN Fm.size (ks ++ [f]) = sumN Fm.size ks + f.size := by
  induction ks with
  | nil => simp [sumN]
  | cons x xs ih => simp only [List.cons_append, sumN, ih]; omega
theorem whole_ao {cl op : Int} {ks : List Fm} (h : 4 ≤ op ∧ op ≤ 5) (hk : ∀ x ∈ ks, wholeN cl x = true) : wholeN cl (.mk op 0 [] ks) = true := by
  have hf : formed1 (.mk op 0 [] ks) = true := by
    rcases (show op = 4 ∨ op = 5 by omega) with rfl | rfl <;> simp [formed1, Fm.op, Fm.n, Fm.inn, Fm.kids]
  rw [wholeN_eq, hf, Bool.true_and]
  have h1 : ¬ op = 1 := by omega
  simpa [Fm.kids, Fm.op, h1] using hk
set_option maxRecDepth 100000 in
set_option maxHeartbeats 8000000 in
theorem tree_c {Hl : PH} (l : List Int) (vl : Value) (g : Nat) (cl : Int) (hr : IntsR Hl vl l) (hg : Hl g = none) (hc0 : 0 < cl) (hc1 : cl ≤ 64) (d : Nat) : d ≤ 7 → ∀ (at' lf : Int) (w : World), PLe Hl (ph w) → Own w g (mkA vl at' cl lf) 77 → 0 ≤ at' → at' + 4 * lf ≤ 400000 → -1000 ≤ lf → lf ≤ 100 →
    Calls Tryz.prog 48 #[.pointer (some ⟨g, 0, none⟩), .int .i64 ((d : Int) + 1)] w (TreeQ w g l vl at' cl lf d) := by
  obtain ⟨xa, xc, rfl, hll, hr⟩ := hr.form
  induction d using Nat.strongRecOn with
  | ind d ih =>
    intro hd at' lf w hl ho h0 h1 h2 h3
    obtain ⟨kc, kf⟩ := ho.facts
    have k3 : _ = some (Value.int .i64 lf) := kc 3
    have f3 := kf 3
    have hgl := ho.lt
    have hG0 := ((MemG.start ho).set 3 (.int .i64 (lf - 1))).step (fun w0 _ m => m.new' zeroFa 29 (n := w.heap.size) (by simp))
    simp only [List.setIfInBounds_toArray, List.set_cons_succ, List.set_cons_zero, List.nil_append] at hG0
    have hgg : w.grownBy (w.setCell ⟨g, 3, none⟩ (.int .i64 (lf - 1))) (some g) := ⟨rfl, rfl, rfl, by simp, fun k hk hn => Below.heap_setCell _ _ _ _ (fun e => hn (by rw [e]))⟩
    have hl0 := (hl.grownG hgg hg).trans (Ext.ple (Ext.new _ (.cells zeroFa 29)))
    clear kc kf hgg
    go_enter Tryz.func48, Tryz.ntmps48
    go_wp2_with fail
    generalize (w.setCell _ _).alloc _ = W at *
    clear k3 f3 hgl
    refine (next_c l _ g at' cl (lf - 1) 14 W hl0 hr hg hG0.own h0 (by omega) (by omega) (by omega)).mono ?_
    rintro e w1 ⟨k, rfl, hkv, hk0, hk1, hgr, ho1⟩
    replace hkv := Lib.hid hkv
    have hG1 := hG0.call hgr ho1
    have hl1 := hl0.grownG hgr hg
    clear hG0 hl0 hgr
    obtain ⟨kc, -⟩ := ho1.facts
    have k0 : _ = some (Value.slice xa l.length xc) := kc 0
    have k1 : _ = some (Value.int .i64 (at' + 1)) := kc 1
    have k3 : _ = some (Value.int .i64 (lf - 1)) := kc 3
    have hgl := ho1.lt
    clear kc
    generalize up noH W w1 = H1 at hG1
    replace ih := Lib.hid ih
    by_cases d1 : d = 0
    · have hdj : Hid (treeF l cl d at' lf = leafF l cl (at' + 1)) := Lib.hid (treeF_leaf (Or.inl d1))
      subst d1
      skip
      go_wp2_with fail
      (refine wp_region_I 25 (by kernel_rfl) (by kernel_rfl) ?_; simp only [List.toList_toArray, List.take_succ_cons, List.take_zero, List.drop_succ_cons, List.drop_zero])
      (repeat (first | (refine walkI_no rfl (by simp) rfl rfl rfl ?_ ?_; (focus (simp [undef]; done)); (try simp only [List.nil_append, List.cons_append])) | (refine walkI_is (u := ?_) rfl (by simp) rfl ?_ ?_; rotate_left; (focus (intro A w' hS hA K hK; (simp only [List.map_cons, List.map_nil, knows, Is, Op.operands, Call.operands, List.lookup_cons, List.lookup_nil, Nat.reduceBEq, Bool.false_eq_true, if_false, if_true, Act.eval, Array.getD_eq_getD_getElem?, List.getElem?_toArray, List.getElem?_cons_succ, List.getElem?_cons_zero, Option.getD_some, and_true, true_and, List.append_toArray, List.nil_append, List.cons_append, List.toList_toArray, Array.toList_append, Option.toArray, List.append_nil] at hA); (obtain ⟨hSc, hSf, hSs⟩ := hS.cells; go_simp; exact hK _ xN))); (try simp only [List.nil_append, List.cons_append])) | (refine walkI_yesis (u := ?_) rfl (by simp) rfl rfl rfl ?_ ?_; rotate_left; (focus (intro A w' hS hA K hK; (simp only [List.map_cons, List.map_nil, knows, Is, Op.operands, Call.operands, List.lookup_cons, List.lookup_nil, Nat.reduceBEq, Bool.false_eq_true, if_false, if_true, Act.eval, Array.getD_eq_getD_getElem?, List.getElem?_toArray, List.getElem?_cons_succ, List.getElem?_cons_zero, Option.getD_some, and_true, true_and, List.append_toArray, List.nil_append, List.cons_append, List.toList_toArray, Array.toList_append, Option.toArray, List.append_nil] at hA); (obtain ⟨hSc, hSf, hSs⟩ := hS.cells; go_simp; exact hK _ xN))); (try simp only [List.nil_append, List.cons_append]))))
      (refine walkI_nil ?_; simp only [List.nil_append, List.cons_append, fins, Is, forall_eq, Act.put, List.setIfInBounds_toArray, List.set_cons_zero, List.set_cons_succ])
      intro w2 hx2
      have hG2 := hG1.step (fun w0 _ m => m.ext hx2)
      have ho2 := ho1.keep hx2
      go_wp2_with fail
      refine (leaf_c l _ g (at' + 1) cl (lf - 1) w2 (hl1.trans hx2.ple) hr hg ho2 (by omega) (by omega) hc0 hc1).mono ?_
      rintro e w3 ⟨f, a3, c3, at2, rfl, hF, hwf, hkd, hgr, ho3, g1, g2, g3⟩
      replace g3 := Lib.hid g3
      have hG3 := hG2.call hgr ho3
      have hF3 := mono_FmR _ _ _ _ (up_mono (noH_le H1)) hF
      have ob := hG3.box 0 rfl
      obtain ⟨uc, uf⟩ := ob.facts
      have ul := ob.lt
      have q0' : _ = some (Value.int .i64 0) := uc 0
      have q1' : _ = some (Value.int .i64 0) := uc 1
      have q2' : _ = some (Value.slice none 0 0) := uc 2
      have q3' : _ = some (Value.slice none 0 0) := uc 3
      have hG4 := hG3.set4 0 rfl (.int .i64 f.op) (.int .i64 f.n) (.slice a3 f.inn.length c3) (.slice none 0 0)
      simp only [List.set_cons_zero] at hG4
      have hkl : f.kids.length = 0 := by rw [hkd]; rfl
      have hsz := size_leaf' hkd
      have hdp := deep_leaf hkd
      clear uc hG1 hG2 hG3
      go_wp2_with fail
      generalize ((((w3.setCell _ _).setCell _ _).setCell _ _).setCell _ _) = w9 at *
      obtain ⟨q, -⟩ := (hG4.box 0 rfl).facts
      have q0 : _ = some (Value.int .i64 f.op) := q 0
      have q1 : _ = some (Value.int .i64 f.n) := q 1
      have q2 : _ = some (Value.slice a3 f.inn.length c3) := q 2
      have q3 : _ = some (Value.slice none 0 0) := q 3
      refine bodyPost_ret (v := .agg #[.int .i64 f.op, .int .i64 f.n, .slice a3 f.inn.length c3, .slice none 0 0]) (by simp [results, Tryz.results48, go_sem, q0, q1, q2, q3]) rfl ?_
      exact ⟨f, a3, c3, none, 0, at2, by rw [fmV, hkl], mono_FmR _ _ _ _ hG4.ub (by have h := hF3; unfold fmC at h ⊢; rw [hkl] at h ⊢; exact h), hwf, ⟨⟨by rw [hsz]; exact szP_1 _, by omega⟩, Lib.hid (by rw [hdj.out]; exact g3.out)⟩, hG4.grown, by rw [hsz]; exact hG4.own, by omega, by omega⟩
    have b1 : decide ((d : Int) + 1 ≤ 1) = false := by simp; omega
    by_cases c2 : lf - 1 < 3
    · have hdj : Hid (treeF l cl d at' lf = leafF l cl (at' + 1)) := Lib.hid (treeF_leaf (Or.inr (Or.inl c2)))
      have b2 : decide (lf - 1 < 3) = true := by simpa using c2
      skip
      go_wp2_with fail
      (refine wp_region_I 25 (by kernel_rfl) (by kernel_rfl) ?_; simp only [List.toList_toArray, List.take_succ_cons, List.take_zero, List.drop_succ_cons, List.drop_zero])
      (repeat (first | (refine walkI_no rfl (by simp) rfl rfl rfl ?_ ?_; (focus (simp [undef]; done)); (try simp only [List.nil_append, List.cons_append])) | (refine walkI_is (u := ?_) rfl (by simp) rfl ?_ ?_; rotate_left; (focus (intro A w' hS hA K hK; (simp only [List.map_cons, List.map_nil, knows, Is, Op.operands, Call.operands, List.lookup_cons, List.lookup_nil, Nat.reduceBEq, Bool.false_eq_true, if_false, if_true, Act.eval, Array.getD_eq_getD_getElem?, List.getElem?_toArray, List.getElem?_cons_succ, List.getElem?_cons_zero, Option.getD_some, and_true, true_and, List.append_toArray, List.nil_append, List.cons_append, List.toList_toArray, Array.toList_append, Option.toArray, List.append_nil] at hA); (obtain ⟨hSc, hSf, hSs⟩ := hS.cells; go_simp; exact hK _ xN))); (try simp only [List.nil_append, List.cons_append])) | (refine walkI_yesis (u := ?_) rfl (by simp) rfl rfl rfl ?_ ?_; rotate_left; (focus (intro A w' hS hA K hK; (simp only [List.map_cons, List.map_nil, knows, Is, Op.operands, Call.operands, List.lookup_cons, List.lookup_nil, Nat.reduceBEq, Bool.false_eq_true, if_false, if_true, Act.eval, Array.getD_eq_getD_getElem?, List.getElem?_toArray, List.getElem?_cons_succ, List.getElem?_cons_zero, Option.getD_some, and_true, true_and, List.append_toArray, List.nil_append, List.cons_append, List.toList_toArray, Array.toList_append, Option.toArray, List.append_nil] at hA); (obtain ⟨hSc, hSf, hSs⟩ := hS.cells; go_simp; exact hK _ xN))); (try simp only [List.nil_append, List.cons_append]))))
      (refine walkI_nil ?_; simp only [List.nil_append, List.cons_append, fins, Is, forall_eq, Act.put, List.setIfInBounds_toArray, List.set_cons_zero, List.set_cons_succ])
      intro w2 hx2
      have hG2 := hG1.step (fun w0 _ m => m.ext hx2)
      have ho2 := ho1.keep hx2
      go_wp2_with fail
      refine (leaf_c l _ g (at' + 1) cl (lf - 1) w2 (hl1.trans hx2.ple) hr hg ho2 (by omega) (by omega) hc0 hc1).mono ?_
      rintro e w3 ⟨f, a3, c3, at2, rfl, hF, hwf, hkd, hgr, ho3, g1, g2, g3⟩
      replace g3 := Lib.hid g3
      have hG3 := hG2.call hgr ho3
      have hF3 := mono_FmR _ _ _ _ (up_mono (noH_le H1)) hF
      have ob := hG3.box 0 rfl
      obtain ⟨uc, uf⟩ := ob.facts
      have ul := ob.lt
      have q0' : _ = some (Value.int .i64 0) := uc 0
      have q1' : _ = some (Value.int .i64 0) := uc 1
      have q2' : _ = some (Value.slice none 0 0) := uc 2
      have q3' : _ = some (Value.slice none 0 0) := uc 3
      have hG4 := hG3.set4 0 rfl (.int .i64 f.op) (.int .i64 f.n) (.slice a3 f.inn.length c3) (.slice none 0 0)
      simp only [List.set_cons_zero] at hG4
      have hkl : f.kids.length = 0 := by rw [hkd]; rfl
      have hsz := size_leaf' hkd
      have hdp := deep_leaf hkd
      clear uc hG1 hG2 hG3
      go_wp2_with fail
      generalize ((((w3.setCell _ _).setCell _ _).setCell _ _).setCell _ _) = w9 at *
      obtain ⟨q, -⟩ := (hG4.box 0 rfl).facts
      have q0 : _ = some (Value.int .i64 f.op) := q 0
      have q1 : _ = some (Value.int .i64 f.n) := q 1
      have q2 : _ = some (Value.slice a3 f.inn.length c3) := q 2
      have q3 : _ = some (Value.slice none 0 0) := q 3
      refine bodyPost_ret (v := .agg #[.int .i64 f.op, .int .i64 f.n, .slice a3 f.inn.length c3, .slice none 0 0]) (by simp [results, Tryz.results48, go_sem, q0, q1, q2, q3]) rfl ?_
      exact ⟨f, a3, c3, none, 0, at2, by rw [fmV, hkl], mono_FmR _ _ _ _ hG4.ub (by have h := hF3; unfold fmC at h ⊢; rw [hkl] at h ⊢; exact h), hwf, ⟨⟨by rw [hsz]; exact szP_1 _, by omega⟩, Lib.hid (by rw [hdj.out]; exact g3.out)⟩, hG4.grown, by rw [hsz]; exact hG4.own, by omega, by omega⟩
    have b2 : decide (lf - 1 < 3) = false := by simpa using c2
    by_cases c3 : (l.length : Int) < at' + 1
    · have hdj : Hid (treeF l cl d at' lf = leafF l cl (at' + 1)) := Lib.hid (treeF_leaf (Or.inr (Or.inr (Or.inl c3))))
      have b3 : decide ((l.length : Int) < at' + 1) = true := by simpa using c3
      skip
      go_wp2_with fail
      (refine wp_region_I 25 (by kernel_rfl) (by kernel_rfl) ?_; simp only [List.toList_toArray, List.take_succ_cons, List.take_zero, List.drop_succ_cons, List.drop_zero])
      (repeat (first | (refine walkI_no rfl (by simp) rfl rfl rfl ?_ ?_; (focus (simp [undef]; done)); (try simp only [List.nil_append, List.cons_append])) | (refine walkI_is (u := ?_) rfl (by simp) rfl ?_ ?_; rotate_left; (focus (intro A w' hS hA K hK; (simp only [List.map_cons, List.map_nil, knows, Is, Op.operands, Call.operands, List.lookup_cons, List.lookup_nil, Nat.reduceBEq, Bool.false_eq_true, if_false, if_true, Act.eval, Array.getD_eq_getD_getElem?, List.getElem?_toArray, List.getElem?_cons_succ, List.getElem?_cons_zero, Option.getD_some, and_true, true_and, List.append_toArray, List.nil_append, List.cons_append, List.toList_toArray, Array.toList_append, Option.toArray, List.append_nil] at hA); (obtain ⟨hSc, hSf, hSs⟩ := hS.cells; go_simp; exact hK _ xN))); (try simp only [List.nil_append, List.cons_append])) | (refine walkI_yesis (u := ?_) rfl (by simp) rfl rfl rfl ?_ ?_; rotate_left; (focus (intro A w' hS hA K hK; (simp only [List.map_cons, List.map_nil, knows, Is, Op.operands, Call.operands, List.lookup_cons, List.lookup_nil, Nat.reduceBEq, Bool.false_eq_true, if_false, if_true, Act.eval, Array.getD_eq_getD_getElem?, List.getElem?_toArray, List.getElem?_cons_succ, List.getElem?_cons_zero, Option.getD_some, and_true, true_and, List.append_toArray, List.nil_append, List.cons_append, List.toList_toArray, Array.toList_append, Option.toArray, List.append_nil] at hA); (obtain ⟨hSc, hSf, hSs⟩ := hS.cells; go_simp; exact hK _ xN))); (try simp only [List.nil_append, List.cons_append]))))
      (refine walkI_nil ?_; simp only [List.nil_append, List.cons_append, fins, Is, forall_eq, Act.put, List.setIfInBounds_toArray, List.set_cons_zero, List.set_cons_succ])
      intro w2 hx2
      have hG2 := hG1.step (fun w0 _ m => m.ext hx2)
      have ho2 := ho1.keep hx2
      go_wp2_with fail
      refine (leaf_c l _ g (at' + 1) cl (lf - 1) w2 (hl1.trans hx2.ple) hr hg ho2 (by omega) (by omega) hc0 hc1).mono ?_
      rintro e w3 ⟨f, a3, c3, at2, rfl, hF, hwf, hkd, hgr, ho3, g1, g2, g3⟩
      replace g3 := Lib.hid g3
      have hG3 := hG2.call hgr ho3
      have hF3 := mono_FmR _ _ _ _ (up_mono (noH_le H1)) hF
      have ob := hG3.box 0 rfl
      obtain ⟨uc, uf⟩ := ob.facts
      have ul := ob.lt
      have q0' : _ = some (Value.int .i64 0) := uc 0
      have q1' : _ = some (Value.int .i64 0) := uc 1
      have q2' : _ = some (Value.slice none 0 0) := uc 2
      have q3' : _ = some (Value.slice none 0 0) := uc 3
      have hG4 := hG3.set4 0 rfl (.int .i64 f.op) (.int .i64 f.n) (.slice a3 f.inn.length c3) (.slice none 0 0)
      simp only [List.set_cons_zero] at hG4
      have hkl : f.kids.length = 0 := by rw [hkd]; rfl
      have hsz := size_leaf' hkd
      have hdp := deep_leaf hkd
      clear uc hG1 hG2 hG3
      go_wp2_with fail
      generalize ((((w3.setCell _ _).setCell _ _).setCell _ _).setCell _ _) = w9 at *
      obtain ⟨q, -⟩ := (hG4.box 0 rfl).facts
      have q0 : _ = some (Value.int .i64 f.op) := q 0
      have q1 : _ = some (Value.int .i64 f.n) := q 1
      have q2 : _ = some (Value.slice a3 f.inn.length c3) := q 2
      have q3 : _ = some (Value.slice none 0 0) := q 3
      refine bodyPost_ret (v := .agg #[.int .i64 f.op, .int .i64 f.n, .slice a3 f.inn.length c3, .slice none 0 0]) (by simp [results, Tryz.results48, go_sem, q0, q1, q2, q3]) rfl ?_
      exact ⟨f, a3, c3, none, 0, at2, by rw [fmV, hkl], mono_FmR _ _ _ _ hG4.ub (by have h := hF3; unfold fmC at h ⊢; rw [hkl] at h ⊢; exact h), hwf, ⟨⟨by rw [hsz]; exact szP_1 _, by omega⟩, Lib.hid (by rw [hdj.out]; exact g3.out)⟩, hG4.grown, by rw [hsz]; exact hG4.own, by omega, by omega⟩
    have b3 : decide ((l.length : Int) < at' + 1) = false := by simpa using c3
    by_cases c4 : k < 3
    · have hdj : Hid (treeF l cl d at' lf = leafF l cl (at' + 1)) := Lib.hid (treeF_leaf (Or.inr (Or.inr (Or.inr (by rw [← hkv.out]; exact c4)))))
      have b4 : decide (k < 3) = true := by simpa using c4
      skip
      go_wp2_with fail
      (refine wp_region_I 25 (by kernel_rfl) (by kernel_rfl) ?_; simp only [List.toList_toArray, List.take_succ_cons, List.take_zero, List.drop_succ_cons, List.drop_zero])
      (repeat (first | (refine walkI_no rfl (by simp) rfl rfl rfl ?_ ?_; (focus (simp [undef]; done)); (try simp only [List.nil_append, List.cons_append])) | (refine walkI_is (u := ?_) rfl (by simp) rfl ?_ ?_; rotate_left; (focus (intro A w' hS hA K hK; (simp only [List.map_cons, List.map_nil, knows, Is, Op.operands, Call.operands, List.lookup_cons, List.lookup_nil, Nat.reduceBEq, Bool.false_eq_true, if_false, if_true, Act.eval, Array.getD_eq_getD_getElem?, List.getElem?_toArray, List.getElem?_cons_succ, List.getElem?_cons_zero, Option.getD_some, and_true, true_and, List.append_toArray, List.nil_append, List.cons_append, List.toList_toArray, Array.toList_append, Option.toArray, List.append_nil] at hA); (obtain ⟨hSc, hSf, hSs⟩ := hS.cells; go_simp; exact hK _ xN))); (try simp only [List.nil_append, List.cons_append])) | (refine walkI_yesis (u := ?_) rfl (by simp) rfl rfl rfl ?_ ?_; rotate_left; (focus (intro A w' hS hA K hK; (simp only [List.map_cons, List.map_nil, knows, Is, Op.operands, Call.operands, List.lookup_cons, List.lookup_nil, Nat.reduceBEq, Bool.false_eq_true, if_false, if_true, Act.eval, Array.getD_eq_getD_getElem?, List.getElem?_toArray, List.getElem?_cons_succ, List.getElem?_cons_zero, Option.getD_some, and_true, true_and, List.append_toArray, List.nil_append, List.cons_append, List.toList_toArray, Array.toList_append, Option.toArray, List.append_nil] at hA); (obtain ⟨hSc, hSf, hSs⟩ := hS.cells; go_simp; exact hK _ xN))); (try simp only [List.nil_append, List.cons_append]))))
      (refine walkI_nil ?_; simp only [List.nil_append, List.cons_append, fins, Is, forall_eq, Act.put, List.setIfInBounds_toArray, List.set_cons_zero, List.set_cons_succ])
      intro w2 hx2
      have hG2 := hG1.step (fun w0 _ m => m.ext hx2)
      have ho2 := ho1.keep hx2
      go_wp2_with fail
      refine (leaf_c l _ g (at' + 1) cl (lf - 1) w2 (hl1.trans hx2.ple) hr hg ho2 (by omega) (by omega) hc0 hc1).mono ?_
      rintro e w3 ⟨f, a3, c3, at2, rfl, hF, hwf, hkd, hgr, ho3, g1, g2, g3⟩
      replace g3 := Lib.hid g3
      have hG3 := hG2.call hgr ho3
      have hF3 := mono_FmR _ _ _ _ (up_mono (noH_le H1)) hF
      have ob := hG3.box 0 rfl
      obtain ⟨uc, uf⟩ := ob.facts
      have ul := ob.lt
      have q0' : _ = some (Value.int .i64 0) := uc 0
      have q1' : _ = some (Value.int .i64 0) := uc 1
      have q2' : _ = some (Value.slice none 0 0) := uc 2
      have q3' : _ = some (Value.slice none 0 0) := uc 3
      have hG4 := hG3.set4 0 rfl (.int .i64 f.op) (.int .i64 f.n) (.slice a3 f.inn.length c3) (.slice none 0 0)
      simp only [List.set_cons_zero] at hG4
      have hkl : f.kids.length = 0 := by rw [hkd]; rfl
      have hsz := size_leaf' hkd
      have hdp := deep_leaf hkd
      clear uc hG1 hG2 hG3
      go_wp2_with fail
      generalize ((((w3.setCell _ _).setCell _ _).setCell _ _).setCell _ _) = w9 at *
      obtain ⟨q, -⟩ := (hG4.box 0 rfl).facts
      have q0 : _ = some (Value.int .i64 f.op) := q 0
      have q1 : _ = some (Value.int .i64 f.n) := q 1
      have q2 : _ = some (Value.slice a3 f.inn.length c3) := q 2
      have q3 : _ = some (Value.slice none 0 0) := q 3
      refine bodyPost_ret (v := .agg #[.int .i64 f.op, .int .i64 f.n, .slice a3 f.inn.length c3, .slice none 0 0]) (by simp [results, Tryz.results48, go_sem, q0, q1, q2, q3]) rfl ?_
      exact ⟨f, a3, c3, none, 0, at2, by rw [fmV, hkl], mono_FmR _ _ _ _ hG4.ub (by have h := hF3; unfold fmC at h ⊢; rw [hkl] at h ⊢; exact h), hwf, ⟨⟨by rw [hsz]; exact szP_1 _, by omega⟩, Lib.hid (by rw [hdj.out]; exact g3.out)⟩, hG4.grown, by rw [hsz]; exact hG4.own, by omega, by omega⟩
    have b4 : decide (k < 3) = false := by simpa using c4
    go_wp2_with fail
    (refine wp_region_I 25 (by kernel_rfl) (by kernel_rfl) ?_; simp only [List.toList_toArray, List.take_succ_cons, List.take_zero, List.drop_succ_cons, List.drop_zero])
    (repeat (first | (refine walkI_no rfl (by simp) rfl rfl rfl ?_ ?_; (focus (simp [undef]; done)); (try simp only [List.nil_append, List.cons_append])) | (refine walkI_is (u := ?_) rfl (by simp) rfl ?_ ?_; rotate_left; (focus (intro A w' hS hA K hK; (simp only [List.map_cons, List.map_nil, knows, Is, Op.operands, Call.operands, List.lookup_cons, List.lookup_nil, Nat.reduceBEq, Bool.false_eq_true, if_false, if_true, Act.eval, Array.getD_eq_getD_getElem?, List.getElem?_toArray, List.getElem?_cons_succ, List.getElem?_cons_zero, Option.getD_some, and_true, true_and, List.append_toArray, List.nil_append, List.cons_append, List.toList_toArray, Array.toList_append, Option.toArray, List.append_nil] at hA); (obtain ⟨hSc, hSf, hSs⟩ := hS.cells; go_simp; exact hK _ xN))); (try simp only [List.nil_append, List.cons_append])) | (refine walkI_yesis (u := ?_) rfl (by simp) rfl rfl rfl ?_ ?_; rotate_left; (focus (intro A w' hS hA K hK; (simp only [List.map_cons, List.map_nil, knows, Is, Op.operands, Call.operands, List.lookup_cons, List.lookup_nil, Nat.reduceBEq, Bool.false_eq_true, if_false, if_true, Act.eval, Array.getD_eq_getD_getElem?, List.getElem?_toArray, List.getElem?_cons_succ, List.getElem?_cons_zero, Option.getD_some, and_true, true_and, List.append_toArray, List.nil_append, List.cons_append, List.toList_toArray, Array.toList_append, Option.toArray, List.append_nil] at hA); (obtain ⟨hSc, hSf, hSs⟩ := hS.cells; go_simp; exact hK _ xN))); (try simp only [List.nil_append, List.cons_append]))))
    (refine walkI_nil ?_; simp only [List.nil_append, List.cons_append, fins, Is, forall_eq, Act.put, List.setIfInBounds_toArray, List.set_cons_zero, List.set_cons_succ])
    intro w2 hx2
    have hG2 := hG1.step (fun w0 _ m => m.ext hx2)
    have ho2 := ho1.keep hx2
    have hl2 := hl1.trans hx2.ple
    clear hG1 ho1 hl1 k0 k1 k3 hgl b1 b2 b3 b4 hx2
    obtain ⟨e, rfl⟩ : ∃ e, d = e + 1 := ⟨d - 1, by omega⟩
    by_cases k5 : k < 5
    · have b5 : decide (k < 5) = true := by simpa using k5
      go_wp2_with fail
      refine (ih.out e (by omega) (by omega) (at' + 1) (lf - 1) w2 hl2 ho2 (by omega) (by omega) (by omega) (by omega)).mono ?_
      rintro e' w3 ⟨f, a3, c3, a4, c4, at2, rfl, hF, hwf, ⟨⟨hs, hdp⟩, htr⟩, hgr, ho3, g1, g2⟩
      have hG3 := hG2.call hgr ho3
      have hF3 := mono_FmR _ _ _ _ (up_mono (noH_le H1)) hF
      generalize up H1 w2 w3 = H3 at *
      have ob := hG3.box 0 rfl
      obtain ⟨uc, uf⟩ := ob.facts
      have ul := ob.lt
      have q0' : _ = some (Value.int .i64 0) := uc 0
      have q1' : _ = some (Value.int .i64 0) := uc 1
      have q2' : _ = some (Value.slice none 0 0) := uc 2
      have q3' : _ = some (Value.slice none 0 0) := uc 3
      clear uc
      have hG4 := (hG3.set4 0 rfl (.int .i64 3) (.int .i64 0) (.slice none 0 0) (.slice (some ⟨w3.heap.size, 0, none⟩) 1 1)).step (fun w0 _ m => m.new' #[.int .i64 f.op, .int .i64 f.n, .slice a3 f.inn.length c3, .slice a4 f.kids.length c4] 29 (n := w3.heap.size) (by simp))
      simp only [List.set_cons_zero, List.cons_append, List.nil_append] at hG4
      have hG5 := hG4.step (fun w0 _ m => m.asOwn 1 rfl mono_FmR (sz := 4) (xs := [f]) (n := 1) (by simp) (by simp [maxLen]) rfl ⟨_, [], rfl, rfl, hF3, rfl⟩)
      simp only [List.set_cons_zero, List.set_cons_succ] at hG5
      obtain ⟨H6, hl6, hG6, hR6⟩ := hG5.freezeS 1 rfl
      simp only [List.set_cons_zero, List.set_cons_succ] at hG6
      clear hG3 hG4 hG5
      go_wp2_with fail
      generalize World.alloc _ _ = w9 at *
      obtain ⟨q, -⟩ := (hG6.box 0 rfl).facts
      have q0 : _ = some (Value.int .i64 3) := q 0
      have q1 : _ = some (Value.int .i64 0) := q 1
      have q2 : _ = some (Value.slice none 0 0) := q 2
      have q3 : _ = some (Value.slice (some ⟨w3.heap.size, 0, none⟩) 1 1) := q 3
      refine bodyPost_ret (v := .agg #[.int .i64 3, .int .i64 0, .slice none 0 0, .slice (some ⟨w3.heap.size, 0, none⟩) 1 1]) (by simp [results, Tryz.results48, go_sem, q0, q1, q2, q3]) rfl ?_
      refine ⟨.mk 3 0 [] [f], none, 0, some ⟨w3.heap.size, 0, none⟩, 1, at2, rfl, mono_FmR _ _ _ _ hG6.ub (FmR.of (by simp [Fm.op, I64]) (by simp [Fm.n, I64]) (SliceRep.nil _ _ _) hR6), by rw [wholeN_eq]; simp [Fm.kids, Fm.op, hwf, formed1_mk], ⟨⟨?_, ?_⟩, Lib.hid (treeF_3 hkv.out (by omega) (by omega) (by omega) (by omega) htr.out)⟩, hG6.grown, ?_, by omega, ?_⟩
      · rw [size_mk]; simp only [sumN]; unfold SzP at *; omega
      · rw [deep_mk]; simp only [maxN]; omega
      · rw [size_mk]; simp only [sumN]; have h := hG6.own; rwa [show lf - ((1 + (f.size + 0) : Nat) : Int) = lf - 1 - f.size by omega]
      · rw [size_mk]; simp only [sumN]; omega
    have b5 : decide (k < 5) = false := by simpa using k5
    by_cases k7 : k < 7
    · have b7 : decide (k < 7) = true := by simpa using k7
      go_wp2_with fail
      refine (ih.out e (by omega) (by omega) (at' + 1) (lf - 1) w2 hl2 ho2 (by omega) (by omega) (by omega) (by omega)).mono ?_
      rintro e' w3 ⟨f, a3, c3, a4, c4, at2, rfl, hF, hwf, ⟨⟨hs, hdp⟩, htr⟩, hgr, ho3, g1, g2⟩
      have hG3 := hG2.call hgr ho3
      have hF3 := mono_FmR _ _ _ _ (up_mono (noH_le H1)) hF
      generalize up H1 w2 w3 = H3 at *
      go_wp2_with fail
      refine (not7_c f a3 c3 a4 c4 w3 hG3.ple hF3).mono ?_
      rintro e' w4 ⟨bb, rfl, hx4, hF4⟩
      replace hG3 := hG3.step (fun w0 _ m => m.up hx4)
      have ob := hG3.box 0 rfl
      obtain ⟨uc, uf⟩ := ob.facts
      have ul := ob.lt
      have q0' : _ = some (Value.int .i64 0) := uc 0
      have q1' : _ = some (Value.int .i64 0) := uc 1
      have q2' : _ = some (Value.slice none 0 0) := uc 2
      have q3' : _ = some (Value.slice none 0 0) := uc 3
      clear uc
      have hG6 := hG3.set4 0 rfl (.int .i64 6) (.int .i64 0) (.slice none 0 0) (.slice (some ⟨bb, 0, none⟩) 1 1)
      simp only [List.set_cons_zero] at hG6
      clear hG3
      go_wp2_with fail
      generalize World.setCell _ _ _ = w9 at *
      obtain ⟨q, -⟩ := (hG6.box 0 rfl).facts
      have q0 : _ = some (Value.int .i64 6) := q 0
      have q1 : _ = some (Value.int .i64 0) := q 1
      have q2 : _ = some (Value.slice none 0 0) := q 2
      have q3 : _ = some (Value.slice (some ⟨bb, 0, none⟩) 1 1) := q 3
      refine bodyPost_ret (v := .agg #[.int .i64 6, .int .i64 0, .slice none 0 0, .slice (some ⟨bb, 0, none⟩) 1 1]) (by simp [results, Tryz.results48, go_sem, q0, q1, q2, q3]) rfl ?_
      refine ⟨.mk 6 0 [] [f], none, 0, some ⟨bb, 0, none⟩, 1, at2, rfl, mono_FmR _ _ _ _ hG6.ub hF4, by rw [wholeN_eq]; simp [Fm.kids, Fm.op, hwf, formed1_mk], ⟨⟨?_, ?_⟩, Lib.hid (treeF_6 hkv.out (by omega) (by omega) (by omega) (by omega) (by omega) htr.out)⟩, hG6.grown, ?_, by omega, ?_⟩
      · rw [size_mk]; simp only [sumN]; unfold SzP at *; omega
      · rw [deep_mk]; simp only [maxN]; omega
      · rw [size_mk]; simp only [sumN]; have h := hG6.own; rwa [show lf - ((1 + (f.size + 0) : Nat) : Int) = lf - 1 - f.size by omega]
      · rw [size_mk]; simp only [sumN]; omega
    have b7 : decide (k < 7) = false := by simpa using k7
    have hop : 4 ≤ 4 + k % 2 ∧ 4 + k % 2 ≤ 5 := by omega
    have hG3 := ((hG2.step (fun w0 _ m => (m.new #[.int .i64 (4 + k % 2), .int .i64 0, .slice none 0 0, .slice none 0 0] 29))).step (fun w0 _ m => m.nil mono_FmR 4 29)).step (fun w0 _ m => m.ext (Ext.new _ (.cells #[.int .i64 2, .int .i64 2, .int .i64 2, .int .i64 3, .int .i64 1, .int .i64 0] 3)))
    simp only [List.cons_append, List.nil_append] at hG3
    have hli : Own ((w2.alloc (.cells #[.int .i64 (4 + k % 2), .int .i64 0, .slice none 0 0, .slice none 0 0] 29)).alloc (.cells #[.int .i64 2, .int .i64 2, .int .i64 2, .int .i64 3, .int .i64 1, .int .i64 0] 3)) (w2.heap.size + 1) #[.int .i64 2, .int .i64 2, .int .i64 2, .int .i64 3, .int .i64 1, .int .i64 0] 3 := oE
    have hl3 := hl2.trans (Ext.ple (show Ext w2 ((w2.alloc (.cells #[.int .i64 (4 + k % 2), .int .i64 0, .slice none 0 0, .slice none 0 0] 29)).alloc (.cells #[.int .i64 2, .int .i64 2, .int .i64 2, .int .i64 3, .int .i64 1, .int .i64 0] 3)) from xE))
    have hgw := hG2.lt
    have hgw2 := hG2.size
    clear hG2 ho2 hl2
    go_wp2_with fail
    generalize hB : w2.heap.size = B at *
    generalize World.alloc _ _ = W3 at *
    refine (next_c l _ g (at' + 1) cl (lf - 1) 6 W3 hl3 hr hg hG3.own (by omega) (by omega) (by omega) (by omega)).mono ?_
    rintro e' w5 ⟨qq, rfl, hqv, hq0, hq1, hgr, ho5⟩
    replace hqv := Lib.hid hqv
    have hG5 := hG3.call hgr ho5
    have hl5 := hl3.grownG hgr hg
    replace hli := hli.grown hgr (by intro hh; cases hh; omega)
    clear hG3 hl3 hgr ho5
    obtain ⟨j, rfl⟩ : ∃ j : Nat, qq = j := ⟨qq.toNat, by omega⟩
    obtain ⟨nv, hnv, hnj, hcn⟩ : ∃ nv : Nat, nv ≤ 3 ∧ Hid (nv = [2, 2, 2, 3, 1, 0].getD j 0) ∧ w5.cell? ⟨B + 1, j, none⟩ = some (.int .i64 nv) := by
      rw [hli.facts.1 j]
      match j, hq1 with
      | 0, _ => exact ⟨2, by omega, Lib.hid rfl, rfl⟩
      | 1, _ => exact ⟨2, by omega, Lib.hid rfl, rfl⟩
      | 2, _ => exact ⟨2, by omega, Lib.hid rfl, rfl⟩
      | 3, _ => exact ⟨3, by omega, Lib.hid rfl, rfl⟩
      | 4, _ => exact ⟨1, by omega, Lib.hid rfl, rfl⟩
      | 5, _ => exact ⟨0, by omega, Lib.hid rfl, rfl⟩
    have hcl := cell_lt hcn
    have hj6 : j < 6 := by omega
    clear hli hq0 hq1
    go_wp2_with fail
    go_loopw [8] (fun i wr => ∃ (m : Nat) (kv : Value) (H : PH) (ks : List Fm) (atm : Int), m ≤ nv ∧ i = .int .i64 m ∧ ks.length = m ∧ MemG w g (mkA (.slice xa l.length xc) atm cl (lf - 1 - (sumN Fm.size ks : Nat))) 77 [box w.heap.size zeroFa 29, box B #[.int .i64 (4 + k % 2), .int .i64 0, .slice none 0 0, kv] 29, own mono_FmR 4 29 kv ks] H wr ∧
      KsP lf m (sumN Fm.size ks) ∧ (∀ f ∈ ks, wholeN cl f = true ∧ f.deep ≤ max 1 (e + 1)) ∧ at' + 1 + 1 ≤ atm ∧ atm ≤ at' + 1 + 1 + 4 * (sumN Fm.size ks : Nat) ∧ PLe Hl (ph wr) ∧ Hid (kidsG (treeF l cl e) (lf - 1) (at' + 1 + 1) m = (ks, atm))) (fun i _ => nv - (intOf i).toNat)
    case atStart => exact ⟨0, _, _, [], at' + 1 + 1, Nat.zero_le _, rfl, rfl, by simpa [sumN] using hG5, by unfold KsP; simp [sumN], by simp, by omega, by simp [sumN], hl5, Lib.hid rfl⟩
    case round =>
      obtain ⟨m, kv, H, ks, atm, hm, rfl, hkl, hGm, hKs, hall, ha0, ha1, hlm, hkg⟩ := hrel
      replace hkl := Lib.hid hkl
      obtain ⟨ka, kk, rfl, -⟩ := hGm.form 2 rfl
      have hb := ksP_bd hKs (by omega) h3
      by_cases hlt : m < nv
      · obtain ⟨kc, kf⟩ := (hGm.box 1 rfl).facts
        have k3 : _ = some (Value.slice ka ks.length kk) := kc 3
        have f3 := kf 3
        have hgl := (hGm.box 1 rfl).lt
        clear kc kf hG5 hcn
        go_wp2_with fail
        refine wp_region_any (by kernel_rfl) ?_
        change wpAny _ _ _ _ _ _ _ (World.drew _)
        replace hGm := hGm.step (fun w0 _ m => m.ext (Ext.rfl' wr).drew')
        replace hlm : PLe Hl (ph wr.drew) := hlm
        have hwe : IntKind.i64.wrap ((e : Int) + 1) = (e : Int) + 1 := by rw [IntKind.wrap_i64]; omega
        (refine wpAny_take (i := 0) (v := ?_) rfl (by kernel_rfl) (by kernel_rfl) (by kernel_rfl) (fun _ _ _ h => h) (Or.inl ⟨by rfl, ?_⟩) ?_; rotate_left; (focus ((intro w; go_simp); try (with_reducible rfl))); (try simp only [Act.put, List.setIfInBounds_toArray, List.set_cons_zero, List.set_cons_succ]))
        (refine wpAny_take (i := 2) (v := ?_) rfl (by kernel_rfl) (by kernel_rfl) (by kernel_rfl) (fun _ _ _ h => h) (Or.inl ⟨by rfl, ?_⟩) ?_; rotate_left; (focus ((intro w; go_simp); try (with_reducible rfl))); (try simp only [Act.put, List.setIfInBounds_toArray, List.set_cons_zero, List.set_cons_succ]))
        (refine wpAny_take (i := 3) (v := ?_) rfl (by kernel_rfl) (by kernel_rfl) (by kernel_rfl) (fun _ _ _ h => h) (Or.inl ⟨by rfl, ?_⟩) ?_; rotate_left; (focus ((intro w; go_simp); try (with_reducible rfl))); (try simp only [Act.put, List.setIfInBounds_toArray, List.set_cons_zero, List.set_cons_succ]))
        (refine wpAny_take (i := 4) (v := ?_) rfl (by kernel_rfl) (by kernel_rfl) (by kernel_rfl) (fun _ _ _ h => h) (Or.inl ⟨by rfl, ?_⟩) ?_; rotate_left; (focus ((intro w; go_simp); try (with_reducible rfl))); (try simp only [Act.put, List.setIfInBounds_toArray, List.set_cons_zero, List.set_cons_succ]))
        refine wpAny_ready (rs := [1, 5]) (by kernel_rfl) (by simp) ?_
        refine AllReady.cons rfl (fun K hK => ?_) (AllReady.cons rfl (fun K hK => ?_) AllReady.nil)
        · go_simp
          refine hK _ _ ?_
          clear hK K
          refine wpAny_ready (rs := [5]) (by kernel_rfl) (by simp) ?_; refine AllReady.cons rfl (fun K hK => ?_) AllReady.nil
          go_simp
          refine (ih.out e (by omega) (by omega) atm (lf - 1 - (sumN Fm.size ks : Nat)) _ hlm hGm.own (by omega) (by omega) (by omega) (by omega)).mono ?_
          rintro e' w4 ⟨f, a3, c3, a4, c4, at2, rfl, hF, hwf, ⟨⟨hs, hdp⟩, htr⟩, hgr, ho4, g1, g2⟩
          refine hK _ _ ?_
          clear hK K
          replace hlm := hlm.grownG hgr hg
          replace hGm := hGm.call hgr ho4
          have hF4 := mono_FmR _ _ _ _ (up_mono (noH_le H)) hF
          generalize up H _ w4 = H4 at hGm hF4
          obtain ⟨kc, kf⟩ := (hGm.box 1 rfl).facts
          have k3 : _ = some (Value.slice ka ks.length kk) := kc 3
          have f3 := kf 3
          have hgl := (hGm.box 1 rfl).lt
          clear kc kf hgr ho4 hF
          (refine wpAny_ready (rs := [6]) (by kernel_rfl) (by simp) ?_; refine AllReady.cons rfl (fun K hK => ?_) AllReady.nil; go_simp; refine hK _ _ ?_; clear hK K)
          have hGa := hGm.step (fun w0 _ m => m.ext (Ext.new w4 (.cells #[.int .i64 f.op, .int .i64 f.n, .slice a3 f.inn.length c3, .slice a4 f.kids.length c4] 29)))
          have hS := Src.lit1 (E := FmR) (H := H4) (w := w4.alloc (.cells #[.int .i64 f.op, .int .i64 f.n, .slice a3 f.inn.length c3, .slice a4 f.kids.length c4] 29)) (b := w4.heap.size) (sz := 4) hF4 rfl (fun j => by rw [(Own.new w4 #[.int .i64 f.op, .int .i64 f.n, .slice a3 f.inn.length c3, .slice a4 f.kids.length c4] 29).facts.1 j]; simp [fmC])
          obtain ⟨w0, z1, z2, z3, z4, z5⟩ := hGa
          refine wpAny_ready (rs := [7]) (by kernel_rfl) (by simp) ?_; refine AllReady.cons rfl (fun K hK => ?_) AllReady.nil
          refine oper_append_M (hm := mono_FmR) (v := .slice ka ks.length kk) (xs := ks) (ys := [f]) 2 _ _ 23 rfl Tryz.underlying23 infoFm rfl rfl rfl z4 rfl hS one_FmR (by have := hkl.out; simp; omega) (by have := hkl.out; simp; omega) ?_
          intro v' w6 hM6 hgr6
          refine hK _ _ ?_
          clear hK K
          have hG6 := MemG.re z1 z2 z3 z4 z5 hM6
          try simp only [List.set_cons_succ, List.set_cons_zero] at hG6 hM6
          obtain ⟨na, nc, rfl, -⟩ := hM6.form 2 rfl
          clear z1 z3 z4 z5 hM6 hS hGm
          obtain ⟨uc, uf⟩ := (hG6.box 1 rfl).facts
          have uf3 := uf 3
          have uc3 : _ = some (Value.slice ka ks.length kk) := uc 3
          have ul := (hG6.box 1 rfl).lt
          have hG7 := hG6.step (fun w0 _ m => m.set 1 rfl 3 (.slice na (ks ++ [f]).length nc))
          simp only [List.set_cons_succ, List.set_cons_zero, List.setIfInBounds_toArray] at hG7
          have hl7 := hl.grownG hG7.grown hg
          rw [show (ks ++ [f]).length = ks.length + 1 by simp] at hG7 hl7
          clear uc uf hG6
          (refine wpAny_take (i := 8) (v := ?_) rfl (by kernel_rfl) (by kernel_rfl) (by kernel_rfl) (fun _ _ _ h => h) (Or.inl ⟨by rfl, ?_⟩) ?_; rotate_left; (focus ((intro w; go_simp); try (with_reducible rfl))); (try simp only [Act.put, List.setIfInBounds_toArray, List.set_cons_zero, List.set_cons_succ]))
          (refine wpAny_ready (rs := [9]) (by kernel_rfl) (by simp) ?_; refine AllReady.cons rfl (fun K hK => ?_) AllReady.nil; go_simp; refine hK _ _ ?_; clear hK K)
          refine wpAny_done (by kernel_rfl) ?_ _
          try simp only [List.getElem_toArray, List.getElem_cons_succ, List.getElem_cons_zero, Act.put, List.setIfInBounds_toArray, List.set_cons_zero, List.set_cons_succ]
          go_wp2_with fail
          go_roundw
          case rel =>
            have hsum : sumN Fm.size (ks ++ [f]) = sumN Fm.size ks + f.size := sumN_app ks f
            refine ⟨m + 1, .slice na (ks.length + 1) nc, H4, ks ++ [f], at2, by omega, by go_num, by simp [hkl.out], ?_, ?_, ?_, by omega, by omega, hl7, Lib.hid (kidsG_step hkg.out htr.out)⟩
            · rw [hsum]
              rwa [show lf - 1 - ((sumN Fm.size ks + f.size : Nat) : Int) = lf - 1 - (sumN Fm.size ks : Nat) - f.size by omega]
            · rw [hsum]; exact ksP_step hKs hs
            · intro x hx
              rcases List.mem_append.1 hx with hx | hx
              · exact hall x hx
              · rw [List.mem_singleton.1 hx]; exact ⟨hwf, hdp⟩
          case measure => simp [intOf]; omega
        · skip
          go_simp
          refine (ih.out e (by omega) (by omega) atm (lf - 1 - (sumN Fm.size ks : Nat)) _ hlm hGm.own (by omega) (by omega) (by omega) (by omega)).mono ?_
          rintro e' w4 ⟨f, a3, c3, a4, c4, at2, rfl, hF, hwf, ⟨⟨hs, hdp⟩, htr⟩, hgr, ho4, g1, g2⟩
          refine hK _ _ ?_
          clear hK K
          replace hlm := hlm.grownG hgr hg
          replace hGm := hGm.call hgr ho4
          have hF4 := mono_FmR _ _ _ _ (up_mono (noH_le H)) hF
          generalize up H _ w4 = H4 at hGm hF4
          obtain ⟨kc, kf⟩ := (hGm.box 1 rfl).facts
          have k3 : _ = some (Value.slice ka ks.length kk) := kc 3
          have f3 := kf 3
          have hgl := (hGm.box 1 rfl).lt
          clear kc kf hgr ho4 hF
          refine wpAny_ready (rs := [1, 6]) (by kernel_rfl) (by simp) ?_
          refine AllReady.cons rfl (fun K hK => ?_) (AllReady.cons rfl (fun K hK => ?_) AllReady.nil)
          · go_simp
            refine hK _ _ ?_
            clear hK K
            (refine wpAny_ready (rs := [6]) (by kernel_rfl) (by simp) ?_; refine AllReady.cons rfl (fun K hK => ?_) AllReady.nil; go_simp; refine hK _ _ ?_; clear hK K)
            have hGa := hGm.step (fun w0 _ m => m.ext (Ext.new w4 (.cells #[.int .i64 f.op, .int .i64 f.n, .slice a3 f.inn.length c3, .slice a4 f.kids.length c4] 29)))
            have hS := Src.lit1 (E := FmR) (H := H4) (w := w4.alloc (.cells #[.int .i64 f.op, .int .i64 f.n, .slice a3 f.inn.length c3, .slice a4 f.kids.length c4] 29)) (b := w4.heap.size) (sz := 4) hF4 rfl (fun j => by rw [(Own.new w4 #[.int .i64 f.op, .int .i64 f.n, .slice a3 f.inn.length c3, .slice a4 f.kids.length c4] 29).facts.1 j]; simp [fmC])
            obtain ⟨w0, z1, z2, z3, z4, z5⟩ := hGa
            refine wpAny_ready (rs := [7]) (by kernel_rfl) (by simp) ?_; refine AllReady.cons rfl (fun K hK => ?_) AllReady.nil
            refine oper_append_M (hm := mono_FmR) (v := .slice ka ks.length kk) (xs := ks) (ys := [f]) 2 _ _ 23 rfl Tryz.underlying23 infoFm rfl rfl rfl z4 rfl hS one_FmR (by have := hkl.out; simp; omega) (by have := hkl.out; simp; omega) ?_
            intro v' w6 hM6 hgr6
            refine hK _ _ ?_
            clear hK K
            have hG6 := MemG.re z1 z2 z3 z4 z5 hM6
            try simp only [List.set_cons_succ, List.set_cons_zero] at hG6 hM6
            obtain ⟨na, nc, rfl, -⟩ := hM6.form 2 rfl
            clear z1 z3 z4 z5 hM6 hS hGm
            obtain ⟨uc, uf⟩ := (hG6.box 1 rfl).facts
            have uf3 := uf 3
            have uc3 : _ = some (Value.slice ka ks.length kk) := uc 3
            have ul := (hG6.box 1 rfl).lt
            have hG7 := hG6.step (fun w0 _ m => m.set 1 rfl 3 (.slice na (ks ++ [f]).length nc))
            simp only [List.set_cons_succ, List.set_cons_zero, List.setIfInBounds_toArray] at hG7
            have hl7 := hl.grownG hG7.grown hg
            rw [show (ks ++ [f]).length = ks.length + 1 by simp] at hG7 hl7
            clear uc uf hG6
            (refine wpAny_take (i := 8) (v := ?_) rfl (by kernel_rfl) (by kernel_rfl) (by kernel_rfl) (fun _ _ _ h => h) (Or.inl ⟨by rfl, ?_⟩) ?_; rotate_left; (focus ((intro w; go_simp); try (with_reducible rfl))); (try simp only [Act.put, List.setIfInBounds_toArray, List.set_cons_zero, List.set_cons_succ]))
            (refine wpAny_ready (rs := [9]) (by kernel_rfl) (by simp) ?_; refine AllReady.cons rfl (fun K hK => ?_) AllReady.nil; go_simp; refine hK _ _ ?_; clear hK K)
            refine wpAny_done (by kernel_rfl) ?_ _
            try simp only [List.getElem_toArray, List.getElem_cons_succ, List.getElem_cons_zero, Act.put, List.setIfInBounds_toArray, List.set_cons_zero, List.set_cons_succ]
            go_wp2_with fail
            go_roundw
            case rel =>
              have hsum : sumN Fm.size (ks ++ [f]) = sumN Fm.size ks + f.size := sumN_app ks f
              refine ⟨m + 1, .slice na (ks.length + 1) nc, H4, ks ++ [f], at2, by omega, by go_num, by simp [hkl.out], ?_, ?_, ?_, by omega, by omega, hl7, Lib.hid (kidsG_step hkg.out htr.out)⟩
              · rw [hsum]
                rwa [show lf - 1 - ((sumN Fm.size ks + f.size : Nat) : Int) = lf - 1 - (sumN Fm.size ks : Nat) - f.size by omega]
              · rw [hsum]; exact ksP_step hKs hs
              · intro x hx
                rcases List.mem_append.1 hx with hx | hx
                · exact hall x hx
                · rw [List.mem_singleton.1 hx]; exact ⟨hwf, hdp⟩
            case measure => simp [intOf]; omega
          · go_simp
            refine hK _ _ ?_
            clear hK K
            (refine wpAny_ready (rs := [1]) (by kernel_rfl) (by simp) ?_; refine AllReady.cons rfl (fun K hK => ?_) AllReady.nil; go_simp; refine hK _ _ ?_; clear hK K)
            have hGa := hGm.step (fun w0 _ m => m.ext (Ext.new w4 (.cells #[.int .i64 f.op, .int .i64 f.n, .slice a3 f.inn.length c3, .slice a4 f.kids.length c4] 29)))
            have hS := Src.lit1 (E := FmR) (H := H4) (w := w4.alloc (.cells #[.int .i64 f.op, .int .i64 f.n, .slice a3 f.inn.length c3, .slice a4 f.kids.length c4] 29)) (b := w4.heap.size) (sz := 4) hF4 rfl (fun j => by rw [(Own.new w4 #[.int .i64 f.op, .int .i64 f.n, .slice a3 f.inn.length c3, .slice a4 f.kids.length c4] 29).facts.1 j]; simp [fmC])
            obtain ⟨w0, z1, z2, z3, z4, z5⟩ := hGa
            refine wpAny_ready (rs := [7]) (by kernel_rfl) (by simp) ?_; refine AllReady.cons rfl (fun K hK => ?_) AllReady.nil
            refine oper_append_M (hm := mono_FmR) (v := .slice ka ks.length kk) (xs := ks) (ys := [f]) 2 _ _ 23 rfl Tryz.underlying23 infoFm rfl rfl rfl z4 rfl hS one_FmR (by have := hkl.out; simp; omega) (by have := hkl.out; simp; omega) ?_
            intro v' w6 hM6 hgr6
            refine hK _ _ ?_
            clear hK K
            have hG6 := MemG.re z1 z2 z3 z4 z5 hM6
            try simp only [List.set_cons_succ, List.set_cons_zero] at hG6 hM6
            obtain ⟨na, nc, rfl, -⟩ := hM6.form 2 rfl
            clear z1 z3 z4 z5 hM6 hS hGm
            obtain ⟨uc, uf⟩ := (hG6.box 1 rfl).facts
            have uf3 := uf 3
            have uc3 : _ = some (Value.slice ka ks.length kk) := uc 3
            have ul := (hG6.box 1 rfl).lt
            have hG7 := hG6.step (fun w0 _ m => m.set 1 rfl 3 (.slice na (ks ++ [f]).length nc))
            simp only [List.set_cons_succ, List.set_cons_zero, List.setIfInBounds_toArray] at hG7
            have hl7 := hl.grownG hG7.grown hg
            rw [show (ks ++ [f]).length = ks.length + 1 by simp] at hG7 hl7
            clear uc uf hG6
            (refine wpAny_take (i := 8) (v := ?_) rfl (by kernel_rfl) (by kernel_rfl) (by kernel_rfl) (fun _ _ _ h => h) (Or.inl ⟨by rfl, ?_⟩) ?_; rotate_left; (focus ((intro w; go_simp); try (with_reducible rfl))); (try simp only [Act.put, List.setIfInBounds_toArray, List.set_cons_zero, List.set_cons_succ]))
            (refine wpAny_ready (rs := [9]) (by kernel_rfl) (by simp) ?_; refine AllReady.cons rfl (fun K hK => ?_) AllReady.nil; go_simp; refine hK _ _ ?_; clear hK K)
            refine wpAny_done (by kernel_rfl) ?_ _
            try simp only [List.getElem_toArray, List.getElem_cons_succ, List.getElem_cons_zero, Act.put, List.setIfInBounds_toArray, List.set_cons_zero, List.set_cons_succ]
            go_wp2_with fail
            go_roundw
            case rel =>
              have hsum : sumN Fm.size (ks ++ [f]) = sumN Fm.size ks + f.size := sumN_app ks f
              refine ⟨m + 1, .slice na (ks.length + 1) nc, H4, ks ++ [f], at2, by omega, by go_num, by simp [hkl.out], ?_, ?_, ?_, by omega, by omega, hl7, Lib.hid (kidsG_step hkg.out htr.out)⟩
              · rw [hsum]
                rwa [show lf - 1 - ((sumN Fm.size ks + f.size : Nat) : Int) = lf - 1 - (sumN Fm.size ks : Nat) - f.size by omega]
              · rw [hsum]; exact ksP_step hKs hs
              · intro x hx
                rcases List.mem_append.1 hx with hx | hx
                · exact hall x hx
                · rw [List.mem_singleton.1 hx]; exact ⟨hwf, hdp⟩
            case measure => simp [intOf]; omega
      · have hmn : m = nv := by omega
        obtain ⟨kc, kf⟩ := (hGm.box 1 rfl).facts
        have q0' : _ = some (Value.int .i64 (4 + k % 2)) := kc 0
        have q1' : _ = some (Value.int .i64 0) := kc 1
        have q2' : _ = some (Value.slice none 0 0) := kc 2
        have q3' : _ = some (Value.slice ka ks.length kk) := kc 3
        have hgl := (hGm.box 1 rfl).lt
        obtain ⟨uc, uf⟩ := (hGm.box 0 rfl).facts
        have u0' : _ = some (Value.int .i64 0) := uc 0
        have u1' : _ = some (Value.int .i64 0) := uc 1
        have u2' : _ = some (Value.slice none 0 0) := uc 2
        have u3' : _ = some (Value.slice none 0 0) := uc 3
        have ul := (hGm.box 0 rfl).lt
        clear kc kf uc hG5 hcn
        have hG8 := hGm.set4 0 rfl (.int .i64 (4 + k % 2)) (.int .i64 0) (.slice none 0 0) (.slice ka ks.length kk)
        simp only [List.set_cons_zero] at hG8
        obtain ⟨H9, hp9, hG9, hks⟩ := hG8.freezeS 2 rfl
        clear hG8
        go_wp2_with fail
        generalize ((((wr.setCell _ _).setCell _ _).setCell _ _).setCell _ _) = w9 at *
        obtain ⟨q, -⟩ := (hG9.box 0 rfl).facts
        have q0 : _ = some (Value.int .i64 (4 + k % 2)) := q 0
        have q1 : _ = some (Value.int .i64 0) := q 1
        have q2 : _ = some (Value.slice none 0 0) := q 2
        have q3 : _ = some (Value.slice ka ks.length kk) := q 3
        refine bodyPost_ret (v := .agg #[.int .i64 (4 + k % 2), .int .i64 0, .slice none 0 0, .slice ka ks.length kk]) (by simp [results, Tryz.results48, go_sem, q0, q1, q2, q3]) rfl ?_
        have hsz := size_mk (4 + k % 2) 0 [] ks
        have hdp := deep_mk (4 + k % 2) 0 [] ks
        have hmx : maxN Fm.deep ks ≤ max 1 (e + 1) := maxN_le fun x hx => (hall x hx).2
        exact ⟨.mk (4 + k % 2) 0 [] ks, none, 0, ka, kk, atm, rfl, mono_FmR _ _ _ _ hG9.ub (FmR.of (by simp [Fm.op, I64]; omega) (by simp [Fm.n, I64]) (SliceRep.nil _ _ _) hks), whole_ao hop (fun x hx => (hall x hx).1), ⟨⟨by rw [hsz]; exact szP_of hKs (by omega) (by omega), by omega⟩, Lib.hid (treeF_n hkv.out (by omega) (by omega) (by omega) (by omega) hqv.out hnj.out (hmn ▸ hkg.out))⟩, hG9.grown, by rw [hsz]; have h := hG9.own; rwa [show lf - 1 - ((sumN Fm.size ks : Nat) : Int) = lf - ((1 + sumN Fm.size ks : Nat) : Int) by omega] at h, by omega, by omega⟩
end Go.Proofs.YtbpilielamjnoaaGreat
