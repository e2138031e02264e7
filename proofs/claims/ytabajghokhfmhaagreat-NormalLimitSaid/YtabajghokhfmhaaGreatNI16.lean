/- Lemmas for NI, part 17: the closures of normal.lists: d and n, and more. -/
import Derived.Test.YtabajghokhfmhaaGreatNI00
import Derived.Test.YtabajghokhfmhaaGreatNI01
import Derived.Test.YtabajghokhfmhaaGreatNI03
import Derived.Test.YtabajghokhfmhaaGreatNI04
import Derived.Test.YtabajghokhfmhaaGreatNI05
import Derived.Test.YtabajghokhfmhaaGreatNI07
import Derived.Test.YtabajghokhfmhaaGreatNI08
import Derived.Test.YtabajghokhfmhaaGreatNI09
import Derived.Test.YtabajghokhfmhaaGreatNI15
set_option linter.unusedSimpArgs false
set_option linter.unusedVariables false
namespace Go.Proofs.YtabajghokhfmhaaGreat
open Go.RowKit Go.Shelf
theorem freeze1 {α : Type} {w w1 : World} {H H1 : PH} {c : Chunk} {E : PH → List Value → α → Prop} {sz : Nat} {cs : List Value} {x : α} {T : TypeId} (hm : Mono E) (hM : Mem w H [c] H1 w1) (hE : E H1 cs x) (hn : cs.length = sz) :
    ∃ H5, PLe H1 H5 ∧ Mem w H [c] H5 (w1.alloc (.cells cs.toArray T)) ∧ SliceRep E sz H5 (.slice (some ⟨w1.heap.size, 0, none⟩) 1 1) [x] := by
  have hM2 := (hM.new' cs.toArray T (n := w1.heap.size) rfl).asOwn 1 rfl hm (xs := [x]) (n := 1) (sz := sz) (by simp) (by decide) (by simp [hn]) ⟨cs, [], by simp [← hn], hn, hE, rfl⟩
  simp only [List.cons_append, List.nil_append, List.set_cons_succ, List.set_cons_zero] at hM2
  obtain ⟨H5, hl5, hM5, hR5⟩ := hM2.freezeS 1 rfl
  simp only [List.set_cons_succ, List.set_cons_zero] at hM5
  exact ⟨H5, hl5, hM5.only, hR5⟩
theorem div_one {w w1 : World} {H H1 : PH} {c : Chunk} {most B : Nat} {cs : List Value} {z : Al} {T : TypeId} (b : Bool) (r : Option (List Al)) (hM : Mem w H [c] H1 w1) (hz : AltR H1 cs z) (hS : AlS z) (hN : alN z ≤ B) (hm1 : 1 ≤ most)
    (hr : match r with | some x => b = true ∧ [z] = x | none => b = false) : DivP w H most B r (.returned (.tuple #[.slice (some ⟨w1.heap.size, 0, none⟩) 1 1, .bool b])) (w1.alloc (.cells cs.toArray T)) := by
  obtain ⟨H5, hl5, hM5, hR5⟩ := freeze1 (T := T) mono_AltR hM hz hz.len
  exact ⟨_, _, [z], rfl, hM5.ex, hR5.mono mono_AltR hM5.ub, hm1, fun y hy => by rw [List.mem_singleton.1 hy]; exact ⟨hS, hN⟩, hr⟩
def DivC (R : Option (List Al)) (ok : Bool) (l : List Al) : Prop := match R with | some x => ok = true ∧ l = x | none => ok = false
def NtJ (w1 : World) (H : PH) (most B : Nat) (R : Option (List Al)) (ta tb tc : Nat) : Qj.Inv := fun dn s wx =>
  (dn 5 = true → ∃ q ok l, s ta = .tuple #[q, .bool ok] ∧ (dn 6 = true → s tb = q) ∧ (dn 7 = true → s tc = .bool ok) ∧ AltsR (up H w1 wx) q l ∧ l.length ≤ most ∧ (∀ z ∈ l, AlS z ∧ alN z ≤ B) ∧ DivC R ok l) ∧ (dn 5 = false → dn 6 = false ∧ dn 7 = false)
theorem DivP.le {w w' : World} {H : PH} {most B C : Nat} {r : Option (List Al)} {e : Ending} (h : DivP w H most B r e w') (hB : B ≤ C) : DivP w H most C r e w' := by
  obtain ⟨v, ok, l, h1, h2, h3, h4, h5, h6⟩ := h
  exact ⟨v, ok, l, h1, h2, h3, h4, fun z hz => ⟨(h5 z hz).1, by have := (h5 z hz).2; omega⟩, h6⟩
structure BoxL (H : PH) (most bM bD bN bC bP : Nat) : Prop where
  M : cellAt H bM 0 = some (.int .i64 most)
  D : cellAt H bD 0 = some (.func (.func 98) #[] #[.pointer (some ⟨bN, 0, none⟩), .pointer (some ⟨bC, 0, none⟩), .pointer (some ⟨bD, 0, none⟩), .pointer (some ⟨bP, 0, none⟩)])
  N : cellAt H bN 0 = some (.func (.func 100) #[] #[.pointer (some ⟨bD, 0, none⟩), .pointer (some ⟨bP, 0, none⟩), .pointer (some ⟨bN, 0, none⟩), .pointer (some ⟨bC, 0, none⟩)])
  C : cellAt H bC 0 = some (.func (.func 95) #[] #[.pointer (some ⟨bM, 0, none⟩)])
  P : cellAt H bP 0 = some (.func (.func 96) #[] #[.pointer (some ⟨bM, 0, none⟩)])
theorem alS1 (n : Int) : AlS ⟨[n], [], [], [], []⟩ := ⟨List.pairwise_singleton _ _, List.Pairwise.nil, List.Pairwise.nil, List.Pairwise.nil, List.Pairwise.nil⟩
theorem alS2 (n : Int) : AlS ⟨[], [n], [], [], []⟩ := ⟨List.Pairwise.nil, List.pairwise_singleton _ _, List.Pairwise.nil, List.Pairwise.nil, List.Pairwise.nil⟩
theorem alS3 (n : Nm) : AlS ⟨[], [], [n], [], []⟩ := ⟨List.Pairwise.nil, List.Pairwise.nil, List.pairwise_singleton _ _, List.Pairwise.nil, List.Pairwise.nil⟩
theorem alS4 (l : List Fm) (h : ascF l) : AlS ⟨[], [], [], l, []⟩ := ⟨List.Pairwise.nil, List.Pairwise.nil, List.Pairwise.nil, h, List.Pairwise.nil⟩
theorem alS5 (l : List Fm) (h : ascF l) : AlS ⟨[], [], [], [], l⟩ := ⟨List.Pairwise.nil, List.Pairwise.nil, List.Pairwise.nil, List.Pairwise.nil, h⟩
theorem div_end {w w1 w2 : World} {H : PH} {most B : Nat} {r : Option (List Al)} {e e2 : Ending} (h : DivP w H most B r e w1) (he : (e, w1) = (e2, w2)) : DivP w H most B r e2 w2 := by
  obtain ⟨rfl, rfl⟩ := Prod.mk.inj he; exact h
theorem cellAt_w {H : PH} {w : World} {b : Nat} {v : Value} (hl : PLe H (ph w)) (h : cellAt H b 0 = some v) : w.cell? ⟨b, 0, none⟩ = some v := by rw [cell_ph]; exact cellAt_mono hl h
theorem ints_one (H : PH) (n : Int) (h : I64 n) : IntR H [.int .i64 n] n := ⟨rfl, h⟩
set_option maxRecDepth 100000 in
set_option maxHeartbeats 8000000 in
theorem divs_c {H : PH} (most bM bD bN bC bP : Nat) (hB : BoxL H most bM bD bN bC bP) (hm : most ≤ 64) (hm1 : 1 ≤ most) (f : Fm) : ∀ (cs : List Value) (w : World), PLe H (ph w) → FmR H cs f → wholeB f = true → f.bulk ≤ 50000 →
    Calls Tryz.prog 98 (#[.agg cs.toArray] ++ #[.pointer (some ⟨bN, 0, none⟩), .pointer (some ⟨bC, 0, none⟩), .pointer (some ⟨bD, 0, none⟩), .pointer (some ⟨bP, 0, none⟩)]) w (DivP w H most f.bulk (divF most f false)) ∧
    Calls Tryz.prog 100 (#[.agg cs.toArray] ++ #[.pointer (some ⟨bD, 0, none⟩), .pointer (some ⟨bP, 0, none⟩), .pointer (some ⟨bN, 0, none⟩), .pointer (some ⟨bC, 0, none⟩)]) w (DivP w H most f.bulk (divF most f true)) := by
  induction f using Fm.ind with
  | h f ih =>
    intro cs w hl hr hw hb
    obtain ⟨a3, c3, a4, c4, rfl, i1, i2, -, -, hfi, hfk⟩ := hr.form
    have hwk : ∀ x ∈ f.kids, wholeB x = true := by
      rw [wholeB_eq, Bool.and_eq_true, List.all_eq_true] at hw; exact hw.2
    have hform : formed1 f = true := by
      rw [wholeB_eq, Bool.and_eq_true] at hw; exact hw.1
    have hkn := f.kids_le
    have hbe := f.bulk_eq
    have HI : Hid (∀ x ∈ f.kids, ∀ (cs' : List Value) (wr : World), PLe H (ph wr) → FmR H cs' x → _ ∧ _) := Lib.hid (fun x hx (cs' : List Value) (wr : World) (hl' : PLe H (ph wr)) (hr' : FmR H cs' x) => ih x hx cs' wr hl' hr' (hwk x hx) (by have := Fm.kid_le hx; omega))
    clear ih hw hwk
    have hfn1 := fun args w => enterFn Tryz.func98 rfl rfl args w
    have hfn2 := fun args w => enterFn Tryz.func100 rfl rfl args w
    have hC1 := Lib.hid (fun (w1 : World) (h1 : PLe H (ph w1)) => chain_c most bM 98 f.bulk #[.pointer (some ⟨bN, 0, none⟩), .pointer (some ⟨bC, 0, none⟩), .pointer (some ⟨bD, 0, none⟩), .pointer (some ⟨bP, 0, none⟩)] (fun g => divF most g false) f.kids (.slice a4 f.kids.length c4) w1 h1 hB.M hm hfk (by omega) hfn1 (fun g hg cs w' h2 h3 => (HI.out g hg cs w' h2 h3).1.mono fun e w'' h => h.le (Fm.kid_le hg)))
    have hC2 := Lib.hid (fun (w1 : World) (h1 : PLe H (ph w1)) => chain_c most bM 100 f.bulk #[.pointer (some ⟨bD, 0, none⟩), .pointer (some ⟨bP, 0, none⟩), .pointer (some ⟨bN, 0, none⟩), .pointer (some ⟨bC, 0, none⟩)] (fun g => divF most g true) f.kids (.slice a4 f.kids.length c4) w1 h1 hB.M hm hfk (by omega) hfn2 (fun g hg cs w' h2 h3 => (HI.out g hg cs w' h2 h3).2.mono fun e w'' h => h.le (Fm.kid_le hg)))
    have hP1 := Lib.hid (fun (w1 : World) (h1 : PLe H (ph w1)) => (product_c most bM 98 Fm.bulk #[.pointer (some ⟨bN, 0, none⟩), .pointer (some ⟨bC, 0, none⟩), .pointer (some ⟨bD, 0, none⟩), .pointer (some ⟨bP, 0, none⟩)] (fun g => divF most g false) f.kids (.slice a4 f.kids.length c4) w1 h1 hB.M hm hm1 hfk (by omega) hfn1 (by omega) (fun g hg cs w' h2 h3 => (HI.out g hg cs w' h2 h3).1)).mono fun e w'' h => h.le (C := f.bulk) (by omega))
    have hP2 := Lib.hid (fun (w1 : World) (h1 : PLe H (ph w1)) => (product_c most bM 100 Fm.bulk #[.pointer (some ⟨bD, 0, none⟩), .pointer (some ⟨bP, 0, none⟩), .pointer (some ⟨bN, 0, none⟩), .pointer (some ⟨bC, 0, none⟩)] (fun g => divF most g true) f.kids (.slice a4 f.kids.length c4) w1 h1 hB.M hm hm1 hfk (by omega) hfn2 (by omega) (fun g hg cs w' h2 h3 => (HI.out g hg cs w' h2 h3).2)).mono fun e w'' h => h.le (C := f.bulk) (by omega))
    have hpos := f.bulk_pos
    have hr0 := hr
    unfold fmC at hr ⊢
    have hM := (Mem.start w H hl).new' #[.int .i64 f.op, .int .i64 f.n, .slice a3 f.inn.length c3, .slice a4 f.kids.length c4] 30 (n := w.heap.size) rfl
    simp only [List.cons_append, List.nil_append] at hM
    have hin : f.inn.length ≤ 1000000 := by omega
    clear hbe
    cases node_kind hform with
    | cls h0 k n0 n1 =>
      have D : ∀ neg, divF most f neg = some [if neg then ⟨[], [f.n], [], [], []⟩ else ⟨[f.n], [], [], [], []⟩] := fun neg => by rw [divF_eq, if_pos h0]
      rw [D, D]
      have b0 : (f.op == 0) = false := by rw [h0]; rfl
      have b1 : (f.op == 1) = true := by rw [h0]; rfl
      have b2 : (f.op == 2) = false := by rw [h0]; rfl
      have b3 : (f.op == 3) = false := by rw [h0]; rfl
      have b6 : (f.op == 6) = false := by rw [h0]; rfl
      have b5 : (f.op == 5) = false := by rw [h0]; rfl
      try clear D D2
      try clear D
      replace h0 := Lib.hid h0
      try simp only [Bool.false_eq_true, if_false, if_true, Bool.not_false, Bool.not_true]
      clear hC1 hC2 hP1 hP2 HI hfn1 hfn2 k
      constructor
      ·
        go_enter Tryz.func98, Tryz.ntmps98
        go_upto_block 0 with (fail)
        have hws : (w.alloc (.cells #[.int .i64 f.op, .int .i64 f.n, .slice a3 f.inn.length c3, .slice a4 f.kids.length c4] 30)).heap.size = w.heap.size + 1 := by simp
        generalize hg1 : w.alloc _ = w1 at *
        generalize hg3 : w.heap.size = g3 at *
        have u0 : w1.cell? ⟨g3, 0, none⟩ = some (.int .i64 f.op) := (hM.box 0 rfl).facts.1 0
        have u1 : w1.cell? ⟨g3, 1, none⟩ = some (.int .i64 f.n) := (hM.box 0 rfl).facts.1 1
        have u2 : w1.cell? ⟨g3, 2, none⟩ = some (.slice a3 f.inn.length c3) := (hM.box 0 rfl).facts.1 2
        have u3 : w1.cell? ⟨g3, 3, none⟩ = some (.slice a4 f.kids.length c4) := (hM.box 0 rfl).facts.1 3
        have ul := (hM.box 0 rfl).lt
        obtain ⟨H5, hl5, hM5, hR5⟩ := freeze1 (T := 3) mono_IntR hM (ints_one H f.n i2) rfl
        go_wp2_with fail
        go_ret2
        exact div_end (div_one (T := 53) true _ hM5 (z := ⟨[f.n], [], [], [], []⟩) (cs := [.slice (some ⟨w1.heap.size, 0, none⟩) 1 1, .slice none 0 0, .slice none 0 0, .slice none 0 0, .slice none 0 0]) ⟨_, _, _, _, _, _, _, _, _, _, rfl, hR5, SliceRep.nil _ _ _, SliceRep.nil _ _ _, SliceRep.nil _ _ _, SliceRep.nil _ _ _⟩ (alS1 _) (by simpa [alN] using hpos) hm1 ⟨rfl, rfl⟩) (by simp [hws])
      ·
        go_enter Tryz.func100, Tryz.ntmps100
        go_upto_block 0 with (fail)
        have hws : (w.alloc (.cells #[.int .i64 f.op, .int .i64 f.n, .slice a3 f.inn.length c3, .slice a4 f.kids.length c4] 30)).heap.size = w.heap.size + 1 := by simp
        generalize hg1 : w.alloc _ = w1 at *
        generalize hg3 : w.heap.size = g3 at *
        have u0 : w1.cell? ⟨g3, 0, none⟩ = some (.int .i64 f.op) := (hM.box 0 rfl).facts.1 0
        have u1 : w1.cell? ⟨g3, 1, none⟩ = some (.int .i64 f.n) := (hM.box 0 rfl).facts.1 1
        have u2 : w1.cell? ⟨g3, 2, none⟩ = some (.slice a3 f.inn.length c3) := (hM.box 0 rfl).facts.1 2
        have u3 : w1.cell? ⟨g3, 3, none⟩ = some (.slice a4 f.kids.length c4) := (hM.box 0 rfl).facts.1 3
        have ul := (hM.box 0 rfl).lt
        obtain ⟨H5, hl5, hM5, hR5⟩ := freeze1 (T := 3) mono_IntR hM (ints_one H f.n i2) rfl
        go_wp2_with fail
        go_ret2
        exact div_end (div_one (T := 53) true _ hM5 (z := ⟨[], [f.n], [], [], []⟩) (cs := [.slice none 0 0, .slice (some ⟨w1.heap.size, 0, none⟩) 1 1, .slice none 0 0, .slice none 0 0, .slice none 0 0]) ⟨_, _, _, _, _, _, _, _, _, _, rfl, SliceRep.nil _ _ _, hR5, SliceRep.nil _ _ _, SliceRep.nil _ _ _, SliceRep.nil _ _ _⟩ (alS2 _) (by simpa [alN] using hpos) hm1 ⟨rfl, rfl⟩) (by simp [hws])
    | val h0 k n0 n1 s =>
      have D : ∀ neg, divF most f neg = (if neg then (notN f.inn).map fun s => [⟨[], [], [⟨f.n, s, true⟩], [], []⟩] else some [⟨[], [], [⟨f.n, f.inn, false⟩], [], []⟩]) := fun neg => by rw [divF_eq, if_neg (by omega), if_pos h0]
      rw [D, D]
      have b0 : (f.op == 0) = false := by rw [h0]; rfl
      have b1 : (f.op == 1) = false := by rw [h0]; rfl
      have b2 : (f.op == 2) = true := by rw [h0]; rfl
      have b3 : (f.op == 3) = false := by rw [h0]; rfl
      have b6 : (f.op == 6) = false := by rw [h0]; rfl
      have b5 : (f.op == 5) = false := by rw [h0]; rfl
      try clear D D2
      try clear D
      replace h0 := Lib.hid h0
      try simp only [Bool.false_eq_true, if_false, if_true, Bool.not_false, Bool.not_true]
      clear hC1 hC2 hP1 hP2 HI hfn1 hfn2 k
      constructor
      ·
        go_enter Tryz.func98, Tryz.ntmps98
        go_upto_block 0 with (fail)
        have hws : (w.alloc (.cells #[.int .i64 f.op, .int .i64 f.n, .slice a3 f.inn.length c3, .slice a4 f.kids.length c4] 30)).heap.size = w.heap.size + 1 := by simp
        generalize hg1 : w.alloc _ = w1 at *
        generalize hg3 : w.heap.size = g3 at *
        have u0 : w1.cell? ⟨g3, 0, none⟩ = some (.int .i64 f.op) := (hM.box 0 rfl).facts.1 0
        have u1 : w1.cell? ⟨g3, 1, none⟩ = some (.int .i64 f.n) := (hM.box 0 rfl).facts.1 1
        have u2 : w1.cell? ⟨g3, 2, none⟩ = some (.slice a3 f.inn.length c3) := (hM.box 0 rfl).facts.1 2
        have u3 : w1.cell? ⟨g3, 3, none⟩ = some (.slice a4 f.kids.length c4) := (hM.box 0 rfl).facts.1 3
        have ul := (hM.box 0 rfl).lt
        have hcl := Lib.hid (fun w' (e : Ext w1 w') => cloneItv_c f.inn _ w' (hM.ple.trans e.ple) hfi hin)
        have hHw1 := hM.ple
        go_upto_region 5 with (fail)
        (refine wp_region_I 5 (by kernel_rfl) (by kernel_rfl) ?_; simp only [List.toList_toArray, List.take_succ_cons, List.take_zero, List.drop_succ_cons, List.drop_zero])
        iterate 4 (refine wiA rfl (by simp) rfl ?_; (try simp only [List.nil_append, List.cons_append]))
        (refine walkI_step ((fun v w' => ItvsR (up H w1 w') v f.inn)) rfl (by simp) rfl ((fun v w w' hS h e' => h.mono mono_ItvR (up_then hS e'))) ?_ ?_; (focus (intro A w' hS hA K hK; (simp only [List.map_cons, List.map_nil, knows, Is, Op.operands, Call.operands, List.lookup_cons, List.lookup_nil, Nat.reduceBEq, Bool.false_eq_true, if_false, if_true, Act.eval, Array.getD_eq_getD_getElem?, List.getElem?_toArray, List.getElem?_cons_succ, List.getElem?_cons_zero, Option.getD_some, and_true, true_and, List.append_toArray, List.nil_append, List.cons_append, List.toList_toArray, Array.toList_append, Option.toArray, List.append_nil] at hA); (go_simp; refine (hcl.out _ hS).mono ?_; rintro e w9 ⟨v, rfl, hx9, hQ⟩; exact hK _ _ hx9 (hQ.mono mono_ItvR (up_laterH hHw1 hS))))); (try simp only [List.nil_append, List.cons_append]))
        (refine walkI_nil ?_; simp only [List.nil_append, List.cons_append, fins, Is, forall_eq, Act.put, List.setIfInBounds_toArray, List.set_cons_zero, List.set_cons_succ])
        rintro w5 hx5 v13 hQ
        have hM5 := hM.up hx5
        generalize up H w1 w5 = H5 at *
        obtain ⟨z3, d3, rfl, -, -⟩ := hQ.form
        clear hM u0 u1 u2 u3 ul hcl hx5
        obtain ⟨H6, hl6, hM6, hR6⟩ := freeze1 (T := 106) mono_NumR hM5 (x := ⟨f.n, f.inn, false⟩) ⟨_, _, rfl, i2, hQ⟩ rfl
        go_wp2_with fail
        go_ret2
        exact div_end (div_one (T := 53) true _ hM6 (z := ⟨[], [], [⟨f.n, f.inn, false⟩], [], []⟩) (cs := [.slice none 0 0, .slice none 0 0, .slice (some ⟨w5.heap.size, 0, none⟩) 1 1, .slice none 0 0, .slice none 0 0]) ⟨_, _, _, _, _, _, _, _, _, _, rfl, SliceRep.nil _ _ _, SliceRep.nil _ _ _, hR6, SliceRep.nil _ _ _, SliceRep.nil _ _ _⟩ (alS3 _) (by simpa [alN] using hpos) hm1 ⟨rfl, rfl⟩) (by simp [hws])
      ·
        go_enter Tryz.func100, Tryz.ntmps100
        go_upto_block 0 with (fail)
        have hws : (w.alloc (.cells #[.int .i64 f.op, .int .i64 f.n, .slice a3 f.inn.length c3, .slice a4 f.kids.length c4] 30)).heap.size = w.heap.size + 1 := by simp
        generalize hg1 : w.alloc _ = w1 at *
        generalize hg3 : w.heap.size = g3 at *
        have u0 : w1.cell? ⟨g3, 0, none⟩ = some (.int .i64 f.op) := (hM.box 0 rfl).facts.1 0
        have u1 : w1.cell? ⟨g3, 1, none⟩ = some (.int .i64 f.n) := (hM.box 0 rfl).facts.1 1
        have u2 : w1.cell? ⟨g3, 2, none⟩ = some (.slice a3 f.inn.length c3) := (hM.box 0 rfl).facts.1 2
        have u3 : w1.cell? ⟨g3, 3, none⟩ = some (.slice a4 f.kids.length c4) := (hM.box 0 rfl).facts.1 3
        have ul := (hM.box 0 rfl).lt
        have hnt := not_c (.slice a3 f.inn.length c3) f.inn w1 (hfi.mono mono_ItvR hM.ple)
        go_wp2_with fail
        refine hnt.mono ?_
        rintro e w5 ⟨v, rfl, hx5, hQ⟩
        have hM5 := hM.up hx5
        replace hQ := hQ.mono mono_ItvR (up_mono (noH_le H))
        generalize up H w1 w5 = H5 at *
        obtain ⟨z3, d3, rfl, -, -⟩ := hQ.form
        replace u1 := hx5.cell1 u1
        replace ul := cell_lt u1
        clear hM u0 u2 u3 hnt hx5
        obtain ⟨H6, hl6, hM6, hR6⟩ := freeze1 (T := 106) mono_NumR hM5 (x := ⟨f.n, (notS f.inn).1, true⟩) ⟨_, _, rfl, i2, hQ⟩ rfl
        cases hq : notN f.inn with
        | none =>
          have hne := notN_none hq
          generalize notS f.inn = R at *
          have bq : (R.2 == 0) = false := by simpa using hne
          go_wp2_with fail
          go_ret2
          exact div_end (div_one (T := 53) false _ hM6 (z := ⟨[], [], [⟨f.n, R.1, true⟩], [], []⟩) (cs := [.slice none 0 0, .slice none 0 0, .slice (some ⟨w5.heap.size, 0, none⟩) 1 1, .slice none 0 0, .slice none 0 0]) ⟨_, _, _, _, _, _, _, _, _, _, rfl, SliceRep.nil _ _ _, SliceRep.nil _ _ _, hR6, SliceRep.nil _ _ _, SliceRep.nil _ _ _⟩ (alS3 _) (by simpa [alN] using hpos) hm1 (by rw [hq]; exact rfl)) (by simp)
        | some q =>
          have hne := notN_some hq
          rw [hne] at hR6 hM6 hQ ⊢
          go_wp2_with fail
          go_ret2
          exact div_end (div_one (T := 53) true _ hM6 (z := ⟨[], [], [⟨f.n, q, true⟩], [], []⟩) (cs := [.slice none 0 0, .slice none 0 0, .slice (some ⟨w5.heap.size, 0, none⟩) 1 1, .slice none 0 0, .slice none 0 0]) ⟨_, _, _, _, _, _, _, _, _, _, rfl, SliceRep.nil _ _ _, SliceRep.nil _ _ _, hR6, SliceRep.nil _ _ _, SliceRep.nil _ _ _⟩ (alS3 _) (by simpa [alN] using hpos) hm1 (by rw [hq]; exact ⟨rfl, rfl⟩)) (by simp)
    | part g h0 k =>
      have hasc : ascF f.kids := by rw [k]; exact List.pairwise_singleton _ _
      clear k
      have D : ∀ neg, divF most f neg = some [if neg then ⟨[], [], [], [], f.kids⟩ else ⟨[], [], [], f.kids, []⟩] := fun neg => by rw [divF_eq, if_neg (by omega), if_neg (by omega), if_pos h0]
      rw [D, D]
      have b0 : (f.op == 0) = false := by rw [h0]; rfl
      have b1 : (f.op == 1) = false := by rw [h0]; rfl
      have b2 : (f.op == 2) = false := by rw [h0]; rfl
      have b3 : (f.op == 3) = true := by rw [h0]; rfl
      have b6 : (f.op == 6) = false := by rw [h0]; rfl
      have b5 : (f.op == 5) = false := by rw [h0]; rfl
      try clear D D2
      try clear D
      replace h0 := Lib.hid h0
      try simp only [Bool.false_eq_true, if_false, if_true, Bool.not_false, Bool.not_true]
      clear hC1 hC2 hP1 hP2 HI hfn1 hfn2
      constructor
      ·
        go_enter Tryz.func98, Tryz.ntmps98
        go_upto_block 0 with (fail)
        have hws : (w.alloc (.cells #[.int .i64 f.op, .int .i64 f.n, .slice a3 f.inn.length c3, .slice a4 f.kids.length c4] 30)).heap.size = w.heap.size + 1 := by simp
        generalize hg1 : w.alloc _ = w1 at *
        generalize hg3 : w.heap.size = g3 at *
        have u0 : w1.cell? ⟨g3, 0, none⟩ = some (.int .i64 f.op) := (hM.box 0 rfl).facts.1 0
        have u1 : w1.cell? ⟨g3, 1, none⟩ = some (.int .i64 f.n) := (hM.box 0 rfl).facts.1 1
        have u2 : w1.cell? ⟨g3, 2, none⟩ = some (.slice a3 f.inn.length c3) := (hM.box 0 rfl).facts.1 2
        have u3 : w1.cell? ⟨g3, 3, none⟩ = some (.slice a4 f.kids.length c4) := (hM.box 0 rfl).facts.1 3
        have ul := (hM.box 0 rfl).lt
        have hcl := cloneFm_c f.kids (.slice a4 f.kids.length c4) w1 hM.ple hfk (by omega)
        go_wp2_with fail
        refine hcl.mono ?_
        rintro e w5 ⟨v, rfl, hx5, hQ⟩
        have hM5 := hM.up hx5
        generalize up H w1 w5 = H5 at *
        obtain ⟨z3, d3, rfl, -, -⟩ := hQ.form
        clear hM u0 u1 u2 u3 ul hcl hx5
        go_wp2_with fail
        go_ret2
        exact div_end (div_one (T := 53) true _ hM5 (z := ⟨[], [], [], f.kids, []⟩) (cs := [.slice none 0 0, .slice none 0 0, .slice none 0 0, .slice z3 f.kids.length d3, .slice none 0 0]) ⟨_, _, _, _, _, _, _, _, _, _, rfl, SliceRep.nil _ _ _, SliceRep.nil _ _ _, SliceRep.nil _ _ _, hQ, SliceRep.nil _ _ _⟩ (alS4 _ hasc) (by simpa [alN] using hkn) hm1 ⟨rfl, rfl⟩) (by simp [hws])
      ·
        go_enter Tryz.func100, Tryz.ntmps100
        go_upto_block 0 with (fail)
        have hws : (w.alloc (.cells #[.int .i64 f.op, .int .i64 f.n, .slice a3 f.inn.length c3, .slice a4 f.kids.length c4] 30)).heap.size = w.heap.size + 1 := by simp
        generalize hg1 : w.alloc _ = w1 at *
        generalize hg3 : w.heap.size = g3 at *
        have u0 : w1.cell? ⟨g3, 0, none⟩ = some (.int .i64 f.op) := (hM.box 0 rfl).facts.1 0
        have u1 : w1.cell? ⟨g3, 1, none⟩ = some (.int .i64 f.n) := (hM.box 0 rfl).facts.1 1
        have u2 : w1.cell? ⟨g3, 2, none⟩ = some (.slice a3 f.inn.length c3) := (hM.box 0 rfl).facts.1 2
        have u3 : w1.cell? ⟨g3, 3, none⟩ = some (.slice a4 f.kids.length c4) := (hM.box 0 rfl).facts.1 3
        have ul := (hM.box 0 rfl).lt
        have hcl := cloneFm_c f.kids (.slice a4 f.kids.length c4) w1 hM.ple hfk (by omega)
        go_wp2_with fail
        refine hcl.mono ?_
        rintro e w5 ⟨v, rfl, hx5, hQ⟩
        have hM5 := hM.up hx5
        generalize up H w1 w5 = H5 at *
        obtain ⟨z3, d3, rfl, -, -⟩ := hQ.form
        clear hM u0 u1 u2 u3 ul hcl hx5
        go_wp2_with fail
        go_ret2
        exact div_end (div_one (T := 53) true _ hM5 (z := ⟨[], [], [], [], f.kids⟩) (cs := [.slice none 0 0, .slice none 0 0, .slice none 0 0, .slice none 0 0, .slice z3 f.kids.length d3]) ⟨_, _, _, _, _, _, _, _, _, _, rfl, SliceRep.nil _ _ _, SliceRep.nil _ _ _, SliceRep.nil _ _ _, SliceRep.nil _ _ _, hQ⟩ (alS5 _ hasc) (by simpa [alN] using hkn) hm1 ⟨rfl, rfl⟩) (by simp)
    | non g h0 k =>
      have D : ∀ neg, divF most f neg = divF most g !neg := fun neg => by rw [divF_eq, if_neg (by omega), if_neg (by omega), if_neg (by omega), if_pos h0, k]; rfl
      rw [D, D]
      have b0 : (f.op == 0) = false := by rw [h0]; rfl
      have b1 : (f.op == 1) = false := by rw [h0]; rfl
      have b2 : (f.op == 2) = false := by rw [h0]; rfl
      have b3 : (f.op == 3) = false := by rw [h0]; rfl
      have b6 : (f.op == 6) = true := by rw [h0]; rfl
      have b5 : (f.op == 5) = false := by rw [h0]; rfl
      try clear D D2
      try clear D
      replace h0 := Lib.hid h0
      try simp only [Bool.false_eq_true, if_false, if_true, Bool.not_false, Bool.not_true]
      have hgb : g.bulk ≤ f.bulk := Fm.kid_le (by rw [k]; simp)
      have hgm : g ∈ f.kids := by rw [k]; simp
      have hkl : f.kids.length = 1 := by rw [k]; rfl
      have hlt : 0 < f.kids.length := by rw [k]; exact Nat.one_pos
      have hz := Lib.hid (fun (w' : World) (h : PLe H (ph w')) => FmsR.atH hfk h 0 hlt)
      have hk0 : f.kids[0]'hlt = g := by simp [k]
      clear hC1 hC2 hP1 hP2
      replace hkl := Lib.hid hkl
      clear k
      constructor
      ·
        go_enter Tryz.func98, Tryz.ntmps98
        go_upto_block 0 with (fail)
        have hws : (w.alloc (.cells #[.int .i64 f.op, .int .i64 f.n, .slice a3 f.inn.length c3, .slice a4 f.kids.length c4] 30)).heap.size = w.heap.size + 1 := by simp
        generalize hg1 : w.alloc _ = w1 at *
        generalize hg3 : w.heap.size = g3 at *
        have u0 : w1.cell? ⟨g3, 0, none⟩ = some (.int .i64 f.op) := (hM.box 0 rfl).facts.1 0
        have u1 : w1.cell? ⟨g3, 1, none⟩ = some (.int .i64 f.n) := (hM.box 0 rfl).facts.1 1
        have u2 : w1.cell? ⟨g3, 2, none⟩ = some (.slice a3 f.inn.length c3) := (hM.box 0 rfl).facts.1 2
        have u3 : w1.cell? ⟨g3, 3, none⟩ = some (.slice a4 f.kids.length c4) := (hM.box 0 rfl).facts.1 3
        have ul := (hM.box 0 rfl).lt
        replace hkl := hkl.out
        clear hws hg1
        have v5 := cellAt_w hM.ple hB.N
        have v5l : bN < w1.heap.size := cell_lt v5
        obtain ⟨kb', ko', k3', m3', k4', m4', ek', z0, z1, z2, z3, hE', zl⟩ := hz.out w1 hM.ple
        cases ek'
        rw [hk0] at z0 z1 z2 z3 hE'
        simp only [Nat.zero_mul, Nat.add_zero] at z0 z1 z2 z3
        rw [hkl] at u3
        have hcall := Lib.hid (fun w' (e : Ext w1 w') => (HI.out g hgm _ w' (hM.ple.trans e.ple) hE').2)
        have hHw1 := hM.ple
        have hb0 : (0 : Nat) < 1 := by omega
        generalize divF most g true = R at *
        clear HI hk0 hz hE'
        go_upto_region 9 with (fail)
        (refine Qj.wp_region_J 8 (NtJ w1 H most f.bulk R 42 43 44) (Ext.rfl' _) (by kernel_rfl) (by kernel_rfl) (⟨(fun h => (by cases h)), fun _ => ⟨rfl, rfl⟩⟩) ?_; simp only [List.toList_toArray, List.take_succ_cons, List.take_zero, List.drop_succ_cons, List.drop_zero])
        iterate 5 (refine Qj.walkI_is (u := ?_) rfl (by simp) rfl (fun dn s w h => h) ?_ ?_; rotate_left; (focus (intro A w' dn hS hJ hdn hA K hK; (try simp only [List.map_cons, List.map_nil, Qj.knows, Qj.Is, Qj.Any, Op.operands, Call.operands, List.lookup_cons, List.lookup_nil, Nat.reduceBEq, Bool.false_eq_true, if_false, if_true, Act.eval, Array.getD_eq_getD_getElem?, List.getElem?_toArray, List.getElem?_cons_succ, List.getElem?_cons_zero, Option.getD_some, and_true, true_and, List.append_toArray, List.nil_append, List.cons_append, List.toList_toArray, Array.toList_append, Option.toArray, List.append_nil] at hA); (obtain ⟨hSc, hSf, hSs⟩ := hS.cells; go_simp; exact hK))); (try simp only [List.nil_append, List.cons_append]))
        (refine Qj.walkI_step rfl (by simp) rfl ?_ ?_; (focus (intro A w' dn hS hJ hd0 hdn hA K hK; (try simp only [List.map_cons, List.map_nil, Qj.knows, Qj.Is, Qj.Any, Op.operands, Call.operands, List.lookup_cons, List.lookup_nil, Nat.reduceBEq, Bool.false_eq_true, if_false, if_true, Act.eval, Array.getD_eq_getD_getElem?, List.getElem?_toArray, List.getElem?_cons_succ, List.getElem?_cons_zero, Option.getD_some, and_true, true_and, List.append_toArray, List.nil_append, List.cons_append, List.toList_toArray, Array.toList_append, Option.toArray, List.append_nil] at hA); (obtain ⟨-, h2⟩ := hJ; have d5 : dn 5 = false := hd0; obtain ⟨d6, d7⟩ := h2 d5; go_simp; refine (hcall.out _ hS).mono ?_; rintro e w9 ⟨q, ok, l, rfl, hx9, hQ, hll, hlz, hcase⟩; exact hK _ _ (hS.then hx9) ⟨fun _ => ⟨q, ok, l, rfl, (fun h => absurd h (by show ¬ (dn 6 = true); rw [d6]; decide)), (fun h => absurd h (by show ¬ (dn 7 = true); rw [d7]; decide)), hQ.mono mono_AltR (up_laterH hHw1 hS), hll, (fun z hz => ⟨(hlz z hz).1, Nat.le_trans (hlz z hz).2 hgb⟩), hcase⟩, fun h => by cases h⟩))); (try simp only [List.nil_append, List.cons_append]))
        (refine Qj.walkI_step rfl (by simp) rfl ?_ ?_; (focus (intro A w' dn hS hJ hd0 hdn hA K hK; (try simp only [List.map_cons, List.map_nil, Qj.knows, Qj.Is, Qj.Any, Op.operands, Call.operands, List.lookup_cons, List.lookup_nil, Nat.reduceBEq, Bool.false_eq_true, if_false, if_true, Act.eval, Array.getD_eq_getD_getElem?, List.getElem?_toArray, List.getElem?_cons_succ, List.getElem?_cons_zero, Option.getD_some, and_true, true_and, List.append_toArray, List.nil_append, List.cons_append, List.toList_toArray, Array.toList_append, Option.toArray, List.append_nil] at hA); (obtain ⟨h1, h2⟩ := hJ; have d5 : dn 5 = true := hdn 5 (List.contains_iff_mem.1 (by kernel_rfl)); obtain ⟨q, ok, l, e5, h6, h7, h8⟩ := h1 d5; have e5' := e5; unfold Qj.sl at e5'; simp only [Array.getD_eq_getD_getElem?] at e5'; go_simp; exact hK _ _ hS ⟨fun _ => ⟨q, ok, l, e5, (fun _ => rfl), h7, h8⟩, fun h => absurd h (by show ¬ (dn 5 = false); rw [d5]; decide)⟩))); (try simp only [List.nil_append, List.cons_append]))
        (refine Qj.walkI_step rfl (by simp) rfl ?_ ?_; (focus (intro A w' dn hS hJ hd0 hdn hA K hK; (try simp only [List.map_cons, List.map_nil, Qj.knows, Qj.Is, Qj.Any, Op.operands, Call.operands, List.lookup_cons, List.lookup_nil, Nat.reduceBEq, Bool.false_eq_true, if_false, if_true, Act.eval, Array.getD_eq_getD_getElem?, List.getElem?_toArray, List.getElem?_cons_succ, List.getElem?_cons_zero, Option.getD_some, and_true, true_and, List.append_toArray, List.nil_append, List.cons_append, List.toList_toArray, Array.toList_append, Option.toArray, List.append_nil] at hA); (obtain ⟨h1, h2⟩ := hJ; have d5 : dn 5 = true := hdn 5 (List.contains_iff_mem.1 (by kernel_rfl)); obtain ⟨q, ok, l, e5, h6, h7, h8⟩ := h1 d5; have e5' := e5; unfold Qj.sl at e5'; simp only [Array.getD_eq_getD_getElem?] at e5'; go_simp; exact hK _ _ hS ⟨fun _ => ⟨q, ok, l, e5, h6, (fun _ => rfl), h8⟩, fun h => absurd h (by show ¬ (dn 5 = false); rw [d5]; decide)⟩))); (try simp only [List.nil_append, List.cons_append]))
        (refine Qj.walkI_nil ?_; simp only [List.nil_append, List.cons_append, Qj.fins, Qj.Is, Qj.Any, forall_eq, true_implies, Act.put, List.setIfInBounds_toArray, List.set_cons_zero, List.set_cons_succ, List.set_nil, forall_const])
        intro w5 hx5 v13 v14 v15 hJ
        obtain ⟨h1, -⟩ := hJ
        obtain ⟨q, ok, l, e5, h6, h7, hQ, hll, hlz, hcase⟩ := h1 rfl
        have e13 : v13 = .tuple #[q, .bool ok] := e5
        have e14 : v14 = q := h6 rfl
        have e15 : v15 = .bool ok := h7 rfl
        subst e13 e14 e15
        clear h1 e5 h6 h7
        have hfin := hQ.mono mono_AltR (up_laterH (H := H) (w' := w1) (w6 := w5) hl hM.ex)
        have hM5 := hM.ext hx5
        obtain ⟨z3', d3', rfl, -, -⟩ := hQ.form
        clear u0 u1 u2 u3 ul v5 v5l hM hQ hcall z0 z1 z2 z3 zl
        go_wp2_with fail
        go_ret2
        exact ⟨_, ok, l, rfl, hM5.ex, hfin, hll, hlz, hcase⟩
      ·
        go_enter Tryz.func100, Tryz.ntmps100
        go_upto_block 0 with (fail)
        have hws : (w.alloc (.cells #[.int .i64 f.op, .int .i64 f.n, .slice a3 f.inn.length c3, .slice a4 f.kids.length c4] 30)).heap.size = w.heap.size + 1 := by simp
        generalize hg1 : w.alloc _ = w1 at *
        generalize hg3 : w.heap.size = g3 at *
        have u0 : w1.cell? ⟨g3, 0, none⟩ = some (.int .i64 f.op) := (hM.box 0 rfl).facts.1 0
        have u1 : w1.cell? ⟨g3, 1, none⟩ = some (.int .i64 f.n) := (hM.box 0 rfl).facts.1 1
        have u2 : w1.cell? ⟨g3, 2, none⟩ = some (.slice a3 f.inn.length c3) := (hM.box 0 rfl).facts.1 2
        have u3 : w1.cell? ⟨g3, 3, none⟩ = some (.slice a4 f.kids.length c4) := (hM.box 0 rfl).facts.1 3
        have ul := (hM.box 0 rfl).lt
        replace hkl := hkl.out
        clear hws hg1
        have v5 := cellAt_w hM.ple hB.D
        have v5l : bD < w1.heap.size := cell_lt v5
        obtain ⟨kb', ko', k3', m3', k4', m4', ek', z0, z1, z2, z3, hE', zl⟩ := hz.out w1 hM.ple
        cases ek'
        rw [hk0] at z0 z1 z2 z3 hE'
        simp only [Nat.zero_mul, Nat.add_zero] at z0 z1 z2 z3
        rw [hkl] at u3
        have hcall := Lib.hid (fun w' (e : Ext w1 w') => (HI.out g hgm _ w' (hM.ple.trans e.ple) hE').1)
        have hHw1 := hM.ple
        have hb0 : (0 : Nat) < 1 := by omega
        generalize divF most g false = R at *
        clear HI hk0 hz hE'
        go_upto_region 12 with (fail)
        (refine Qj.wp_region_J 8 (NtJ w1 H most f.bulk R 52 53 54) (Ext.rfl' _) (by kernel_rfl) (by kernel_rfl) (⟨(fun h => (by cases h)), fun _ => ⟨rfl, rfl⟩⟩) ?_; simp only [List.toList_toArray, List.take_succ_cons, List.take_zero, List.drop_succ_cons, List.drop_zero])
        iterate 5 (refine Qj.walkI_is (u := ?_) rfl (by simp) rfl (fun dn s w h => h) ?_ ?_; rotate_left; (focus (intro A w' dn hS hJ hdn hA K hK; (try simp only [List.map_cons, List.map_nil, Qj.knows, Qj.Is, Qj.Any, Op.operands, Call.operands, List.lookup_cons, List.lookup_nil, Nat.reduceBEq, Bool.false_eq_true, if_false, if_true, Act.eval, Array.getD_eq_getD_getElem?, List.getElem?_toArray, List.getElem?_cons_succ, List.getElem?_cons_zero, Option.getD_some, and_true, true_and, List.append_toArray, List.nil_append, List.cons_append, List.toList_toArray, Array.toList_append, Option.toArray, List.append_nil] at hA); (obtain ⟨hSc, hSf, hSs⟩ := hS.cells; go_simp; exact hK))); (try simp only [List.nil_append, List.cons_append]))
        (refine Qj.walkI_step rfl (by simp) rfl ?_ ?_; (focus (intro A w' dn hS hJ hd0 hdn hA K hK; (try simp only [List.map_cons, List.map_nil, Qj.knows, Qj.Is, Qj.Any, Op.operands, Call.operands, List.lookup_cons, List.lookup_nil, Nat.reduceBEq, Bool.false_eq_true, if_false, if_true, Act.eval, Array.getD_eq_getD_getElem?, List.getElem?_toArray, List.getElem?_cons_succ, List.getElem?_cons_zero, Option.getD_some, and_true, true_and, List.append_toArray, List.nil_append, List.cons_append, List.toList_toArray, Array.toList_append, Option.toArray, List.append_nil] at hA); (obtain ⟨-, h2⟩ := hJ; have d5 : dn 5 = false := hd0; obtain ⟨d6, d7⟩ := h2 d5; go_simp; refine (hcall.out _ hS).mono ?_; rintro e w9 ⟨q, ok, l, rfl, hx9, hQ, hll, hlz, hcase⟩; exact hK _ _ (hS.then hx9) ⟨fun _ => ⟨q, ok, l, rfl, (fun h => absurd h (by show ¬ (dn 6 = true); rw [d6]; decide)), (fun h => absurd h (by show ¬ (dn 7 = true); rw [d7]; decide)), hQ.mono mono_AltR (up_laterH hHw1 hS), hll, (fun z hz => ⟨(hlz z hz).1, Nat.le_trans (hlz z hz).2 hgb⟩), hcase⟩, fun h => by cases h⟩))); (try simp only [List.nil_append, List.cons_append]))
        (refine Qj.walkI_step rfl (by simp) rfl ?_ ?_; (focus (intro A w' dn hS hJ hd0 hdn hA K hK; (try simp only [List.map_cons, List.map_nil, Qj.knows, Qj.Is, Qj.Any, Op.operands, Call.operands, List.lookup_cons, List.lookup_nil, Nat.reduceBEq, Bool.false_eq_true, if_false, if_true, Act.eval, Array.getD_eq_getD_getElem?, List.getElem?_toArray, List.getElem?_cons_succ, List.getElem?_cons_zero, Option.getD_some, and_true, true_and, List.append_toArray, List.nil_append, List.cons_append, List.toList_toArray, Array.toList_append, Option.toArray, List.append_nil] at hA); (obtain ⟨h1, h2⟩ := hJ; have d5 : dn 5 = true := hdn 5 (List.contains_iff_mem.1 (by kernel_rfl)); obtain ⟨q, ok, l, e5, h6, h7, h8⟩ := h1 d5; have e5' := e5; unfold Qj.sl at e5'; simp only [Array.getD_eq_getD_getElem?] at e5'; go_simp; exact hK _ _ hS ⟨fun _ => ⟨q, ok, l, e5, (fun _ => rfl), h7, h8⟩, fun h => absurd h (by show ¬ (dn 5 = false); rw [d5]; decide)⟩))); (try simp only [List.nil_append, List.cons_append]))
        (refine Qj.walkI_step rfl (by simp) rfl ?_ ?_; (focus (intro A w' dn hS hJ hd0 hdn hA K hK; (try simp only [List.map_cons, List.map_nil, Qj.knows, Qj.Is, Qj.Any, Op.operands, Call.operands, List.lookup_cons, List.lookup_nil, Nat.reduceBEq, Bool.false_eq_true, if_false, if_true, Act.eval, Array.getD_eq_getD_getElem?, List.getElem?_toArray, List.getElem?_cons_succ, List.getElem?_cons_zero, Option.getD_some, and_true, true_and, List.append_toArray, List.nil_append, List.cons_append, List.toList_toArray, Array.toList_append, Option.toArray, List.append_nil] at hA); (obtain ⟨h1, h2⟩ := hJ; have d5 : dn 5 = true := hdn 5 (List.contains_iff_mem.1 (by kernel_rfl)); obtain ⟨q, ok, l, e5, h6, h7, h8⟩ := h1 d5; have e5' := e5; unfold Qj.sl at e5'; simp only [Array.getD_eq_getD_getElem?] at e5'; go_simp; exact hK _ _ hS ⟨fun _ => ⟨q, ok, l, e5, h6, (fun _ => rfl), h8⟩, fun h => absurd h (by show ¬ (dn 5 = false); rw [d5]; decide)⟩))); (try simp only [List.nil_append, List.cons_append]))
        (refine Qj.walkI_nil ?_; simp only [List.nil_append, List.cons_append, Qj.fins, Qj.Is, Qj.Any, forall_eq, true_implies, Act.put, List.setIfInBounds_toArray, List.set_cons_zero, List.set_cons_succ, List.set_nil, forall_const])
        intro w5 hx5 v13 v14 v15 hJ
        obtain ⟨h1, -⟩ := hJ
        obtain ⟨q, ok, l, e5, h6, h7, hQ, hll, hlz, hcase⟩ := h1 rfl
        have e13 : v13 = .tuple #[q, .bool ok] := e5
        have e14 : v14 = q := h6 rfl
        have e15 : v15 = .bool ok := h7 rfl
        subst e13 e14 e15
        clear h1 e5 h6 h7
        have hfin := hQ.mono mono_AltR (up_laterH (H := H) (w' := w1) (w6 := w5) hl hM.ex)
        have hM5 := hM.ext hx5
        obtain ⟨z3', d3', rfl, -, -⟩ := hQ.form
        clear u0 u1 u2 u3 ul v5 v5l hM hQ hcall z0 z1 z2 z3 zl
        go_wp2_with fail
        go_ret2
        exact ⟨_, ok, l, rfl, hM5.ex, hfin, hll, hlz, hcase⟩
    | tru h0 k =>
      have hr2 : chainO most [] (f.kids.map fun g => divF most g true) = some [] := by rw [k]; rfl
      clear k
      have D : divF most f false = prodO most [al0] (f.kids.map fun g => divF most g false) := by rw [divF_eq, if_neg (by omega), if_neg (by omega), if_neg (by omega), if_neg (by omega), if_pos (by simp [h0])]
      have D2 : divF most f true = chainO most [] (f.kids.map fun g => divF most g true) := by rw [divF_eq, if_neg (by omega), if_neg (by omega), if_neg (by omega), if_neg (by omega), if_neg (by simp [h0])]
      rw [D, D2]
      have b0 : (f.op == 0) = true := by rw [h0]; rfl
      have b1 : (f.op == 1) = false := by rw [h0]; rfl
      have b2 : (f.op == 2) = false := by rw [h0]; rfl
      have b3 : (f.op == 3) = false := by rw [h0]; rfl
      have b6 : (f.op == 6) = false := by rw [h0]; rfl
      have b5 : (f.op == 5) = false := by rw [h0]; rfl
      try clear D D2
      try clear D
      replace h0 := Lib.hid h0
      try simp only [Bool.false_eq_true, if_false, if_true, Bool.not_false, Bool.not_true]
      constructor
      ·
        go_enter Tryz.func98, Tryz.ntmps98
        go_upto_block 0 with (fail)
        have hws : (w.alloc (.cells #[.int .i64 f.op, .int .i64 f.n, .slice a3 f.inn.length c3, .slice a4 f.kids.length c4] 30)).heap.size = w.heap.size + 1 := by simp
        generalize hg1 : w.alloc _ = w1 at *
        generalize hg3 : w.heap.size = g3 at *
        have u0 : w1.cell? ⟨g3, 0, none⟩ = some (.int .i64 f.op) := (hM.box 0 rfl).facts.1 0
        have u1 : w1.cell? ⟨g3, 1, none⟩ = some (.int .i64 f.n) := (hM.box 0 rfl).facts.1 1
        have u2 : w1.cell? ⟨g3, 2, none⟩ = some (.slice a3 f.inn.length c3) := (hM.box 0 rfl).facts.1 2
        have u3 : w1.cell? ⟨g3, 3, none⟩ = some (.slice a4 f.kids.length c4) := (hM.box 0 rfl).facts.1 3
        have ul := (hM.box 0 rfl).lt
        have v5 := cellAt_w hM.ple hB.P
        have v6 := cellAt_w hM.ple hB.D
        have v5l : bP < w1.heap.size := cell_lt v5
        have v6l : bD < w1.heap.size := cell_lt v6
        have hcall := hP1.out w1 hM.ple
        clear hC1 hC2 hP1 hP2 HI hfn1 hfn2
        go_wp2_with fail
        refine hcall.mono ?_
        rintro e w5 ⟨v, ok, l, rfl, hx5, hQ, hll, hlz, hcase⟩
        have hfin := hQ.mono mono_AltR (up_laterH (H := H) (w' := w1) (w6 := w5) hl hM.ex)
        have hM5 := hM.ext hx5
        obtain ⟨z3, d3, rfl, -, -⟩ := hQ.form
        clear u0 u1 u2 u3 ul v5 v6 v5l v6l hM hQ hcall
        go_wp2_with fail
        go_ret2
        exact ⟨_, ok, l, rfl, hM5.ex, hfin, hll, hlz, hcase⟩
      ·
        rw [hr2]
        go_enter Tryz.func100, Tryz.ntmps100
        go_upto_block 0 with (fail)
        have hws : (w.alloc (.cells #[.int .i64 f.op, .int .i64 f.n, .slice a3 f.inn.length c3, .slice a4 f.kids.length c4] 30)).heap.size = w.heap.size + 1 := by simp
        generalize hg1 : w.alloc _ = w1 at *
        generalize hg3 : w.heap.size = g3 at *
        have u0 : w1.cell? ⟨g3, 0, none⟩ = some (.int .i64 f.op) := (hM.box 0 rfl).facts.1 0
        have u1 : w1.cell? ⟨g3, 1, none⟩ = some (.int .i64 f.n) := (hM.box 0 rfl).facts.1 1
        have u2 : w1.cell? ⟨g3, 2, none⟩ = some (.slice a3 f.inn.length c3) := (hM.box 0 rfl).facts.1 2
        have u3 : w1.cell? ⟨g3, 3, none⟩ = some (.slice a4 f.kids.length c4) := (hM.box 0 rfl).facts.1 3
        have ul := (hM.box 0 rfl).lt
        clear hC1 hC2 hP1 hP2 HI hfn1 hfn2
        go_wp2_with fail
        go_ret2
        exact ⟨_, _, [], rfl, hM.ex, SliceRep.nil _ _ _, Nat.zero_le _, (fun z hz => by cases hz), rfl, rfl⟩
    | all h0 =>
      have D : divF most f false = prodO most [al0] (f.kids.map fun g => divF most g false) := by rw [divF_eq, if_neg (by omega), if_neg (by omega), if_neg (by omega), if_neg (by omega), if_pos (by simp [h0])]
      have D2 : divF most f true = chainO most [] (f.kids.map fun g => divF most g true) := by rw [divF_eq, if_neg (by omega), if_neg (by omega), if_neg (by omega), if_neg (by omega), if_neg (by simp [h0])]
      rw [D, D2]
      have b0 : (f.op == 0) = false := by rw [h0]; rfl
      have b1 : (f.op == 1) = false := by rw [h0]; rfl
      have b2 : (f.op == 2) = false := by rw [h0]; rfl
      have b3 : (f.op == 3) = false := by rw [h0]; rfl
      have b6 : (f.op == 6) = false := by rw [h0]; rfl
      have b5 : (f.op == 5) = false := by rw [h0]; rfl
      try clear D D2
      try clear D
      replace h0 := Lib.hid h0
      try simp only [Bool.false_eq_true, if_false, if_true, Bool.not_false, Bool.not_true]
      constructor
      ·
        go_enter Tryz.func98, Tryz.ntmps98
        go_upto_block 0 with (fail)
        have hws : (w.alloc (.cells #[.int .i64 f.op, .int .i64 f.n, .slice a3 f.inn.length c3, .slice a4 f.kids.length c4] 30)).heap.size = w.heap.size + 1 := by simp
        generalize hg1 : w.alloc _ = w1 at *
        generalize hg3 : w.heap.size = g3 at *
        have u0 : w1.cell? ⟨g3, 0, none⟩ = some (.int .i64 f.op) := (hM.box 0 rfl).facts.1 0
        have u1 : w1.cell? ⟨g3, 1, none⟩ = some (.int .i64 f.n) := (hM.box 0 rfl).facts.1 1
        have u2 : w1.cell? ⟨g3, 2, none⟩ = some (.slice a3 f.inn.length c3) := (hM.box 0 rfl).facts.1 2
        have u3 : w1.cell? ⟨g3, 3, none⟩ = some (.slice a4 f.kids.length c4) := (hM.box 0 rfl).facts.1 3
        have ul := (hM.box 0 rfl).lt
        have v5 := cellAt_w hM.ple hB.P
        have v6 := cellAt_w hM.ple hB.D
        have v5l : bP < w1.heap.size := cell_lt v5
        have v6l : bD < w1.heap.size := cell_lt v6
        have hcall := hP1.out w1 hM.ple
        clear hC1 hC2 hP1 hP2 HI hfn1 hfn2
        go_wp2_with fail
        refine hcall.mono ?_
        rintro e w5 ⟨v, ok, l, rfl, hx5, hQ, hll, hlz, hcase⟩
        have hfin := hQ.mono mono_AltR (up_laterH (H := H) (w' := w1) (w6 := w5) hl hM.ex)
        have hM5 := hM.ext hx5
        obtain ⟨z3, d3, rfl, -, -⟩ := hQ.form
        clear u0 u1 u2 u3 ul v5 v6 v5l v6l hM hQ hcall
        go_wp2_with fail
        go_ret2
        exact ⟨_, ok, l, rfl, hM5.ex, hfin, hll, hlz, hcase⟩
      ·
        go_enter Tryz.func100, Tryz.ntmps100
        go_upto_block 0 with (fail)
        have hws : (w.alloc (.cells #[.int .i64 f.op, .int .i64 f.n, .slice a3 f.inn.length c3, .slice a4 f.kids.length c4] 30)).heap.size = w.heap.size + 1 := by simp
        generalize hg1 : w.alloc _ = w1 at *
        generalize hg3 : w.heap.size = g3 at *
        have u0 : w1.cell? ⟨g3, 0, none⟩ = some (.int .i64 f.op) := (hM.box 0 rfl).facts.1 0
        have u1 : w1.cell? ⟨g3, 1, none⟩ = some (.int .i64 f.n) := (hM.box 0 rfl).facts.1 1
        have u2 : w1.cell? ⟨g3, 2, none⟩ = some (.slice a3 f.inn.length c3) := (hM.box 0 rfl).facts.1 2
        have u3 : w1.cell? ⟨g3, 3, none⟩ = some (.slice a4 f.kids.length c4) := (hM.box 0 rfl).facts.1 3
        have ul := (hM.box 0 rfl).lt
        have v5 := cellAt_w hM.ple hB.C
        have v6 := cellAt_w hM.ple hB.N
        have v5l : bC < w1.heap.size := cell_lt v5
        have v6l : bN < w1.heap.size := cell_lt v6
        have hcall := hC2.out w1 hM.ple
        clear hC1 hC2 hP1 hP2 HI hfn1 hfn2
        go_wp2_with fail
        refine hcall.mono ?_
        rintro e w5 ⟨v, ok, l, rfl, hx5, hQ, hll, hlz, hcase⟩
        have hfin := hQ.mono mono_AltR (up_laterH (H := H) (w' := w1) (w6 := w5) hl hM.ex)
        have hM5 := hM.ext hx5
        obtain ⟨z3, d3, rfl, -, -⟩ := hQ.form
        clear u0 u1 u2 u3 ul v5 v6 v5l v6l hM hQ hcall
        go_wp2_with fail
        go_ret2
        exact ⟨_, ok, l, rfl, hM5.ex, hfin, hll, hlz, hcase⟩
    | any h0 =>
      have D : divF most f false = chainO most [] (f.kids.map fun g => divF most g false) := by rw [divF_eq, if_neg (by omega), if_neg (by omega), if_neg (by omega), if_neg (by omega), if_neg (by simp [h0])]
      have D2 : divF most f true = prodO most [al0] (f.kids.map fun g => divF most g true) := by rw [divF_eq, if_neg (by omega), if_neg (by omega), if_neg (by omega), if_neg (by omega), if_pos (by simp [h0])]
      rw [D, D2]
      have b0 : (f.op == 0) = false := by rw [h0]; rfl
      have b1 : (f.op == 1) = false := by rw [h0]; rfl
      have b2 : (f.op == 2) = false := by rw [h0]; rfl
      have b3 : (f.op == 3) = false := by rw [h0]; rfl
      have b6 : (f.op == 6) = false := by rw [h0]; rfl
      have b5 : (f.op == 5) = true := by rw [h0]; rfl
      try clear D D2
      try clear D
      replace h0 := Lib.hid h0
      try simp only [Bool.false_eq_true, if_false, if_true, Bool.not_false, Bool.not_true]
      constructor
      ·
        go_enter Tryz.func98, Tryz.ntmps98
        go_upto_block 0 with (fail)
        have hws : (w.alloc (.cells #[.int .i64 f.op, .int .i64 f.n, .slice a3 f.inn.length c3, .slice a4 f.kids.length c4] 30)).heap.size = w.heap.size + 1 := by simp
        generalize hg1 : w.alloc _ = w1 at *
        generalize hg3 : w.heap.size = g3 at *
        have u0 : w1.cell? ⟨g3, 0, none⟩ = some (.int .i64 f.op) := (hM.box 0 rfl).facts.1 0
        have u1 : w1.cell? ⟨g3, 1, none⟩ = some (.int .i64 f.n) := (hM.box 0 rfl).facts.1 1
        have u2 : w1.cell? ⟨g3, 2, none⟩ = some (.slice a3 f.inn.length c3) := (hM.box 0 rfl).facts.1 2
        have u3 : w1.cell? ⟨g3, 3, none⟩ = some (.slice a4 f.kids.length c4) := (hM.box 0 rfl).facts.1 3
        have ul := (hM.box 0 rfl).lt
        have v5 := cellAt_w hM.ple hB.C
        have v6 := cellAt_w hM.ple hB.D
        have v5l : bC < w1.heap.size := cell_lt v5
        have v6l : bD < w1.heap.size := cell_lt v6
        have hcall := hC1.out w1 hM.ple
        clear hC1 hC2 hP1 hP2 HI hfn1 hfn2
        go_wp2_with fail
        refine hcall.mono ?_
        rintro e w5 ⟨v, ok, l, rfl, hx5, hQ, hll, hlz, hcase⟩
        have hfin := hQ.mono mono_AltR (up_laterH (H := H) (w' := w1) (w6 := w5) hl hM.ex)
        have hM5 := hM.ext hx5
        obtain ⟨z3, d3, rfl, -, -⟩ := hQ.form
        clear u0 u1 u2 u3 ul v5 v6 v5l v6l hM hQ hcall
        go_wp2_with fail
        go_ret2
        exact ⟨_, ok, l, rfl, hM5.ex, hfin, hll, hlz, hcase⟩
      ·
        go_enter Tryz.func100, Tryz.ntmps100
        go_upto_block 0 with (fail)
        have hws : (w.alloc (.cells #[.int .i64 f.op, .int .i64 f.n, .slice a3 f.inn.length c3, .slice a4 f.kids.length c4] 30)).heap.size = w.heap.size + 1 := by simp
        generalize hg1 : w.alloc _ = w1 at *
        generalize hg3 : w.heap.size = g3 at *
        have u0 : w1.cell? ⟨g3, 0, none⟩ = some (.int .i64 f.op) := (hM.box 0 rfl).facts.1 0
        have u1 : w1.cell? ⟨g3, 1, none⟩ = some (.int .i64 f.n) := (hM.box 0 rfl).facts.1 1
        have u2 : w1.cell? ⟨g3, 2, none⟩ = some (.slice a3 f.inn.length c3) := (hM.box 0 rfl).facts.1 2
        have u3 : w1.cell? ⟨g3, 3, none⟩ = some (.slice a4 f.kids.length c4) := (hM.box 0 rfl).facts.1 3
        have ul := (hM.box 0 rfl).lt
        have v5 := cellAt_w hM.ple hB.P
        have v6 := cellAt_w hM.ple hB.N
        have v5l : bP < w1.heap.size := cell_lt v5
        have v6l : bN < w1.heap.size := cell_lt v6
        have hcall := hP2.out w1 hM.ple
        clear hC1 hC2 hP1 hP2 HI hfn1 hfn2
        go_wp2_with fail
        refine hcall.mono ?_
        rintro e w5 ⟨v, ok, l, rfl, hx5, hQ, hll, hlz, hcase⟩
        have hfin := hQ.mono mono_AltR (up_laterH (H := H) (w' := w1) (w6 := w5) hl hM.ex)
        have hM5 := hM.ext hx5
        obtain ⟨z3, d3, rfl, -, -⟩ := hQ.form
        clear u0 u1 u2 u3 ul v5 v6 v5l v6l hM hQ hcall
        go_wp2_with fail
        go_ret2
        exact ⟨_, ok, l, rfl, hM5.ex, hfin, hll, hlz, hcase⟩
def ListsQ (w : World) (H : PH) (most : Nat) (e : Ending) (w' : World) : Prop := ∃ bM bD bN bC bP, e = .returned (.tuple #[.func (.func 98) #[] #[.pointer (some ⟨bN, 0, none⟩), .pointer (some ⟨bC, 0, none⟩), .pointer (some ⟨bD, 0, none⟩), .pointer (some ⟨bP, 0, none⟩)], .func (.func 100) #[] #[.pointer (some ⟨bD, 0, none⟩), .pointer (some ⟨bP, 0, none⟩), .pointer (some ⟨bN, 0, none⟩), .pointer (some ⟨bC, 0, none⟩)]]) ∧ Ext w w' ∧ BoxL (up H w w') most bM bD bN bC bP
theorem up_at {H : PH} {w0 w : World} {b : Nat} {v : Value} (hx : Ext w0 w) (hb : w0.heap.size ≤ b) (h : w.cell? ⟨b, 0, none⟩ = some v) : cellAt (up H w0 w) b 0 = some v := by
  rw [cell_ph] at h
  unfold cellAt at h ⊢
  unfold up
  rw [if_neg (by omega)]
  exact h
set_option maxRecDepth 100000 in
set_option maxHeartbeats 2000000 in
theorem lists_c (H : PH) (most : Nat) (w : World) (hl : PLe H (ph w)) : Calls Tryz.prog 43 #[.int .i64 most] w (ListsQ w H most) := by
  have hM := (((((Mem.start w H hl).new' #[.int .i64 most] 3 (n := w.heap.size) rfl).new' #[.func (.func 98) #[] #[.pointer (some ⟨w.heap.size + 1 + 1, 0, none⟩), .pointer (some ⟨w.heap.size + 1 + 1 + 1, 0, none⟩), .pointer (some ⟨w.heap.size + 1, 0, none⟩), .pointer (some ⟨w.heap.size + 1 + 1 + 1 + 1, 0, none⟩)]] 96 (n := w.heap.size + 1) (by simp)).new' #[.func (.func 100) #[] #[.pointer (some ⟨w.heap.size + 1, 0, none⟩), .pointer (some ⟨w.heap.size + 1 + 1 + 1 + 1, 0, none⟩), .pointer (some ⟨w.heap.size + 1 + 1, 0, none⟩), .pointer (some ⟨w.heap.size + 1 + 1 + 1, 0, none⟩)]] 96 (n := w.heap.size + 1 + 1) (by simp)).new' #[.func (.func 95) #[] #[.pointer (some ⟨w.heap.size, 0, none⟩)]] 153 (n := w.heap.size + 1 + 1 + 1) (by simp)).new' #[.func (.func 96) #[] #[.pointer (some ⟨w.heap.size, 0, none⟩)]] 153 (n := w.heap.size + 1 + 1 + 1 + 1) (by simp)
  simp only [List.nil_append, List.cons_append] at hM
  go_enter Tryz.func43, Tryz.ntmps43
  go_upto_region 6 with (fail)
  generalize World.alloc _ _ = w1 at *
  have k0 := (hM.box 0 rfl).facts.1 0
  have k1 := (hM.box 1 rfl).facts.1 0
  have k2 := (hM.box 2 rfl).facts.1 0
  have k3 := (hM.box 3 rfl).facts.1 0
  have k4 := (hM.box 4 rfl).facts.1 0
  have l1 := (hM.box 1 rfl).lt
  have l2 := (hM.box 2 rfl).lt
  have hx := hM.ex
  have hg : ∀ (b : Nat) (v : Value), w.heap.size ≤ b → w1.cell? ⟨b, 0, none⟩ = some v → cellAt (up H w w1) b 0 = some v := fun b v h1 h2 => up_at hx h1 h2
  have hB : BoxL (up H w w1) most w.heap.size (w.heap.size + 1) (w.heap.size + 1 + 1) (w.heap.size + 1 + 1 + 1) (w.heap.size + 1 + 1 + 1 + 1) := ⟨hg _ _ (by omega) k0, hg _ _ (by omega) k1, hg _ _ (by omega) k2, hg _ _ (by omega) k3, hg _ _ (by omega) k4⟩
  clear k0 k3 k4 hM hg
  have k1' : _ = some (Value.func _ _ _) := k1
  have k2' : _ = some (Value.func _ _ _) := k2
  clear k1 k2
  generalize hg1 : w.heap.size = g at *
  refine wp_region_any (by kernel_rfl) ?_
  change wpAny _ _ _ _ _ _ _ (World.drew _)
  have hxd : Ext w1 w1.drew := (Ext.rfl' w1).drew'
  replace hB : BoxL (up H w w1.drew) most g (g + 1) (g + 1 + 1) (g + 1 + 1 + 1) (g + 1 + 1 + 1 + 1) := ⟨cellAt_mono (up_then hx hxd) hB.M, cellAt_mono (up_then hx hxd) hB.D, cellAt_mono (up_then hx hxd) hB.N, cellAt_mono (up_then hx hxd) hB.C, cellAt_mono (up_then hx hxd) hB.P⟩
  replace hx := hx.then hxd
  replace k1' := hxd.cell1 k1'
  replace k2' := hxd.cell1 k2'
  replace l1 : g + 1 < w1.drew.heap.size := cell_lt k1'
  replace l2 : g + 1 + 1 < w1.drew.heap.size := cell_lt k2'
  clear hxd
  generalize World.drew _ = w2 at *
  (refine wpAny_ready (rs := [0, 1]) (by kernel_rfl) (by simp) ?_; refine AllReady.cons rfl (fun K hK => ?_) (AllReady.cons rfl (fun K hK => ?_) AllReady.nil); (focus (go_simp; refine hK _ _ ?_; clear hK K)); rotate_left; (focus (go_simp; refine hK _ _ ?_; clear hK K)); rotate_left)
  · (refine wpAny_ready (rs := [1, 2]) (by kernel_rfl) (by simp) ?_; refine AllReady.cons rfl (fun K hK => ?_) (AllReady.cons rfl (fun K hK => ?_) AllReady.nil); (focus (go_simp; refine hK _ _ ?_; clear hK K)); rotate_left; (focus (go_simp; refine hK _ _ ?_; clear hK K)); rotate_left)
    · (refine wpAny_ready (rs := [2]) (by kernel_rfl) (by simp) ?_; refine AllReady.cons rfl (fun K hK => ?_) AllReady.nil; go_simp; refine hK _ _ ?_; clear hK K)
      (refine wpAny_ready (rs := [3]) (by kernel_rfl) (by simp) ?_; refine AllReady.cons rfl (fun K hK => ?_) AllReady.nil; go_simp; refine hK _ _ ?_; clear hK K)
      refine wpAny_done (by kernel_rfl) ?_ _
      try simp only [List.getElem_toArray, List.getElem_cons_succ, List.getElem_cons_zero, Act.put, List.setIfInBounds_toArray, List.set_cons_zero, List.set_cons_succ]
      go_wp2_with fail
      go_ret2
      exact ⟨_, _, _, _, _, rfl, hx, hB⟩
    · (refine wpAny_ready (rs := [1]) (by kernel_rfl) (by simp) ?_; refine AllReady.cons rfl (fun K hK => ?_) AllReady.nil; go_simp; refine hK _ _ ?_; clear hK K)
      (refine wpAny_ready (rs := [3]) (by kernel_rfl) (by simp) ?_; refine AllReady.cons rfl (fun K hK => ?_) AllReady.nil; go_simp; refine hK _ _ ?_; clear hK K)
      refine wpAny_done (by kernel_rfl) ?_ _
      try simp only [List.getElem_toArray, List.getElem_cons_succ, List.getElem_cons_zero, Act.put, List.setIfInBounds_toArray, List.set_cons_zero, List.set_cons_succ]
      go_wp2_with fail
      go_ret2
      exact ⟨_, _, _, _, _, rfl, hx, hB⟩
  · (refine wpAny_ready (rs := [0]) (by kernel_rfl) (by simp) ?_; refine AllReady.cons rfl (fun K hK => ?_) AllReady.nil; go_simp; refine hK _ _ ?_; clear hK K)
    (refine wpAny_ready (rs := [2]) (by kernel_rfl) (by simp) ?_; refine AllReady.cons rfl (fun K hK => ?_) AllReady.nil; go_simp; refine hK _ _ ?_; clear hK K)
    (refine wpAny_ready (rs := [3]) (by kernel_rfl) (by simp) ?_; refine AllReady.cons rfl (fun K hK => ?_) AllReady.nil; go_simp; refine hK _ _ ?_; clear hK K)
    refine wpAny_done (by kernel_rfl) ?_ _
    try simp only [List.getElem_toArray, List.getElem_cons_succ, List.getElem_cons_zero, Act.put, List.setIfInBounds_toArray, List.set_cons_zero, List.set_cons_succ]
    go_wp2_with fail
    go_ret2
    exact ⟨_, _, _, _, _, rfl, hx, hB⟩
end Go.Proofs.YtabajghokhfmhaaGreat
namespace Go.Proofs.YtabajghokhfmhaaGreat
open Go.RowKit
mutual
def lowF (n : Int) : Fm → Bool
  | .mk op m inn kids => (!decide (op = 1) || decide (m < n)) && lowFs n kids
def lowFs (n : Int) : List Fm → Bool
  | [] => true
  | f :: l => lowF n f && lowFs n l
end
theorem lowFs_eq (n : Int) : ∀ l : List Fm, lowFs n l = l.all (lowF n)
  | [] => rfl
  | f :: l => by rw [lowFs, List.all_cons, lowFs_eq n l]
theorem lowF_eq (n : Int) (f : Fm) : lowF n f = ((!decide (f.op = 1) || decide (f.n < n)) && f.kids.all (lowF n)) := by
  cases f with
  | mk op m inn kids => rw [lowF, lowFs_eq]; rfl
theorem wholeN_low (n : Int) (f : Fm) : wholeN n f = (wholeB f && lowF n f) := by
  induction f using Fm.ind with
  | h f ih =>
    rw [wholeN_eq, wholeB_eq, lowF_eq]
    have : f.kids.all (wholeN n) = (f.kids.all wholeB && f.kids.all (lowF n)) := by
      rw [Bool.eq_iff_iff, Bool.and_eq_true]
      simp only [List.all_eq_true]
      constructor
      · intro h
        exact ⟨fun x hx => by have := h x hx; rw [ih x hx, Bool.and_eq_true] at this; exact this.1, fun x hx => by have := h x hx; rw [ih x hx, Bool.and_eq_true] at this; exact this.2⟩
      · rintro ⟨h1, h2⟩ x hx
        rw [ih x hx, h1 x hx, h2 x hx]; rfl
    rw [this]
    cases formed1 f <;> cases (!decide (f.op = 1) || decide (f.n < n)) <;> cases f.kids.all wholeB <;> cases f.kids.all (lowF n) <;> rfl
end Go.Proofs.YtabajghokhfmhaaGreat
namespace Go.Proofs.YtabajghokhfmhaaGreat
open Go.RowKit Go.Shelf
set_option maxHeartbeats 1000000 in
theorem known_of {H : PH} (n : Int) (l : List Fm) (v : Value) (w : World) (hl : PLe H (ph w)) (hr : FmsR H v l)
    (hf : ∀ x ∈ l, ∀ wr cs b, PLe H (ph wr) → FmR H cs x → wr.cell? ⟨b, 0, none⟩ = some (.int .i64 n) → Calls Tryz.prog 94 #[.agg cs.toArray, .pointer (some ⟨b, 0, none⟩)] wr (RetV wr (.bool (!lowF n x)))) :
    Calls Tryz.prog 41 #[.int .i64 n, v] w (RetV w (.bool (l.all (lowF n)))) := by
  have ho := Proofs.YtabajghokhfmhaaGreat.Own.new w #[.int .i64 n] 3
  have ex : Ext w (w.alloc (.cells #[.int .i64 n] 3)) := Ext.new _ _
  have hb : l.all (lowF n) = !(l.any fun x => !lowF n x) := by rw [List.not_any_eq_all_not]; simp
  have hc := containsFm_P (H := H) 94 #[.pointer (some ⟨w.heap.size, 0, none⟩)] v l hr (fun x => !lowF n x) (w.alloc (.cells #[.int .i64 n] 3)) (hl.trans ex.ple) (fun args w => enterFn Tryz.func94 rfl rfl args w)
    (fun x hx wr cs he hE => hf x hx wr cs w.heap.size ((hl.trans ex.ple).trans he.ple) hE (he.cell1 (ho.facts.1 0)))
  rw [hb]
  obtain ⟨va, vc, rfl, -, -⟩ := hr.form
  generalize (l.any fun x => !lowF n x) = r at *
  go_enter Tryz.func41, Tryz.ntmps41
  go_upto_region 1 with (fail)
  generalize w.alloc _ = w1 at *
  go_wp2_with fail
  refine RetV_at hc ?_
  intro w2 hx2
  go_wp2_with fail
  go_ret
  exact ⟨rfl, ex.then hx2⟩
set_option maxHeartbeats 2000000 in
theorem known1_c (n : Int) (f : Fm) : ∀ (H : PH) (w : World) (cs : List Value) (b : Nat), PLe H (ph w) → FmR H cs f → w.cell? ⟨b, 0, none⟩ = some (.int .i64 n) →
    Calls Tryz.prog 94 #[.agg cs.toArray, .pointer (some ⟨b, 0, none⟩)] w (RetV w (.bool (!lowF n f))) := by
  induction f using Fm.ind with
  | h f ih =>
    intro H w cs b hl hr hc
    obtain ⟨a3, c3, a4, c4, rfl, -, -, -, hlen, -, hp⟩ := hr.form
    unfold fmC at *
    have hkn := fun w' (h : PLe H (ph w')) => known_of n f.kids _ w' h hp fun x hx wr cs b h1 h2 h3 => ih x hx H wr cs b h1 h2 h3
    replace hkn := Lib.hid hkn
    have ho := Proofs.YtabajghokhfmhaaGreat.Own.new w #[.int .i64 f.op, .int .i64 f.n, .slice a3 f.inn.length c3, .slice a4 f.kids.length c4] 30
    have ex : Ext w (w.alloc (.cells #[.int .i64 f.op, .int .i64 f.n, .slice a3 f.inn.length c3, .slice a4 f.kids.length c4] 30)) := Ext.new _ _
    have hbl := cell_lt hc
    by_cases hbad : f.op = 1 ∧ n ≤ f.n
    · have hv : (!lowF n f) = true := by rw [lowF_eq]; simp [hbad.1]; omega
      have b1 : (f.op == 1) = true := by simp [hbad.1]
      have b2 : decide (n ≤ f.n) = true := by simp [hbad.2]
      rw [hv]
      clear hbad hv ih hkn hp hr
      go_enter Tryz.func94, Tryz.ntmps94
      go_upto_region 1 with (fail)
      generalize w.alloc _ = w1 at *
      generalize w.heap.size = g at *
      have u0 : _ = some (Value.int .i64 f.op) := ho.facts.1 0
      have u1 : _ = some (Value.int .i64 f.n) := ho.facts.1 1
      have ul := ho.lt
      replace hc := ex.cell1 hc
      replace hbl := cell_lt hc
      go_wp2_with fail
      go_ret
      exact ⟨rfl, xE⟩
    · have hv : lowF n f = f.kids.all (lowF n) := by
        rw [lowF_eq]
        have : (!decide (f.op = 1) || decide (f.n < n)) = true := by simp; omega
        rw [this, Bool.true_and]
      rw [hv]
      generalize f.kids.all (lowF n) = r at *
      have bb : ((f.op == 1) = true ∧ decide (n ≤ f.n) = false) ∨ (f.op == 1) = false := by
        by_cases h : f.op = 1
        · exact .inl ⟨by simp [h], by simp; omega⟩
        · exact .inr (by simp [h])
      clear hbad hv ih hr
      go_enter Tryz.func94, Tryz.ntmps94
      go_upto_region 1 with (fail)
      have hlw := hl.trans ex.ple
      generalize w.alloc _ = w1 at *
      generalize w.heap.size = g at *
      have u0 : _ = some (Value.int .i64 f.op) := ho.facts.1 0
      have u1 : _ = some (Value.int .i64 f.n) := ho.facts.1 1
      have u3 : _ = some (Value.slice a4 f.kids.length c4) := ho.facts.1 3
      have ul := ho.lt
      replace hc := ex.cell1 hc
      replace hbl := cell_lt hc
      rcases bb with ⟨b1, b2⟩ | b1
      · go_wp2_with fail
        refine RetV_at (hkn.out w1 hlw) ?_
        intro w2 hx2
        go_wp2_with fail
        go_ret
        exact ⟨rfl, xE⟩
      · go_wp2_with fail
        refine RetV_at (hkn.out w1 hlw) ?_
        intro w2 hx2
        go_wp2_with fail
        go_ret
        exact ⟨rfl, xE⟩
theorem known_c (n : Int) (l : List Fm) (v : Value) (w : World) (hr : FmsR (ph w) v l) : Calls Tryz.prog 41 #[.int .i64 n, v] w (RetV w (.bool (l.all (lowF n)))) :=
  known_of n l v w (PLe.refl _) hr fun x hx wr cs b h1 h2 h3 => known1_c n x _ wr cs b h1 h2 h3
theorem infoRn : (Tryz.prog.info? 70).map (fun i => (i.zero, i.size, i.bytes)) = some (some (.agg #[.int .i64 0, .slice none 0 0, .bool false]), 3, 40) := by kernel_rfl
theorem rep1 {α : Type} {E : PH → List Value → α → Prop} {sz : Nat} {H : PH} {wr w' : World} (hl : PLe H (ph wr)) (hx : Ext wr w') (hm : Mono E) {cs : List Value} {x : α} {T : TypeId} (hE : E H cs x) (hn : cs.length = sz) :
    SliceRep E sz (up H wr (w'.alloc (.cells cs.toArray T))) (.slice (some ⟨w'.heap.size, 0, none⟩) 1 1) [x] := by
  have hM := (((Mem.start wr H hl).ext hx).new' cs.toArray T (n := w'.heap.size) rfl).asOwn 0 rfl hm (xs := [x]) (n := 1) (sz := sz) (by simp) (by decide) (by simp [hn]) ⟨cs, [], by simp [← hn], hn, hE, rfl⟩
  exact hM.repUp 0 rfl
def PlainQ (w : World) (H : PH) (x : Al) (e : Ending) (w' : World) : Prop := ∃ ds, e = .returned (.agg (ds : List Value).toArray) ∧ Ext w w' ∧ AltR (up H w w') ds x
set_option maxRecDepth 100000 in
set_option maxHeartbeats 4000000 in
theorem plain_nc {H : PH} (x : Al) (cs : List Value) (w : World) (hl : PLe H (ph w)) (hr : AltR H cs x) (hn : x.nums.length ≤ 1000000) : Calls Tryz.prog 20 #[.agg cs.toArray] w (PlainQ w H x) := by
  obtain ⟨i1, j1, i2, j2, i3, j3, i4, j4, i5, j5, rfl, r1, r2, r3, r4, r5⟩ := hr
  have hM0 := ((((Mem.start w H hl).new' #[.slice i1 x.yes.length j1, .slice i2 x.no.length j2, .slice i3 x.nums.length j3, .slice i4 x.has.length j4, .slice i5 x.non.length j5] 53 (n := w.heap.size) rfl).new' #[.slice none 0 0, .slice none 0 0, .slice none 0 0, .slice none 0 0, .slice none 0 0] 49 (n := w.heap.size + 1) (by simp)).new' #[.slice i1 x.yes.length j1, .slice i2 x.no.length j2, .slice none 0 0, .slice i4 x.has.length j4, .slice i5 x.non.length j5] 49 (n := w.heap.size + 2) (by simp)).nil mono_NumR 3 70
  simp only [List.nil_append, List.cons_append] at hM0
  go_enter Tryz.func20, Tryz.ntmps20
  go_upto_region 2 with (fail)
  generalize World.alloc _ _ = w1 at *
  generalize hg1 : w.heap.size = g1 at *
  go_wp2_with fail
  go_loopw [4] (fun i wr => ∃ (k : Nat) (vo : Value) (H2 : PH), k ≤ x.nums.length ∧ i = .int .i64 k ∧ PLe H H2 ∧ Mem w H [box g1 #[.slice i1 x.yes.length j1, .slice i2 x.no.length j2, .slice i3 x.nums.length j3, .slice i4 x.has.length j4, .slice i5 x.non.length j5] 53, box (g1 + 1) #[.slice none 0 0, .slice none 0 0, .slice none 0 0, .slice none 0 0, .slice none 0 0] 49, box (g1 + 2) #[.slice i1 x.yes.length j1, .slice i2 x.no.length j2, vo, .slice i4 x.has.length j4, .slice i5 x.non.length j5] 49, own mono_NumR 3 70 vo (x.nums.take k)] H2 wr) (fun i _ => x.nums.length - (intOf i).toNat)
  case atStart => exact ⟨0, _, H, Nat.zero_le _, rfl, PLe.refl _, hM0⟩
  case round =>
    clear hM0
    obtain ⟨k, vo, H2, hk, rfl, hl2, hM⟩ := hrel
    obtain ⟨oo, oc, rfl, hol⟩ := hM.form 3 rfl
    have u0 : _ = some (Value.slice i1 x.yes.length j1) := (hM.box 0 rfl).facts.1 0
    have u2 : _ = some (Value.slice i3 x.nums.length j3) := (hM.box 0 rfl).facts.1 2
    have ul := (hM.box 0 rfl).lt
    by_cases hlt : k < x.nums.length
    · have hlen : (x.nums.take k).length ≤ k := by rw [List.length_take]; omega
      obtain ⟨b, o, a1, c1, rfl, z0, z1, z2, hI, hIt, zl⟩ := NumsR.atH r3 (hl2.trans hM.ple) k hlt
      have htk : Hid (x.nums.take (k + 1) = x.nums.take k ++ [x.nums[k]]) := Lib.hid (List.take_succ_eq_append_getElem hlt)
      have hE : NumR H2 [.int .i64 x.nums[k].attr, .slice a1 x.nums[k].inn.length c1, .bool x.nums[k].abs] x.nums[k] := ⟨_, _, rfl, hI, hIt.mono mono_ItvR hl2⟩
      have hHr := hM.ple
      generalize x.nums[k] = y at *
      have hal : (x.nums.take k).length ≤ k := hlen
      clear hlen
      generalize x.nums.take k = xs at *
      have v2 : _ = some (Value.slice oo xs.length oc) := (hM.box 2 rfl).facts.1 2
      have vl := (hM.box 2 rfl).lt
      go_upto_region 5 with (fail)
      (refine wp_region_I 22 (by kernel_rfl) (by kernel_rfl) ?_; simp only [List.toList_toArray, List.take_succ_cons, List.take_zero, List.drop_succ_cons, List.drop_zero])
      iterate 21 (refine wiA rfl (by simp) rfl ?_; (try simp only [List.nil_append, List.cons_append]))
      (refine walkI_step ((fun v w' => ∃ b5, v = .slice (some ⟨b5, 0, none⟩) 1 1 ∧ NumsR (up H2 wr w') (.slice (some ⟨b5, 0, none⟩) 1 1) [y])) rfl (by simp) rfl ((fun v w w' hS ⟨b5, h1, h2⟩ e' => ⟨b5, h1, h2.mono mono_NumR (up_then hS e')⟩)) ?_ ?_; (focus (intro A w' hS hA K hK; (simp only [List.map_cons, List.map_nil, knows, Is, Op.operands, Call.operands, List.lookup_cons, List.lookup_nil, Nat.reduceBEq, Bool.false_eq_true, if_false, if_true, Act.eval, Array.getD_eq_getD_getElem?, List.getElem?_toArray, List.getElem?_cons_succ, List.getElem?_cons_zero, Option.getD_some, and_true, true_and, List.append_toArray, List.nil_append, List.cons_append, List.toList_toArray, Array.toList_append, Option.toArray, List.append_nil] at hA); (go_simp; exact hK _ _ (Ext.new _ _) ⟨_, rfl, rep1 hHr hS mono_NumR hE rfl⟩))); (try simp only [List.nil_append, List.cons_append]))
      (refine walkI_nil ?_; simp only [List.nil_append, List.cons_append, fins, Is, forall_eq, Act.put, List.setIfInBounds_toArray, List.set_cons_zero, List.set_cons_succ])
      rintro w5 hx5 v42 ⟨b5, rfl, hQ⟩
      have hM5 := hM.up hx5
      have hl5 : PLe H2 (up H2 wr w5) := ple_up hHr
      generalize up H2 wr w5 = H5 at *
      clear u0 u2 ul v2 vl z0 z1 z2 zl hM hx5 hHr hE
      have hS := Src.ofRep hQ hM5.ple
      go_wp2_with (first | (at_builtin; refine wpList_append_M 3 rfl _ _ 47 rfl Tryz.underlying47 infoRn rfl rfl rfl hM5 rfl hS one_NumR ?c3 ?c4 ?c5))
      case c3 => simp only [List.length_singleton]; omega
      case c4 => simp only [List.length_singleton]; omega
      case c5 =>
        intro v' w6 hM6
        try simp only [List.set_cons_zero, List.set_cons_succ] at hM6
        rw [← htk.out] at hM6
        obtain ⟨va, vc, rfl, -⟩ := hM6.form 3 rfl
        generalize hnl : (x.nums.take (k + 1)).length = nl at *
        obtain ⟨-, zf⟩ := (hM6.box 2 rfl).facts
        have zl := (hM6.box 2 rfl).lt
        have z2 : _ = some (Value.slice oo xs.length oc) := (hM6.box 2 rfl).facts.1 2
        have hM7 := hM6.set 2 rfl 2 (.slice va nl vc)
        simp only [List.set_cons_zero, List.set_cons_succ, List.setIfInBounds_toArray] at hM7
        clear hM6 hM5 hS
        go_wp2_with fail
        go_roundw
        case rel => exact ⟨k + 1, _, H5, by omega, by go_num, hl2.trans hl5, hM7⟩
        case measure => simp [intOf]; omega
    · have hkk : k = x.nums.length := by omega
      subst hkk
      rw [List.take_length] at hM
      have t0 : _ = some (Value.slice i1 x.yes.length j1) := (hM.box 2 rfl).facts.1 0
      have t1 : _ = some (Value.slice i2 x.no.length j2) := (hM.box 2 rfl).facts.1 1
      have t2 : _ = some (Value.slice oo x.nums.length oc) := (hM.box 2 rfl).facts.1 2
      have t3 : _ = some (Value.slice i4 x.has.length j4) := (hM.box 2 rfl).facts.1 3
      have t4 : _ = some (Value.slice i5 x.non.length j5) := (hM.box 2 rfl).facts.1 4
      have tl := (hM.box 2 rfl).lt
      have rz0 : _ = some (Value.slice none 0 0) := (hM.box 1 rfl).facts.1 0
      have rz1 : _ = some (Value.slice none 0 0) := (hM.box 1 rfl).facts.1 1
      have rz2 : _ = some (Value.slice none 0 0) := (hM.box 1 rfl).facts.1 2
      have rz3 : _ = some (Value.slice none 0 0) := (hM.box 1 rfl).facts.1 3
      have rz4 : _ = some (Value.slice none 0 0) := (hM.box 1 rfl).facts.1 4
      obtain ⟨-, rzf⟩ := (hM.box 1 rfl).facts
      have rzl := (hM.box 1 rfl).lt
      have hM8 := hM.setA 1 rfl (.slice i1 x.yes.length j1) (.slice i2 x.no.length j2) (.slice oo x.nums.length oc) (.slice i4 x.has.length j4) (.slice i5 x.non.length j5)
      simp only [List.set_cons_zero, List.set_cons_succ] at hM8
      clear hM
      go_wp2_with fail
      generalize World.setCell _ _ _ = w9 at *
      obtain ⟨rq', -⟩ := (hM8.box 1 rfl).facts
      have rq0 : _ = some (Value.slice i1 x.yes.length j1) := rq' 0
      have rq1 : _ = some (Value.slice i2 x.no.length j2) := rq' 1
      have rq2 : _ = some (Value.slice oo x.nums.length oc) := rq' 2
      have rq3 : _ = some (Value.slice i4 x.has.length j4) := rq' 3
      have rq4 : _ = some (Value.slice i5 x.non.length j5) := rq' 4
      refine bodyPost_ret (v := .agg #[.slice i1 x.yes.length j1, .slice i2 x.no.length j2, .slice oo x.nums.length oc, .slice i4 x.has.length j4, .slice i5 x.non.length j5]) (by simp [results, Tryz.results20, go_sem, rq0, rq1, rq2, rq3, rq4]) rfl ?_
      have hu : PLe H (up H w w9) := hl2.trans hM8.ub
      exact ⟨_, rfl, hM8.ex, ⟨_, _, _, _, _, _, _, _, _, _, rfl, r1.mono mono_IntR hu, r2.mono mono_IntR hu, hM8.repUp 3 rfl, r4.mono mono_FmR hu, r5.mono mono_FmR hu⟩⟩
def altsN (f : Fm) (n : Int) (most : Int) : List Al × Int :=
  if most < 1 ∨ 64 < most then ([], 1)
  else if validF f ≠ 0 then ([], validF f)
  else if lowF n f = false then ([], 7)
  else match divF most.toNat f false with
    | some r => (r, 0)
    | none => ([], 4)
def AltsN (w : World) (H : PH) (r : List Al × Int) (e : Ending) (w' : World) : Prop := ∃ v, e = .returned (.tuple #[v, .int .i64 r.2]) ∧ Ext w w' ∧ AltsR (up H w w') v r.1
set_option maxRecDepth 100000 in
set_option maxHeartbeats 4000000 in
theorem alts_nc {ps : List (List Int)} {B : Nat} {H : PH} (hn : ps.length ≤ 64) (f : Fm) (cs : List Value) (most : Int) (w : World) (hl : PLe H (ph w)) (hT : TaxR w B ps) (hr : FmR H cs f) (hb : f.bulk ≤ 900000) (hm : I64 most) :
    Calls Tryz.prog 14 #[.pointer (some ⟨B, 0, none⟩), .agg cs.toArray, .int .i64 most] w (AltsN w H (altsN f ps.length most)) := by
  have hr0 := hr
  obtain ⟨a3, c3, a4, c4, rfl, -⟩ := hr.form
  have hM := (Mem.start w H hl).new' #[.int .i64 f.op, .int .i64 f.n, .slice a3 f.inn.length c3, .slice a4 f.kids.length c4] 30 (n := w.heap.size) rfl
  simp only [List.nil_append] at hM
  unfold fmC at hr ⊢
  by_cases hlim : most < 1 ∨ 64 < most
  · have hv : altsN f ps.length most = ([], 1) := by unfold altsN; rw [if_pos hlim]
    rw [hv]
    clear hv hr hr0
    have bb : decide (most < 1) = true ∨ (decide (most < 1) = false ∧ decide (64 < most) = true) := by
      by_cases h : most < 1
      · exact .inl (by simpa using h)
      · exact .inr ⟨by simpa using h, by simp; omega⟩
    clear hlim
    go_enter Tryz.func14, Tryz.ntmps14
    go_upto_region 1 with (fail)
    generalize World.alloc _ _ = w1 at *
    rcases bb with b1 | ⟨b1, b2⟩
    · go_wp2_with fail
      go_ret2
      exact ⟨_, rfl, hM.ex, SliceRep.nil _ _ _⟩
    · go_wp2_with fail
      go_ret2
      exact ⟨_, rfl, hM.ex, SliceRep.nil _ _ _⟩
  have b1 : decide (most < 1) = false := by simp; omega
  have b2 : decide (64 < most) = false := by simp; omega
  obtain ⟨mo, hmo⟩ : ∃ mo : Nat, most = mo := ⟨most.toNat, by omega⟩
  have hmn : most.toNat = mo := by omega
  have hm1 : 1 ≤ mo := by omega
  have hm64 : mo ≤ 64 := by omega
  have hv1 : altsN f ps.length most = if validF f ≠ 0 then ([], validF f) else if lowF ps.length f = false then ([], 7) else match divF mo f false with | some r => (r, 0) | none => ([], 4) := by unfold altsN; rw [if_neg hlim, hmn]
  rw [hv1]
  subst hmo
  clear hv1 hmn hlim
  have hvc := Lib.hid (fun w' (e : Ext w w') => fvalid_c f _ w' (mono_FmR _ _ _ _ (hl.trans e.ple) hr0) hb)
  by_cases hval : validF f = 0
  case neg =>
    rw [if_pos hval]
    generalize validF f = er at *
    have b3 : (er != 0) = true := by simpa using hval
    clear hval hr hr0
    go_enter Tryz.func14, Tryz.ntmps14
    go_upto_region 1 with (fail)
    replace hvc := hvc.out _ hM.ex
    generalize World.alloc _ _ = w1 at *
    generalize hg : w.heap.size = g at *
    have u0 : _ = some (Value.int .i64 f.op) := (hM.box 0 rfl).facts.1 0
    have u1 : _ = some (Value.int .i64 f.n) := (hM.box 0 rfl).facts.1 1
    have u2 : _ = some (Value.slice a3 f.inn.length c3) := (hM.box 0 rfl).facts.1 2
    have u3 : _ = some (Value.slice a4 f.kids.length c4) := (hM.box 0 rfl).facts.1 3
    have ul := (hM.box 0 rfl).lt
    go_wp2_with fail
    refine RetV_at hvc ?_
    intro w2 hx2
    go_wp2_with fail
    go_ret2
    exact ⟨_, rfl, hM.ex.then hx2, SliceRep.nil _ _ _⟩
  rw [if_neg (by simp [hval])]
  have hvb := valid_bulk hval
  have hw := (validF_0 hval).2.2
  rw [hval] at hvc
  have b3 : ((0 : Int) != 0) = false := rfl
  have hX : ∀ X, X = (if lowF ps.length f = false then (([], 7) : List Al × Int) else match divF mo f false with | some r => (r, 0) | none => ([], 4)) → (lowF ps.length f = false → X = ([], 7)) ∧ (lowF ps.length f = true → divF mo f false = none → X = ([], 4)) ∧ (∀ r, lowF ps.length f = true → divF mo f false = some r → X = (r, 0)) := by
    rintro X rfl
    exact ⟨fun h => by rw [if_pos h], fun h h2 => by rw [if_neg (by simp [h]), h2], fun r h h2 => by rw [if_neg (by simp [h]), h2]⟩
  replace hX := hX _ rfl
  generalize (if lowF ps.length f = false then (([], 7) : List Al × Int) else match divF mo f false with | some r => (r, 0) | none => ([], 4)) = X at *
  obtain ⟨hX1, hX2, hX3⟩ := hX
  replace hX1 := Lib.hid hX1
  replace hX2 := Lib.hid hX2
  replace hX3 := Lib.hid hX3
  go_enter Tryz.func14, Tryz.ntmps14
  go_upto_region 1 with (fail)
  have hH1 := hM.ple
  replace hvc := hvc.out _ hM.ex
  replace hT := hT.keep hM.ex
  generalize World.alloc _ _ = w1 at *
  generalize hg : w.heap.size = g at *
  have u0 : _ = some (Value.int .i64 f.op) := (hM.box 0 rfl).facts.1 0
  have u1 : _ = some (Value.int .i64 f.n) := (hM.box 0 rfl).facts.1 1
  have u2 : _ = some (Value.slice a3 f.inn.length c3) := (hM.box 0 rfl).facts.1 2
  have u3 : _ = some (Value.slice a4 f.kids.length c4) := (hM.box 0 rfl).facts.1 3
  have ul := (hM.box 0 rfl).lt
  go_wp2_with fail
  refine RetV_at hvc ?_
  intro w2 hx2
  replace u0 := hx2.cell1 u0
  replace u1 := hx2.cell1 u1
  replace u2 := hx2.cell1 u2
  replace u3 := hx2.cell1 u3
  replace ul := cell_lt u0
  replace hM := hM.ext hx2
  replace hT := hT.keep hx2
  have hH2 := hM.ple
  clear hvc hx2
  go_upto_region 6 with (fail)
  (refine wp_region_I 6 (by kernel_rfl) (by kernel_rfl) ?_; simp only [List.toList_toArray, List.take_succ_cons, List.take_zero, List.drop_succ_cons, List.drop_zero])
  (refine wiA rfl (by simp) rfl ?_; (try simp only [List.nil_append, List.cons_append]))
  (refine walkI_is (u := ?_) rfl (by simp) rfl ?_ ?_; rotate_left; (focus (intro A w' hS hA K hK; (simp only [List.map_cons, List.map_nil, knows, Is, Op.operands, Call.operands, List.lookup_cons, List.lookup_nil, Nat.reduceBEq, Bool.false_eq_true, if_false, if_true, Act.eval, Array.getD_eq_getD_getElem?, List.getElem?_toArray, List.getElem?_cons_succ, List.getElem?_cons_zero, Option.getD_some, and_true, true_and, List.append_toArray, List.nil_append, List.cons_append, List.toList_toArray, Array.toList_append, Option.toArray, List.append_nil] at hA); first | (go_simp; refine (lenTx_c (hT.keep hS)).mono ?_; rintro e w9 ⟨rfl, hx9⟩; exact hK _ hx9) | (obtain ⟨hSc, hSf, hSs⟩ := hS.cells; go_simp; exact hK _ xN))); (try simp only [List.nil_append, List.cons_append]))
  (refine wiA rfl (by simp) rfl ?_; (try simp only [List.nil_append, List.cons_append]))
  (refine walkI_step ((fun v w' => ∃ b5, v = .slice (some ⟨b5, 0, none⟩) 1 1 ∧ FmsR (up H w2 w') (.slice (some ⟨b5, 0, none⟩) 1 1) [f])) rfl (by simp) rfl ((fun v w w' hS ⟨b5, h1, h2⟩ e' => ⟨b5, h1, h2.mono mono_FmR (up_then hS e')⟩)) ?_ ?_; (focus (intro A w' hS hA K hK; (simp only [List.map_cons, List.map_nil, knows, Is, Op.operands, Call.operands, List.lookup_cons, List.lookup_nil, Nat.reduceBEq, Bool.false_eq_true, if_false, if_true, Act.eval, Array.getD_eq_getD_getElem?, List.getElem?_toArray, List.getElem?_cons_succ, List.getElem?_cons_zero, Option.getD_some, and_true, true_and, List.append_toArray, List.nil_append, List.cons_append, List.toList_toArray, Array.toList_append, Option.toArray, List.append_nil] at hA); (go_simp; exact hK _ _ (Ext.new _ _) ⟨_, rfl, rep1 hH2 hS mono_FmR hr0 rfl⟩))); (try simp only [List.nil_append, List.cons_append]))
  (refine walkI_is (u := (.bool (lowF ps.length f))) rfl (by simp) rfl ?_ ?_; (focus (intro A w' hS hA K hK; (simp only [List.map_cons, List.map_nil, knows, Is, Op.operands, Call.operands, List.lookup_cons, List.lookup_nil, Nat.reduceBEq, Bool.false_eq_true, if_false, if_true, Act.eval, Array.getD_eq_getD_getElem?, List.getElem?_toArray, List.getElem?_cons_succ, List.getElem?_cons_zero, Option.getD_some, and_true, true_and, List.append_toArray, List.nil_append, List.cons_append, List.toList_toArray, Array.toList_append, Option.toArray, List.append_nil] at hA); (obtain ⟨h29, b5, h31, hQ⟩ := hA; go_simp; refine (known_c ps.length [f] _ w' (hQ.mono mono_FmR (up_ple hH2 hS))).mono ?_; rintro e w9 ⟨rfl, hx9⟩; rw [show [f].all (lowF ps.length) = lowF ps.length f by simp]; exact hK _ hx9))); (try simp only [List.nil_append, List.cons_append]))
  (refine walkI_is (u := (.bool (!lowF ps.length f))) rfl (by simp) rfl ?_ ?_; (focus (intro A w' hS hA K hK; (simp only [List.map_cons, List.map_nil, knows, Is, Op.operands, Call.operands, List.lookup_cons, List.lookup_nil, Nat.reduceBEq, Bool.false_eq_true, if_false, if_true, Act.eval, Array.getD_eq_getD_getElem?, List.getElem?_toArray, List.getElem?_cons_succ, List.getElem?_cons_zero, Option.getD_some, and_true, true_and, List.append_toArray, List.nil_append, List.cons_append, List.toList_toArray, Array.toList_append, Option.toArray, List.append_nil] at hA); (go_simp; exact hK _ (Ext.rfl' _)))); (try simp only [List.nil_append, List.cons_append]))
  (refine walkI_nil ?_; simp only [List.nil_append, List.cons_append, fins, Is, forall_eq, Act.put, List.setIfInBounds_toArray, List.set_cons_zero, List.set_cons_succ])
  rintro w5 hx5 v31 -
  replace u0 := hx5.cell1 u0
  replace u1 := hx5.cell1 u1
  replace u2 := hx5.cell1 u2
  replace u3 := hx5.cell1 u3
  replace ul := cell_lt u0
  replace hM := hM.ext hx5
  clear hx5 hH2 hT
  cases hlow : lowF ps.length f with
  | false =>
    have hXX := hX1.out hlow
    go_wp2_with fail
    go_ret2
    rw [hXX]
    exact ⟨_, rfl, hM.ex, SliceRep.nil _ _ _⟩
  | true =>
    have hll := lists_c H mo w5 hM.ple
    go_wp2_with fail
    refine hll.mono ?_
    rintro e w6 ⟨bM, bD, bN, bC, bP, rfl, hx6, hB⟩
    replace u0 := hx6.cell1 u0
    replace u1 := hx6.cell1 u1
    replace u2 := hx6.cell1 u2
    replace u3 := hx6.cell1 u3
    replace ul := cell_lt u0
    have hl6 : PLe H (up H w5 w6) := ple_up hM.ple
    replace hM := hM.up hx6
    generalize up H w5 w6 = H6 at *
    have hd := (divs_c mo bM bD bN bC bP hB hm64 hm1 f _ w6 hM.ple (mono_FmR _ _ _ _ hl6 hr0) hw (by omega)).1
    have hfn1 := fun args w => enterFn Tryz.func98 rfl rfl args w
    unfold fmC at hd
    clear hx6 hll hB hr0
    go_wp2_with fail
    refine hd.mono ?_
    rintro e w7 ⟨v, ok, l, rfl, hx7, hQ, -, -, hcase⟩
    replace hM := hM.up hx7
    have hfin := hQ.mono mono_AltR hM.ub
    obtain ⟨z3, d3, rfl, -, -⟩ := hQ.form
    clear hd hfn1 u0 u1 u2 u3 ul hQ hx7
    cases hD : divF mo f false with
    | none =>
      rw [hD] at hcase
      have hok : ok = false := hcase
      subst hok
      go_wp2_with fail
      go_ret2
      rw [hX2.out hlow hD]
      exact ⟨_, rfl, hM.ex, SliceRep.nil _ _ _⟩
    | some r =>
      rw [hD] at hcase
      obtain ⟨rfl, rfl⟩ := hcase
      go_wp2_with fail
      go_ret2
      rw [hX3.out _ hlow hD]
      exact ⟨_, rfl, hM.ex, hfin⟩
end Go.Proofs.YtabajghokhfmhaaGreat
namespace Go.Proofs.YtabajghokhfmhaaGreat
open Go.RowKit
set_option maxHeartbeats 400000 in
theorem sameInts_c (va vb : Value) (l m : List Int) (w : World) (ha : IntsR (ph w) va l) (hb : IntsR (ph w) vb m) :
    Calls Tryz.prog 51 #[va, vb] w (RetV w (.bool (B (l = m)))) := by
  obtain ⟨a, c, rfl, hlen, ha⟩ := ha.form
  obtain ⟨a', c', rfl, hlen', hb⟩ := hb.form
  by_cases hl : l.length = m.length
  · have HL := Lib.hid hl
    have hlb : ((l.length : Int) == (m.length : Int)) = true := by simp [hl]
    clear hl
    go_enter Tryz.func51, Tryz.ntmps51
    go_wp2_with fail
    go_loopw [5] (fun i wr => ∃ k : Nat, k ≤ l.length ∧ i = .int .i64 k ∧ Hid (l.take k = m.take k) ∧ Ext w wr) (fun i _ => l.length - (intOf i).toNat)
    case atStart => exact ⟨0, Nat.zero_le _, rfl, Lib.hid (by simp), xE⟩
    case round =>
      obtain ⟨k, hk, rfl, ht, hx⟩ := hrel
      by_cases hlt : k < l.length
      · have hlm : k < m.length := by have := HL.out; omega
        obtain ⟨b, o, rfl, h0, i0, hbl⟩ := IntsR.at (ha.mono mono_IntR hx.ple) k hlt
        obtain ⟨b', o', rfl, h0', i0', hbl'⟩ := IntsR.at (hb.mono mono_IntR hx.ple) k hlm
        generalize hx1 : l[k] = x at *
        generalize hx2 : m[k] = y at *
        replace hx1 := Lib.hid hx1
        replace hx2 := Lib.hid hx2
        clear ha hb
        go_wp2_with fail
        (refine wp_region_calm (S := fun w' => Ext _ w') (by kernel_rfl) (by kernel_rfl) (Ext.rfl' _).drew' ?_; (try simp only [List.toList_toArray]); (repeat (first | (refine walkF_skip ?_ ?_; (focus rfl); (try simp only [Act.put, List.setIfInBounds_toArray, List.set_cons_zero, List.set_cons_succ])) | (refine walkF_step (v := ?_) rfl ?_ ?_ ?_; rotate_left; (focus rfl); (focus (intro w' hS A hA K hK; (simp only [agrees, Op.operands, Call.operands, Act.eval, Array.getD_eq_getD_getElem?, List.getElem?_toArray, List.getElem?_cons_succ, List.getElem?_cons_zero, Option.getD_some, and_true, true_and, List.append_toArray, List.nil_append, List.cons_append, List.toList_toArray, Array.toList_append] at hA); (obtain ⟨hSc, hSf, hSs⟩ := hS.cells; go_simp; exact hK _ hS))); (try simp only [Act.put, List.setIfInBounds_toArray, List.set_cons_zero, List.set_cons_succ])))); refine walkF_nil ?_)
        intro w2 hw2
        by_cases hxy : x = y
        · subst hxy
          go_wp2_with fail
          all_goals first
            | (exfalso; simp_all; done)
            | (go_roundw
               case rel => exact ⟨k + 1, by omega, by go_num, Lib.hid (by rw [take_snoc l k hlt, take_snoc m k hlm, ht.out, hx1.out, hx2.out]), xE⟩
               case measure => simp [intOf]; omega)
        · have hn : (x == y) = false := by
            rw [beq_eq_false_iff_ne]; exact hxy
          have hn2 : (x != y) = true := by rw [bne_iff_ne]; exact hxy
          replace hxy := Lib.hid hxy
          go_wp2_with fail
          all_goals first
            | (exfalso; simp_all; done)
            | (go_ret
               refine ⟨ret_f (fun h => ?_), xE⟩
               subst h
               exact hxy.out (hx1.out.symm.trans hx2.out))
      · have hkl : k = l.length := by omega
        clear ha hb
        go_wp2_with fail
        go_ret
        refine ⟨ret_t ?_, xE⟩
        have h1 := ht.out
        rw [List.take_of_length_le (by omega), List.take_of_length_le (by have := HL.out; omega)] at h1
        exact h1
  · have HL : Hid (¬ l = m) := fun h => hl (by rw [h])
    have hlb : ((l.length : Int) == (m.length : Int)) = false := by rw [beq_eq_false_iff_ne]; omega
    clear hl
    go_enter Tryz.func51, Tryz.ntmps51
    go_wp2_with fail
    go_ret
    exact ⟨ret_f HL.out, xE⟩
end Go.Proofs.YtabajghokhfmhaaGreat
