/- The memory of a call under way that also writes one block g of its caller.; generators: Pick; the numbers of a maker of formulas.; generators: the leaf of a formula, its negation.; generators: negation of a formula; an append in a drawn region; the tree. -/
import Derived.Test.YtbpilielamjnoaaGreatFQ01
import Derived.Test.YtbpilielamjnoaaGreatFQ02
import Derived.Test.YtbpilielamjnoaaGreatFQ04
import Derived.Test.YtbpilielamjnoaaGreatFQ05
namespace Go.Proofs.YtbpilielamjnoaaGreat
open Go.RowKit
set_option linter.unusedSimpArgs false
set_option linter.unusedVariables false
/-- since world ws: block g of the caller's holds c; else nothing old has changed -/
def MemG (ws : World) (g : Nat) (c : Array Value) (T : TypeId) (L : List Chunk) (H : PH) (w : World) : Prop :=
  ∃ w0 : World, w0.heap.size = ws.heap.size ∧ g < ws.heap.size ∧ Own w g c T ∧ Mem w0 noH L H w ∧ ws.grownBy w (some g)
theorem grownBy_rfl (w : World) (r : Option Nat) : w.grownBy w r := ⟨rfl, rfl, rfl, Nat.le_refl _, fun _ _ _ => rfl⟩
theorem Ext.grownG {w w' : World} (e : Ext w w') (r : Option Nat) : w.grownBy w' r := ⟨e.os, e.tape, e.output, e.size, fun k hk _ => e.block k hk⟩
theorem MemG.start {ws : World} {g : Nat} {c : Array Value} {T : TypeId} (h : Own ws g c T) : MemG ws g c T [] noH ws := ⟨ws, rfl, h.lt, h, Mem.start ws noH (noH_le _), grownBy_rfl _ _⟩
section
variable {ws w w' : World} {g : Nat} {c c' : Array Value} {T : TypeId} {L L' : List Chunk} {H H' : PH}
theorem MemG.lt (h : MemG ws g c T L H w) : g < ws.heap.size := by obtain ⟨w0, h1, h2, h3, h4⟩ := h; exact h2
theorem MemG.own (h : MemG ws g c T L H w) : Own w g c T := by obtain ⟨w0, h1, h2, h3, h4⟩ := h; exact h3
theorem MemG.size (h : MemG ws g c T L H w) : ws.heap.size ≤ w.heap.size := by obtain ⟨w0, h1, h2, h3, h4, h5⟩ := h; exact h5.size
theorem MemG.grown (h : MemG ws g c T L H w) : ws.grownBy w (some g) := by obtain ⟨w0, h1, h2, h3, h4, h5⟩ := h; exact h5
/-- a step of the memory's own -/
theorem MemG.step (h : MemG ws g c T L H w) (f : ∀ w0, w0.heap.size = ws.heap.size → Mem w0 noH L H w → Mem w0 noH L' H' w') : MemG ws g c T L' H' w' := by
  obtain ⟨w0, h1, h2, h3, h4, h5⟩ := h
  have hM := f w0 h1 h4
  have hs : ∀ k, k < w0.heap.size → w'.heap[k]? = w.heap[k]? := fun k hk => by rw [hM.ex.block k hk, h4.ex.block k hk]
  refine ⟨w0, h1, h2, ?_, hM, ?_⟩
  · unfold Own at *; rw [hs g (by omega)]; exact h3
  · have := hM.ex.size
    refine ⟨?_, ?_, ?_, by omega, fun k hk hr => ?_⟩
    · rw [← h5.os, h4.ex.os, hM.ex.os]
    · rw [← h5.tape, h4.ex.tape, hM.ex.tape]
    · rw [← h5.output, h4.ex.output, hM.ex.output]
    · rw [hs k (by omega)]; exact h5.block k hk hr
/-- the caller's block turns, and new blocks come: what they hold joins what is read -/
theorem MemG.call (h : MemG ws g c T L H w) (e : w.grownBy w' (some g)) (ho : Own w' g c' T) : MemG ws g c' T L (up H w w') w' := by
  obtain ⟨w0, h1, h2, h3, hM, h5⟩ := h
  have hgl' : g < w'.heap.size := ho.lt
  have hne : ∀ {i : Nat} {c : Chunk}, L[i]? = some c → ∀ k, c.foot = some k → k ≠ g := fun hi k hk => by have := (hM.fr _ _ hi k hk).1; omega
  have hHg : ∀ k o, H k = some o → w0.heap.size ≤ k := by
    intro k o hk
    have := hM.ub k o hk
    unfold up at this
    split at this
    · cases this
    · omega
  have eb : ∀ k, k < w.heap.size → k ≠ g → w'.heap[k]? = w.heap[k]? := fun k hk hn => e.block k hk (fun h => hn (Option.some.inj h))
  refine ⟨{ w0 with heap := w0.heap.setIfInBounds g w'.heap[g] }, by simpa using h1, h2, ho, ?_, h5.trans e⟩
  have hex : Ext { w0 with heap := w0.heap.setIfInBounds g w'.heap[g] } w' := by
    refine ⟨e.os.trans hM.ex.os, e.tape.trans hM.ex.tape, e.output.trans hM.ex.output, by simpa using Nat.le_trans hM.ex.size e.size, fun k hk => ?_⟩
    have hk' : k < w0.heap.size := by simpa using hk
    show w'.heap[k]? = (w0.heap.setIfInBounds g w'.heap[g])[k]?
    by_cases hkg : g = k
    · subst hkg
      rw [Array.getElem?_setIfInBounds_self_of_lt hk']; simp [hgl']
    · rw [Array.getElem?_setIfInBounds_ne hkg, eb k (Nat.lt_of_lt_of_le hk' hM.ex.size) (fun h => hkg h.symm)]
      exact hM.ex.block k hk'
  have hl : PLe H (up H w w') := ple_up hM.ple
  refine ⟨noH_le _, noH_le _, fun k o hk => ?_, hex, fun i c hi => c.mono (c.loc (hM.ok i c hi) fun k hk => eb k (hM.lt hi hk) (hne hi k hk)) hl, fun i c hi k hk => ⟨by simpa using (hM.fr i c hi k hk).1, up_none (hM.fr i c hi k hk).2 (hM.lt hi hk)⟩, hM.ap⟩
  unfold up at hk ⊢
  split at hk
  · have h1 := hM.ub k o hk
    have h2 := hHg k o hk
    unfold up at h1
    rw [if_neg (by omega)] at h1
    rw [if_neg (by simp; omega)]
    show w'.heap[k]? = some o
    rw [eb k (ph_lt h1) (by omega)]; exact h1
  · have := hM.ex.size
    rw [if_neg (by simp; omega)]; exact hk
/-- a cell of the caller's block is written -/
theorem MemG.set (h : MemG ws g c T L H w) (j : Nat) (u : Value) : MemG ws g (c.setIfInBounds j u) T L H (w.setCell ⟨g, j, none⟩ u) := by
  have hg : w.grownBy (w.setCell ⟨g, j, none⟩ u) (some g) := ⟨rfl, rfl, rfl, by simp, fun k hk hn => Below.heap_setCell _ _ _ _ (fun e => hn (by rw [e]))⟩
  have h2 := h.call hg (h.own.set j u)
  obtain ⟨w0, h1, h3, h4, hM, h5⟩ := h2
  refine ⟨w0, h1, h3, h4, ?_, h5⟩
  have hl : PLe H (up H w (w.setCell ⟨g, j, none⟩ u)) := ple_up (by obtain ⟨_, _, _, _, hM0, _⟩ := h; exact hM0.ple)
  obtain ⟨w1, k1, k2, k3, hM1, k5⟩ := h
  refine ⟨hM.l0, noH_le _, hl.trans hM.ub, hM.ex, fun i d hi => ?_, fun i d hi k hk => ?_, hM.ap⟩
  · exact d.loc (hM1.ok i d hi) fun k hk => Below.heap_setCell _ _ _ _ (fun e => by have := (hM1.fr i d hi k hk).1; dsimp only at e; omega)
  · have := hM1.fr i d hi k hk; exact ⟨by omega, this.2⟩
end
end Go.Proofs.YtbpilielamjnoaaGreat
namespace Go.Proofs.YtbpilielamjnoaaGreat
open Go.RowKit Go.Shelf
set_option linter.unusedSimpArgs false
set_option linter.unusedVariables false
/-- an integer from lo up to below hi comes back -/
def RetIn (w : World) (lo hi : Int) (e : Ending) (w' : World) : Prop := ∃ r, e = .returned (.int .i64 r) ∧ lo ≤ r ∧ r < hi ∧ Ext w w'
theorem pick1_c (l : List Int) (vl : Value) (i m : Int) (w : World) (hl : IntsR (ph w) vl l) (hi : I64 i) (hm : 0 < m) (hm' : m ≤ 9223372036854775807) :
    Calls Tryz.prog 92 #[vl, .int .i64 i, .int .i64 m] w (RetIn w 0 m) := by
  obtain ⟨a, c, rfl, hll, hl⟩ := hl.form
  have hi' := hi
  unfold I64 at hi'
  by_cases h0 : i < 0
  · clear hl
    go_enter Tryz.func92, Tryz.ntmps92
    go_wp2_with fail
    go_ret
    exact ⟨_, rfl, by omega, by omega, (by with_reducible repeat (first | assumption | exact Ext.rfl' _ | exact Ext.new _ _ | refine Ext.alloc' ?_ _ | refine Ext.drew' ?_ | refine Ext.drewN' ?_ _ | (refine Ext.set' ?_ ?_ _; rotate_left; focus (first | omega | (simp; done) | (simp; omega))) | (refine Ext.then (b := ?_) ?_ ?_; rotate_left; rotate_left; assumption)))⟩
  · by_cases h1 : i < l.length
    · obtain ⟨k, rfl⟩ : ∃ k : Nat, i = k := ⟨i.toNat, by omega⟩
      obtain ⟨b, o, rfl, h2, h3, hbl⟩ := IntsR.at hl k (by omega)
      generalize l[k] = x at *
      have hr := aroundV_range h3 hm
      clear hl
      go_enter Tryz.func92, Tryz.ntmps92
      go_wp2_with fail
      refine (around_c x m _ h3 hm hm').mono ?_
      rintro e w1 ⟨rfl, hb1⟩
      generalize aroundV x m = r at *
      go_wp2_with fail
      go_ret
      exact ⟨_, rfl, hr.1, hr.2, (by with_reducible repeat (first | assumption | exact Ext.rfl' _ | exact Ext.new _ _ | refine Ext.alloc' ?_ _ | refine Ext.drew' ?_ | refine Ext.drewN' ?_ _ | (refine Ext.set' ?_ ?_ _; rotate_left; focus (first | omega | (simp; done) | (simp; omega))) | (refine Ext.then (b := ?_) ?_ ?_; rotate_left; rotate_left; assumption)))⟩
    · clear hl
      go_enter Tryz.func92, Tryz.ntmps92
      go_wp2_with fail
      go_ret
      exact ⟨_, rfl, by omega, by omega, (by with_reducible repeat (first | assumption | exact Ext.rfl' _ | exact Ext.new _ _ | refine Ext.alloc' ?_ _ | refine Ext.drew' ?_ | refine Ext.drewN' ?_ _ | (refine Ext.set' ?_ ?_ _; rotate_left; focus (first | omega | (simp; done) | (simp; omega))) | (refine Ext.then (b := ?_) ?_ ?_; rotate_left; rotate_left; assumption)))⟩
theorem MemG.ub {ws w : World} {g : Nat} {c : Array Value} {T : TypeId} {L : List Chunk} {H : PH} (h : MemG ws g c T L H w) : PLe H (Proofs.YtbpilielamjnoaaGreat.up noH ws w) := by
  obtain ⟨w0, h1, h2, h3, h4, h5⟩ := h
  intro k o hk
  have := h4.ub k o hk
  unfold Proofs.YtbpilielamjnoaaGreat.up at this ⊢
  rw [h1] at this
  exact this
theorem MemG.ple {ws w : World} {g : Nat} {c : Array Value} {T : TypeId} {L : List Chunk} {H : PH} (h : MemG ws g c T L H w) : PLe H (ph w) := by
  obtain ⟨w0, h1, h2, h3, h4, h5⟩ := h; exact h4.ple
theorem MemG.box {ws w : World} {g : Nat} {c : Array Value} {T : TypeId} {L : List Chunk} {H : PH} (h : MemG ws g c T L H w) (i : Nat) {b : Nat} {c' : Array Value} {T' : TypeId} (hi : L[i]? = some (Proofs.YtbpilielamjnoaaGreat.box b c' T')) : Own w b c' T' := by
  obtain ⟨w0, h1, h2, h3, h4, h5⟩ := h; exact h4.box i hi
/-- what is read elsewhere stands while block g turns -/
theorem PLe.grownG {Hl : PH} {w w' : World} {g : Nat} (h : PLe Hl (ph w)) (e : w.grownBy w' (some g)) (hg : Hl g = none) : PLe Hl (ph w') := by
  intro k o hk
  show w'.heap[k]? = some o
  rw [e.block k (ph_lt (h k o hk)) (fun e => by cases e; rw [hg] at hk; cases hk)]
  exact h k o hk
/-- a maker's block -/
abbrev mkA (vl : Value) (at' cl lf : Int) : Array Value := #[vl, .int .i64 at', .int .i64 cl, .int .i64 lf]
/-- a number below n comes back; the maker has gone on -/
def NextP (w : World) (g : Nat) (vl : Value) (at' cl lf n : Int) (e : Ending) (w' : World) : Prop :=
  ∃ r, e = .returned (.int .i64 r) ∧ 0 ≤ r ∧ r < n ∧ w.grownBy w' (some g) ∧ Own w' g (mkA vl (at' + 1) cl lf) 77
set_option maxRecDepth 100000 in
theorem next_c {Hl : PH} (l : List Int) (vl : Value) (g : Nat) (at' cl lf n : Int) (w : World) (hl : PLe Hl (ph w)) (hr : IntsR Hl vl l) (hg : Hl g = none) (ho : Own w g (mkA vl at' cl lf) 77) (h0 : 0 ≤ at') (h1 : at' ≤ 1000000) (hn : 0 < n) (hn' : n ≤ 9223372036854775807) :
    Calls Tryz.prog 93 #[.pointer (some ⟨g, 0, none⟩), .int .i64 n] w (NextP w g vl at' cl lf n) := by
  obtain ⟨a, c, rfl, hll, hr⟩ := hr.form
  obtain ⟨kc, kf⟩ := ho.facts
  have k0 : _ = some (Value.slice a l.length c) := kc 0
  have k1 : _ = some (Value.int .i64 at') := kc 1
  have f1 := kf 1
  have hgl := ho.lt
  have hg1 : w.grownBy (w.setCell ⟨g, 1, none⟩ (.int .i64 (at' + 1))) (some g) := ⟨rfl, rfl, rfl, by simp, fun k hk hn => Below.heap_setCell _ _ _ _ (fun e => hn (by rw [e]))⟩
  have ho1 := ho.set 1 (.int .i64 (at' + 1))
  simp only [List.setIfInBounds_toArray, List.set_cons_succ, List.set_cons_zero] at ho1
  have hl1 := hl.grownG hg1 hg
  clear kc kf
  go_enter Tryz.func93, Tryz.ntmps93
  go_wp2_with fail
  generalize w.setCell _ _ = W at *
  clear k0 k1 f1 hgl
  obtain ⟨kc, kf⟩ := ho1.facts
  have k0 : _ = some (Value.slice a l.length c) := kc 0
  have k1 : _ = some (Value.int .i64 (at' + 1)) := kc 1
  have hgl := ho1.lt
  have hp := Lib.hid (fun W' (hW : Ext W W') => pick1_c l (.slice a l.length c) at' n W' ((hr.mono mono_IntR (hl1.trans hW.ple))) (by unfold I64; omega) hn hn')
  have hq : IntKind.i64.wrap at' = at' := by rw [IntKind.wrap_i64]; omega
  clear hr kc kf
  (refine wp_region_I 11 (by kernel_rfl) (by kernel_rfl) ?_; simp only [List.toList_toArray, List.take_succ_cons, List.take_zero, List.drop_succ_cons, List.drop_zero])
  iterate 10 (refine walkI_is (u := ?_) rfl (by simp) rfl ?_ ?_; rotate_left; (focus (intro A w' hS hA K hK; (simp only [List.map_cons, List.map_nil, knows, Is, Op.operands, Call.operands, List.lookup_cons, List.lookup_nil, Nat.reduceBEq, Bool.false_eq_true, if_false, if_true, Act.eval, Array.getD_eq_getD_getElem?, List.getElem?_toArray, List.getElem?_cons_succ, List.getElem?_cons_zero, Option.getD_some, and_true, true_and, List.append_toArray, List.nil_append, List.cons_append, List.toList_toArray, Array.toList_append, Option.toArray, List.append_nil] at hA); first | fail | (obtain ⟨hSc, hSf, hSs⟩ := hS.cells; go_simp; exact hK _ (by first | exact Ext.rfl' _ | exact Ext.new _ _ | assumption)))); (try simp only [List.nil_append, List.cons_append]))
  (refine walkI_step (fun v w' => ∃ r, v = .int .i64 r ∧ 0 ≤ r ∧ r < n) rfl (by simp) rfl (fun v a b _ h e => h) ?_ ?_; (focus (intro A w' hS hA K hK; (simp only [List.map_cons, List.map_nil, knows, Is, Op.operands, Call.operands, List.lookup_cons, List.lookup_nil, Nat.reduceBEq, Bool.false_eq_true, if_false, if_true, Act.eval, Array.getD_eq_getD_getElem?, List.getElem?_toArray, List.getElem?_cons_succ, List.getElem?_cons_zero, Option.getD_some, and_true, true_and, List.append_toArray, List.nil_append, List.cons_append, List.toList_toArray, Array.toList_append, Option.toArray, List.append_nil] at hA); (go_simp; refine (hp.out _ hS).mono ?_; rintro e w5 ⟨r, rfl, h5, h6, h7⟩; exact hK _ _ h7 ⟨r, rfl, h5, h6⟩))); (try simp only [List.nil_append, List.cons_append]))
  (refine walkI_nil ?_; simp only [List.nil_append, List.cons_append, fins, Is, forall_eq, Act.put, List.setIfInBounds_toArray, List.set_cons_zero, List.set_cons_succ])
  rintro w2 hx2 v ⟨r, rfl, h5, h6⟩
  go_wp2_with fail
  go_ret
  exact ⟨r, rfl, h5, h6, hg1.trans (hx2.grownG _), ho1.keep hx2⟩
end Go.Proofs.YtbpilielamjnoaaGreat
namespace Go.Proofs.YtbpilielamjnoaaGreat
open Go.RowKit Go.Shelf
set_option linter.unusedSimpArgs false
set_option linter.unusedVariables false
/-- formed, and all classes are below a number -/
def wholeN (cl : Int) (f : Fm) : Bool := f.pre.all fun g => formed1 g && (!decide (g.op = 1) || decide (g.n < cl))
theorem wholeN_eq (cl : Int) (f : Fm) : wholeN cl f = ((formed1 f && (!decide (f.op = 1) || decide (f.n < cl))) && f.kids.all (wholeN cl)) := by
  unfold wholeN
  rw [Fm.pre_eq, List.all_cons]
  congr 1
  induction f.kids with
  | nil => rfl
  | cons x xs ih => rw [List.flatMap_cons, List.all_append, List.all_cons, ih]
theorem wholeN_B {cl : Int} {f : Fm} (h : wholeN cl f = true) : wholeB f = true := by
  unfold wholeN at h
  unfold wholeB
  rw [List.all_eq_true] at h ⊢
  exact fun x hx => by have := h x hx; rw [Bool.and_eq_true] at this; exact this.1
theorem whole_leaf {cl op n : Int} {inn : List Itv} (h : formed1 (.mk op n inn []) = true) (h2 : op = 1 → n < cl) : wholeN cl (.mk op n inn []) = true := by
  rw [wholeN_eq, h]
  by_cases h3 : op = 1
  · simp [Fm.op, Fm.n, Fm.kids, h2 h3]
  · simp [Fm.op, Fm.kids, h3]
/-- a new formula that is formed comes back; the maker has gone on by at most q numbers -/
def TreeP (w : World) (g : Nat) (vl : Value) (at' cl lf : Int) (P : Fm → Prop) (e : Ending) (w' : World) : Prop :=
  ∃ f a3 c3 a4 c4 at2, e = .returned (fmV f a3 c3 a4 c4) ∧ FmR (up noH w w') (fmC f a3 c3 a4 c4) f ∧ wholeN cl f = true ∧ P f ∧ w.grownBy w' (some g) ∧ Own w' g (mkA vl at2 cl (lf - f.size)) 77 ∧ at' ≤ at2 ∧ at2 ≤ at' + 4 * f.size
theorem MemG.set4 {ws w : World} {g : Nat} {c : Array Value} {T : TypeId} {L : List Chunk} {H : PH} (h : MemG ws g c T L H w) (i : Nat) {b : Nat} {a0 a1 a2 a3 : Value} {T' : TypeId} (hi : L[i]? = some (Proofs.YtbpilielamjnoaaGreat.box b #[a0, a1, a2, a3] T')) (p q r s : Value) :
    MemG ws g c T (L.set i (Proofs.YtbpilielamjnoaaGreat.box b #[p, q, r, s] T')) H ((((w.setCell ⟨b, 0, none⟩ p).setCell ⟨b, 1, none⟩ q).setCell ⟨b, 2, none⟩ r).setCell ⟨b, 3, none⟩ s) := h.step fun w0 _ m => m.set4 i hi p q r s
abbrev zeroFa : Array Value := #[.int .i64 0, .int .i64 0, .slice none 0 0, .slice none 0 0]
set_option maxRecDepth 100000 in
set_option maxHeartbeats 4000000 in
/-- leaf: one node; it takes no node off what is left (its caller did) -/
theorem leaf_c {Hl : PH} (l : List Int) (vl : Value) (g : Nat) (at' cl lf : Int) (w : World) (hl : PLe Hl (ph w)) (hr : IntsR Hl vl l) (hg : Hl g = none) (ho : Own w g (mkA vl at' cl lf) 77) (h0 : 0 ≤ at') (h1 : at' ≤ 900000) (hc0 : 0 < cl) (hc1 : cl ≤ 64) :
    Calls Tryz.prog 94 #[.pointer (some ⟨g, 0, none⟩)] w fun e w' => ∃ f a3 c3 at2, e = .returned (fmV f a3 c3 none 0) ∧ FmR (up noH w w') (fmC f a3 c3 none 0) f ∧ wholeN cl f = true ∧ f.kids = [] ∧ w.grownBy w' (some g) ∧ Own w' g (mkA vl at2 cl lf) 77 ∧ at' ≤ at2 ∧ at2 ≤ at' + 3 := by
  obtain ⟨xa, xc, rfl, hll, hr⟩ := hr.form
  have hgl := ho.lt
  have hG0 := (MemG.start ho).step (fun w0 _ m => m.new zeroFa 29)
  simp only [List.nil_append] at hG0
  have hl0 := hl.trans (Ext.ple (Ext.new w (.cells zeroFa 29)))
  go_enter Tryz.func94, Tryz.ntmps94
  go_wp2_with fail
  generalize w.alloc _ = W at *
  refine (next_c l _ g at' cl lf 11 W hl0 hr hg hG0.own h0 (by omega) (by omega) (by omega)).mono ?_
  rintro e w1 ⟨r, rfl, hr0, hr1, hgr, ho1⟩
  have hG1 := hG0.call hgr ho1
  have hl1 := hl0.grownG hgr hg
  clear hG0 hl0 hgr
  by_cases h6 : r < 6
  · have b1 : decide (r < 6) = true := by simpa using h6
    obtain ⟨kc, -⟩ := ho1.facts
    have k2 : _ = some (Value.int .i64 cl) := kc 2
    have hgl1 := ho1.lt
    clear kc
    go_wp2_with fail
    refine (next_c l _ g (at' + 1) cl lf cl w1 hl1 hr hg ho1 (by omega) (by omega) hc0 (by omega)).mono ?_
    rintro e w2 ⟨s, rfl, hs0, hs1, hgr, ho2⟩
    have hG2 := hG1.call hgr ho2
    clear hG1 hgr k2 hgl1 ho1
    have ob := hG2.box 0 rfl
    obtain ⟨uc, uf⟩ := ob.facts
    have ul := ob.lt
    have q0' : _ = some (Value.int .i64 0) := uc 0
    have q1' : _ = some (Value.int .i64 0) := uc 1
    have q2' : _ = some (Value.slice none 0 0) := uc 2
    have q3' : _ = some (Value.slice none 0 0) := uc 3
    have hG3 := hG2.set4 0 rfl (.int .i64 1) (.int .i64 s) (.slice none 0 0) (.slice none 0 0)
    simp only [List.set_cons_zero] at hG3
    clear uc
    go_wp2_with fail
    generalize ((((w2.setCell _ _).setCell _ _).setCell _ _).setCell _ _) = w9 at *
    obtain ⟨q, -⟩ := (hG3.box 0 rfl).facts
    have q0 : _ = some (Value.int .i64 1) := q 0
    have q1 : _ = some (Value.int .i64 s) := q 1
    have q2 : _ = some (Value.slice none 0 0) := q 2
    have q3 : _ = some (Value.slice none 0 0) := q 3
    refine bodyPost_ret (v := .agg #[.int .i64 1, .int .i64 s, .slice none 0 0, .slice none 0 0]) (by simp [results, Tryz.results94, go_sem, q0, q1, q2, q3]) rfl ?_
    exact ⟨.mk 1 s [] [], none, 0, at' + 1 + 1, rfl, FmR.of (by simp [Fm.op, I64]) (by simp only [Fm.n]; unfold I64; omega) (SliceRep.nil _ _ _) (SliceRep.nil _ _ _), whole_leaf (by rw [formed1_mk]; simp; omega) (fun _ => hs1), rfl, hG3.grown, hG3.own, by omega, by omega⟩
  have b1 : decide (r < 6) = false := by simpa using h6
  by_cases h10 : r = 10
  · have b2 : (r == 10) = true := by simpa using h10
    have ob := hG1.box 0 rfl
    obtain ⟨uc, uf⟩ := ob.facts
    have ul := ob.lt
    have q0' : _ = some (Value.int .i64 0) := uc 0
    have q1' : _ = some (Value.int .i64 0) := uc 1
    have q2' : _ = some (Value.slice none 0 0) := uc 2
    have q3' : _ = some (Value.slice none 0 0) := uc 3
    have hG3 := hG1.set4 0 rfl (.int .i64 0) (.int .i64 0) (.slice none 0 0) (.slice none 0 0)
    simp only [List.set_cons_zero] at hG3
    clear uc
    go_wp2_with fail
    generalize ((((w1.setCell _ _).setCell _ _).setCell _ _).setCell _ _) = w9 at *
    obtain ⟨q, -⟩ := (hG3.box 0 rfl).facts
    have q0 : _ = some (Value.int .i64 0) := q 0
    have q1 : _ = some (Value.int .i64 0) := q 1
    have q2 : _ = some (Value.slice none 0 0) := q 2
    have q3 : _ = some (Value.slice none 0 0) := q 3
    refine bodyPost_ret (v := zeroFv) (by simp [results, Tryz.results94, go_sem, q0, q1, q2, q3]) rfl ?_
    exact ⟨noF, none, 0, at' + 1, rfl, noF_R _, whole_leaf (by rw [formed1_mk]; simp) (fun h => by omega), rfl, hG3.grown, hG3.own, by omega, by omega⟩
  have b2 : (r == 10) = false := by simpa using h10
  go_wp2_with fail
  refine (next_c l _ g (at' + 1) cl lf 3 w1 hl1 hr hg ho1 (by omega) (by omega) (by omega) (by omega)).mono ?_
  rintro e w2 ⟨s, rfl, hs0, hs1, hgr, ho2⟩
  have hG2 := hG1.call hgr ho2
  have hl2 := hl1.grownG hgr hg
  clear hG1 hl1 hgr ho1
  go_wp2_with fail
  refine (next_c l _ g (at' + 1 + 1) cl lf 1048576 w2 hl2 hr hg ho2 (by omega) (by omega) (by omega) (by omega)).mono ?_
  rintro e w3 ⟨t, rfl, ht0, ht1, hgr, ho3⟩
  have hG3 := hG2.call hgr ho3
  clear hG2 hl2 hgr ho2
  go_wp2_with fail
  refine (range_c t w3 (by unfold I64; omega)).mono ?_
  rintro e w4 ⟨iv, il, rfl, hx4, hI, hE, hln⟩
  have hG4 := hG3.step (fun w0 _ m => m.up hx4)
  have hI4 := hI.mono mono_ItvR (up_mono (noH_le (up (up (up noH W w1) w1 w2) w2 w3)))
  obtain ⟨ia, ic, rfl, -, hI5⟩ := hI4.form
  clear hG3 hI hI4 ho3
  have ob := hG4.box 0 rfl
  obtain ⟨uc, uf⟩ := ob.facts
  have ul := ob.lt
  have q0' : _ = some (Value.int .i64 0) := uc 0
  have q1' : _ = some (Value.int .i64 0) := uc 1
  have q2' : _ = some (Value.slice none 0 0) := uc 2
  have q3' : _ = some (Value.slice none 0 0) := uc 3
  have hG5 := hG4.set4 0 rfl (.int .i64 2) (.int .i64 s) (.slice ia il.length ic) (.slice none 0 0)
  simp only [List.set_cons_zero] at hG5
  clear uc
  go_wp2_with fail
  generalize ((((w4.setCell _ _).setCell _ _).setCell _ _).setCell _ _) = w9 at *
  obtain ⟨q, -⟩ := (hG5.box 0 rfl).facts
  have q0 : _ = some (Value.int .i64 2) := q 0
  have q1 : _ = some (Value.int .i64 s) := q 1
  have q2 : _ = some (Value.slice ia il.length ic) := q 2
  have q3 : _ = some (Value.slice none 0 0) := q 3
  refine bodyPost_ret (v := .agg #[.int .i64 2, .int .i64 s, .slice ia il.length ic, .slice none 0 0]) (by simp [results, Tryz.results94, go_sem, q0, q1, q2, q3]) rfl ?_
  exact ⟨.mk 2 s il [], ia, ic, at' + 1 + 1 + 1, rfl, mono_FmR _ _ _ _ hG5.ub (FmR.of (by simp [Fm.op, I64]) (by simp only [Fm.n]; unfold I64; omega) hI5 (SliceRep.nil _ _ _)), whole_leaf (by rw [formed1_mk]; simp; omega) (fun h => by omega), rfl, hG5.grown, hG5.own, by omega, by omega⟩
end Go.Proofs.YtbpilielamjnoaaGreat
namespace Go.Proofs.YtbpilielamjnoaaGreat
open Go.RowKit Go.Shelf
set_option linter.unusedSimpArgs false
set_option linter.unusedVariables false
section
variable {α : Type} {E : PH → List Value → α → Prop} {hm : Mono E} {sz : Nat} {T : TypeId} {v : Value} {xs ys : List α} {w0 w : World} {H0 H : PH} {L : List Chunk}
/-- an append in a drawn region -/
theorem oper_append_M {P : Program} {o : Oper} {a : Act} {K : Act → World → Prop} {Q : Exit → Act → World → Prop} (i : Nat) (s x : Operand) (t : TypeId)
    (ho : o.op = .call { callee := .builtin .append, args := #[s, x], argTypes := #[t, t] }) {z : Value} {bytes : Nat}
    (ht : P.underlying t = some (.slice T)) (hinfo : (P.info? T).map (fun i => (i.zero, i.size, i.bytes)) = some (some z, sz, bytes)) (hzs : z.cells.size = sz)
    {vx : Value} (hs : a.eval s = v) (hx : a.eval x = vx) (hS : Mem w0 H0 L H w) (hi : L[i]? = some (own hm sz T v xs)) (hsrc : Src w H E sz vx ys)
    (hone : ∀ cs x, E H cs x → ∀ u ∈ cs, u.oneCell' = true) (hbytes : (xs.length + ys.length) * bytes ≤ 140737488355328) (hcnt : xs.length + ys.length ≤ 140737488355328)
    (hn : ∀ v' w', Mem w0 H0 (L.set i (own hm sz T v' (xs ++ ys))) H w' → w.grownBy w' v.ownBlock → K (a.put o.dst v') w') : o.wp P a w K Q := by
  obtain ⟨i', hi', hz0, hz1, hz2⟩ := info_parts hinfo
  obtain ⟨v', w', hr, h2, h3, h4⟩ := run_append_S (P := P) (w := w) t o.type T i' z bytes ht hi' hz0 hz1 hz2 hzs (hS.ownS i hi) hsrc hS.ple hS.ex.size hone hbytes hcnt
  unfold Oper.wp execOp
  simp only [ho, resolve, invoke, builtin, Sem.run_bind, Sem.run_pure, Result.andThen_ok, List.map_toArray, List.map_cons, List.map_nil, hs, hx, hr]
  exact hn _ _ (hS.put i hi (c' := own hm sz T v' (xs ++ ys)) h2.c h4 (hS.ex.grown h3 fun k hk => (hS.fr i _ hi k hk).1) fun k hk hne => h3.block k hk (fun e => hne e.symm)) h3
end
section
variable {ws w w' : World} {g : Nat} {c c' : Array Value} {T : TypeId} {L L' : List Chunk} {H H' : PH}
theorem MemG.re {w0 : World} (h1 : w0.heap.size = ws.heap.size) (h2 : g < ws.heap.size) (h3 : Own w g c T) (h4 : Mem w0 noH L H w) (h5 : ws.grownBy w (some g)) (hM : Mem w0 noH L' H' w') : MemG ws g c T L' H' w' := by
  have hs : ∀ k, k < w0.heap.size → w'.heap[k]? = w.heap[k]? := fun k hk => by rw [hM.ex.block k hk, h4.ex.block k hk]
  refine ⟨w0, h1, h2, ?_, hM, ?_⟩
  · unfold Own at *; rw [hs g (by omega)]; exact h3
  · have := hM.ex.size
    refine ⟨?_, ?_, ?_, by omega, fun k hk hr => ?_⟩
    · rw [← h5.os, h4.ex.os, hM.ex.os]
    · rw [← h5.tape, h4.ex.tape, hM.ex.tape]
    · rw [← h5.output, h4.ex.output, hM.ex.output]
    · rw [hs k (by omega)]; exact h5.block k hk hr
theorem MemG.freezeS {α : Type} {E : PH → List Value → α → Prop} {hm : Mono E} {sz : Nat} {T' : TypeId} {v : Value} {xs : List α} (h : MemG ws g c T L H w) (i : Nat) (hi : L[i]? = some (Proofs.YtbpilielamjnoaaGreat.own hm sz T' v xs)) : ∃ H', PLe H H' ∧ MemG ws g c T (L.set i nop) H' w ∧ SliceRep E sz H' v xs := by
  obtain ⟨w0, h1, h2, h3, h4, h5⟩ := h
  obtain ⟨H', k1, k2, k3⟩ := h4.freezeS i hi
  exact ⟨H', k1, ⟨w0, h1, h2, h3, k2, h5⟩, k3⟩
theorem MemG.form {α : Type} {E : PH → List Value → α → Prop} {hm : Mono E} {sz : Nat} {T' : TypeId} {v : Value} {xs : List α} (h : MemG ws g c T L H w) (i : Nat) (hi : L[i]? = some (Proofs.YtbpilielamjnoaaGreat.own hm sz T' v xs)) : ∃ a cap, v = .slice a xs.length cap ∧ xs.length ≤ 9223372036854775807 := by
  obtain ⟨w0, h1, h2, h3, h4, h5⟩ := h
  exact h4.form i hi
end
/-- a formula in an OpNot -/
theorem not7_c {H : PH} (f : Fm) (a3 : Option Addr) (c3 : Nat) (a4 : Option Addr) (c4 : Nat) (w : World) (hl : PLe H (ph w)) (hr : FmR H (fmC f a3 c3 a4 c4) f) : Calls Tryz.prog 81 #[fmV f a3 c3 a4 c4] w fun e w' =>
    ∃ b, e = .returned (.agg #[.int .i64 6, .int .i64 0, .slice none 0 0, .slice (some ⟨b, 0, none⟩) 1 1]) ∧ Ext w w' ∧ FmR (up H w w') (fmC (.mk 6 0 [] [f]) none 0 (some ⟨b, 0, none⟩) 1) (.mk 6 0 [] [f]) := by
  unfold fmC at hr
  go_enter Tryz.func81, Tryz.ntmps81
  go_wp2_with fail
  have hM := ((((Mem.start w H hl).ext (Ext.new w (.cells #[.int .i64 f.op, .int .i64 f.n, .slice a3 f.inn.length c3, .slice a4 f.kids.length c4] 29))).ext (Ext.new _ (.cells #[.int .i64 6, .int .i64 0, .slice none 0 0, .slice (some ⟨w.heap.size + 1 + 1, 0, none⟩) 1 1] 29))).new' #[.int .i64 f.op, .int .i64 f.n, .slice a3 f.inn.length c3, .slice a4 f.kids.length c4] 29 (n := w.heap.size + 1 + 1) (by simp)).asOwn 0 rfl mono_FmR (sz := 4) (xs := [f]) (n := 1) (by simp) (by simp [maxLen]) rfl ⟨_, [], rfl, rfl, hr, rfl⟩
  have hk := hM.repUp 0 rfl
  have hx : Ext w (((w.alloc (.cells #[.int .i64 f.op, .int .i64 f.n, .slice a3 f.inn.length c3, .slice a4 f.kids.length c4] 29)).alloc (.cells #[.int .i64 6, .int .i64 0, .slice none 0 0, .slice (some ⟨w.heap.size + 1 + 1, 0, none⟩) 1 1] 29)).alloc (.cells #[.int .i64 f.op, .int .i64 f.n, .slice a3 f.inn.length c3, .slice a4 f.kids.length c4] 29)) := (by with_reducible repeat (first | assumption | exact Ext.rfl' _ | exact Ext.new _ _ | refine Ext.alloc' ?_ _ | refine Ext.drew' ?_ | refine Ext.drewN' ?_ _ | (refine Ext.set' ?_ ?_ _; rotate_left; focus (first | omega | (simp; done) | (simp; omega))) | (refine Ext.then (b := ?_) ?_ ?_; rotate_left; rotate_left; assumption)))
  have ho : Own (((w.alloc (.cells #[.int .i64 f.op, .int .i64 f.n, .slice a3 f.inn.length c3, .slice a4 f.kids.length c4] 29)).alloc (.cells #[.int .i64 6, .int .i64 0, .slice none 0 0, .slice (some ⟨w.heap.size + 1 + 1, 0, none⟩) 1 1] 29)).alloc (.cells #[.int .i64 f.op, .int .i64 f.n, .slice a3 f.inn.length c3, .slice a4 f.kids.length c4] 29)) (w.heap.size + 1) #[.int .i64 6, .int .i64 0, .slice none 0 0, .slice (some ⟨w.heap.size + 1 + 1, 0, none⟩) 1 1] 29 := (by repeat (first | (with_reducible assumption) | (with_reducible exact Own.new _ _ _) | (with_reducible refine Own.new' _ _ _ ?_; (focus (simp; done))) | (with_reducible refine Own.alloc ?_ _) | (with_reducible refine Own.drew ?_) | (with_reducible refine Own.drewN ?_ _) | (with_reducible refine Own.keep (w := ?_) ?_ ?_; rotate_left; (with_reducible assumption); (exact (by with_reducible repeat (first | assumption | exact Ext.rfl' _ | exact Ext.new _ _ | refine Ext.alloc' ?_ _ | refine Ext.drew' ?_ | refine Ext.drewN' ?_ _ | (refine Ext.set' ?_ ?_ _; rotate_left; focus (first | omega | (simp; done) | (simp; omega))) | (refine Ext.then (b := ?_) ?_ ?_; rotate_left; rotate_left; assumption))))) | (with_reducible refine Own.keep (w := ?_) ?_ ?_; rotate_left; rotate_left; (with_reducible assumption))))
  clear hM
  generalize World.alloc _ _ = w9 at *
  obtain ⟨q, -⟩ := ho.facts
  have q0 : _ = some (Value.int .i64 6) := q 0
  have q1 : _ = some (Value.int .i64 0) := q 1
  have q2 : _ = some (Value.slice none 0 0) := q 2
  have q3 : _ = some (Value.slice (some ⟨w.heap.size + 1 + 1, 0, none⟩) 1 1) := q 3
  refine bodyPost_ret (v := .agg #[.int .i64 6, .int .i64 0, .slice none 0 0, .slice (some ⟨w.heap.size + 1 + 1, 0, none⟩) 1 1]) (by simp [results, Tryz.results81, go_sem, q0, q1, q2, q3]) rfl ?_
  exact ⟨w.heap.size + 1 + 1, rfl, hx, FmR.of (by simp [Fm.op, I64]) (by simp [Fm.n, I64]) (SliceRep.nil _ _ _) hk⟩
end Go.Proofs.YtbpilielamjnoaaGreat
