/- package claims: parts; slices.Grow, slices.Concat at formulas.; the reference of package claims: Tops.; package claims: the iterator over the tops of a formula.; memory across a range over a function, with what is read; a row of four cells is written; what a round of one box and its row keeps.; package claims: the alternatives of a claim.; package claims: Alts.; generators: Some of formula; a call that writes one box of ours.; generators: Some of claims.; the documented example of claims: class, of, lives. -/
import Derived.Deep.CutBlock
import Derived.Test.YtbpilielamjnoaaGreatFN02
import Derived.Test.YtbpilielamjnoaaGreatFN04
import Derived.Test.YtbpilielamjnoaaGreatFN05
import Derived.Test.YtbpilielamjnoaaGreatFN09
namespace Go.Proofs.YtbpilielamjnoaaGreat
open Go.RowKit
set_option linter.unusedSimpArgs false
set_option linter.unusedVariables false
def LlR (h : PH) (cs : List Value) (xs : List Fm) : Prop := ∃ v, cs = [v] ∧ FmsR h v xs
theorem LlR.at {H : PH} {w : World} {a : Option Addr} {n cap : Nat} {xss : List (List Fm)} (hr : SliceRep LlR 1 H (.slice a n cap) xss) (hl : PLe H (ph w)) (k : Nat) (hk : k < xss.length) :
    ∃ b o a4 c4, a = some ⟨b, o, none⟩ ∧ w.cell? ⟨b, o + k, none⟩ = some (.slice a4 xss[k].length c4) ∧ FmsR H (.slice a4 xss[k].length c4) xss[k] ∧ b < w.heap.size := by
  obtain ⟨b, o, cs, h1, h2, h3, v, rfl, h4⟩ := hr.get k hk
  obtain ⟨a4, c4, rfl, -, h4⟩ := h4.form
  have := cellAt_mono hl (h3 0 (by omega))
  rw [← cell_ph] at this
  exact ⟨b, o, a4, c4, h1, by simpa using this, h4, cell_lt (by simpa using this)⟩
end Go.Proofs.YtbpilielamjnoaaGreat
namespace Go.Proofs.YtbpilielamjnoaaGreat
open Go.RowKit
set_option linter.unusedSimpArgs false
set_option linter.unusedVariables false
end Go.Proofs.YtbpilielamjnoaaGreat
namespace Go.Proofs.YtbpilielamjnoaaGreat
open Go.RowKit Go.Shelf
set_option linter.unusedSimpArgs false
set_option linter.unusedVariables false
attribute [local go_sem] Oper.semAt_some run_store_fn
section
variable {H : PH} {n l N n₀ Bo B1 B2 : Nat} {J Jx : List (FmA H) → World → Prop} {tot : List Fm}
end
end Go.Proofs.YtbpilielamjnoaaGreat
namespace Go.Proofs.YtbpilielamjnoaaGreat
open Go.RowKit Go.Shelf
set_option linter.unusedSimpArgs false
set_option linter.unusedVariables false
theorem Cells.set4 {α : Type} {E : PH → List Value → α → Prop} {H : PH} {u v t s : Value} {x : α} (hx : E H [u, v, t, s] x) : ∀ {xs : List α} {c : List Value} (k : Nat), k < xs.length → Cells H E 4 c xs → Cells H E 4 ((((c.set (k * 4) u).set (k * 4 + 1) v).set (k * 4 + 2) t).set (k * 4 + 3) s) (xs.set k x)
  | [], _, k, hk, _ => by simp at hk
  | y :: ys, c, 0, _, hc => by
    obtain ⟨cs, rest, rfl, h1, h2, h3⟩ := hc
    match cs, h1 with
    | [a, b, d, e], _ => exact ⟨[u, v, t, s], rest, rfl, rfl, hx, h3⟩
  | y :: ys, c, k + 1, hk, hc => by
    obtain ⟨cs, rest, rfl, h1, h2, h3⟩ := hc
    match cs, h1 with
    | [a, b, d, e], _ =>
      refine ⟨[a, b, d, e], _, ?_, rfl, h2, Cells.set4 hx k (by simpa using hk) h3⟩
      rw [show (k + 1) * 4 = k * 4 + 1 + 1 + 1 + 1 by omega]
      simp only [List.cons_append, List.nil_append, List.set_cons_succ]
end Go.Proofs.YtbpilielamjnoaaGreat
namespace Go.Proofs.YtbpilielamjnoaaGreat
open Go.RowKit Go.Shelf
set_option linter.unusedSimpArgs false
set_option linter.unusedVariables false
attribute [local go_sem] Oper.semAt_some
section
variable {α : Type} {E : PH → List Value → α → Prop} {hm : Mono E} {sz : Nat} {T : TypeId} {v : Value} {xs ys : List α} {w0 w : World} {H0 H : PH} {L : List Chunk}
end
def AccL (H : PH) (acc : List (Option Value)) (ms : List (Option (List Fm))) : Prop := acc.length = ms.length ∧
  ∀ k : Nat, (∃ a c l, (acc[k]?).join = some (.slice a l.length c) ∧ (ms[k]?).join = some l ∧ FmsR H (.slice a l.length c) l) ∨ ((acc[k]?).join = none ∧ (ms[k]?).join = none)
theorem AccL.mono {H H' : PH} {acc : List (Option Value)} {ms : List (Option (List Fm))} (h : AccL H acc ms) (hl : PLe H H') : AccL H' acc ms := by
  refine ⟨h.1, fun k => ?_⟩
  rcases h.2 k with ⟨a, c, l, h1, h2, h3⟩ | h1
  · exact .inl ⟨a, c, l, h1, h2, h3.mono mono_FmR hl⟩
  · exact .inr h1
theorem AccL.nil (H : PH) : AccL H [] [] := ⟨rfl, fun k => .inr (by simp)⟩
theorem AccL.skip {H : PH} {acc : List (Option Value)} {ms : List (Option (List Fm))} (h : AccL H acc ms) : AccL H (acc ++ [none]) (ms ++ [none]) := by
  refine ⟨by simp [h.1], fun k => ?_⟩
  rw [get_snoc, get_snoc, ← h.1]
  split
  · exact h.2 k
  · split <;> exact .inr ⟨rfl, rfl⟩
theorem AccL.get {H : PH} {acc : List (Option Value)} {ms : List (Option (List Fm))} (h : AccL H acc ms) (r : Int) :
    (∃ l a c, at? ms r = some l ∧ ((acc[r.toNat]?).join).getD (.slice none 0 0) = .slice a l.length c ∧ ((acc[r.toNat]?).join).isSome = true ∧ FmsR H (.slice a l.length c) l) ∨
    (at? ms r = none ∧ ((acc[r.toNat]?).join).getD (.slice none 0 0) = .slice none 0 0 ∧ ((acc[r.toNat]?).join).isSome = false) := by
  rcases h.2 r.toNat with ⟨a, c, l, h1, h2, h3⟩ | ⟨h1, h2⟩
  · exact .inl ⟨l, a, c, by unfold at?; exact h2, by rw [h1]; rfl, by rw [h1]; rfl, h3⟩
  · exact .inr ⟨by unfold at?; exact h2, by rw [h1]; rfl, by rw [h1]; rfl⟩
theorem Mem.all {w : World} {c : Chunk} (h : c.ok noH w) : Mem { w with heap := #[] } noH [c] noH w :=
  ⟨noH_le _, noH_le _, noH_le _, ⟨rfl, rfl, rfl, Nat.zero_le _, fun k hk => by simp at hk⟩, fun i d hi => by
    cases i with
    | zero => cases hi; exact h
    | succ i => simp at hi, fun i d hi k hk => ⟨Nat.zero_le _, rfl⟩, fun i j c d hij hi hj k hk hk' => by
    cases i with
    | zero => cases j with
      | zero => exact hij rfl
      | succ j => simp at hj
    | succ i => simp at hi⟩
abbrev zeroFc : Array Value := #[.int .i64 0, .int .i64 0, .slice none 0 0, .slice none 0 0]
def BothJ (w : World) (H0 H3 : PH) (base : List Chunk) (pa pb : List Fm) : Pj.Inv := fun dn s wx => ∃ (H : PH) (b : Nat), PLe H3 H ∧ Mem w H0 (base ++ [if dn 7 then box b zeroFc 29 else nop]) H wx ∧ (dn 7 = true → s 17 = .pointer (some ⟨b, 0, none⟩)) ∧
  (dn 1 = true → FmsR H (s 75) pa) ∧ (dn 3 = true → FmsR H (s 77) pb) ∧ (dn 4 = true → SliceRep LlR 1 H (s 78) [pa, pb]) ∧ (dn 5 = true → FmsR H (s 79) (pa ++ pb)) ∧
  (dn 6 = true → ∃ a n c, s 80 = .agg #[.int .i64 4, .int .i64 0, .slice none 0 0, .slice a n c] ∧ FmsR H (.slice a n c) (pa ++ pb))
theorem BothJ.up {w wx w' : World} {H0 H3 : PH} {base : List Chunk} {pa pb : List Fm} {dn : Nat → Bool} {s : Pj.St} (h : BothJ w H0 H3 base pa pb dn s wx) (e : Ext wx w') : ∃ (H : PH) (b : Nat), PLe H3 H ∧ Mem w H0 (base ++ [if dn 7 then box b zeroFc 29 else nop]) (up H wx w') w' ∧ PLe H (ph wx) ∧ (dn 7 = true → s 17 = .pointer (some ⟨b, 0, none⟩)) ∧
  (dn 1 = true → FmsR H (s 75) pa) ∧ (dn 3 = true → FmsR H (s 77) pb) ∧ (dn 4 = true → SliceRep LlR 1 H (s 78) [pa, pb]) ∧ (dn 5 = true → FmsR H (s 79) (pa ++ pb)) ∧
  (dn 6 = true → ∃ a n c, s 80 = .agg #[.int .i64 4, .int .i64 0, .slice none 0 0, .slice a n c] ∧ FmsR H (.slice a n c) (pa ++ pb)) := by
  obtain ⟨H, b, h1, h2, h3⟩ := h
  exact ⟨H, b, h1, h2.up e, h2.ple, h3⟩
end Go.Proofs.YtbpilielamjnoaaGreat
namespace Go.Proofs.YtbpilielamjnoaaGreat
open Go.RowKit Go.Shelf
set_option linter.unusedSimpArgs false
set_option linter.unusedVariables false
end Go.Proofs.YtbpilielamjnoaaGreat
namespace Go.Proofs.YtbpilielamjnoaaGreat
open Go.RowKit Go.Shelf
set_option linter.unusedSimpArgs false
set_option linter.unusedVariables false
theorem Mem.callB {w0 w w' : World} {H0 H : PH} {L : List Chunk} (h : Mem w0 H0 L H w) (i : Nat) {b : Nat} {c c' : Array Value} {T : TypeId} (hi : L[i]? = some (Proofs.YtbpilielamjnoaaGreat.box b c T)) (e : w.grownBy w' (some b)) (ho : Own w' b c' T) :
    Mem w0 H0 (L.set i (Proofs.YtbpilielamjnoaaGreat.box b c' T)) (Proofs.YtbpilielamjnoaaGreat.up H w w') w' := by
  have hlt : b < w.heap.size := (h.box i hi).lt
  have hge : w0.heap.size ≤ b := (h.fr i _ hi b rfl).1
  have hlt' := ho.lt
  have hb : ∀ k, b ≠ k → (w.heap.setIfInBounds b w'.heap[b])[k]? = w.heap[k]? := fun k hk => Array.getElem?_setIfInBounds_ne hk
  have h1 : Mem w0 H0 (L.set i (Proofs.YtbpilielamjnoaaGreat.box b c' T)) H { w with heap := w.heap.setIfInBounds b w'.heap[b] } := by
    refine h.put i hi (c' := Proofs.YtbpilielamjnoaaGreat.box b c' T) ?_ (fun k hk => .inl hk) ⟨h.ex.os, h.ex.tape, h.ex.output, by simpa using h.ex.size, fun k hk => ?_⟩ fun k hk hn => hb k (fun hh => hn (by rw [← hh]; rfl))
    · show Own _ b c' T
      unfold Own at *
      show (w.heap.setIfInBounds b w'.heap[b])[b]? = _
      rw [Array.getElem?_setIfInBounds_self_of_lt hlt, ← ho]; simp [hlt']
    · show (w.heap.setIfInBounds b w'.heap[b])[k]? = _
      rw [hb k (by omega)]; exact h.ex.block k hk
  have h2 := h1.up (w' := w') ⟨e.os, e.tape, e.output, by simpa using e.size, fun k hk => ?_⟩
  · have hu : Proofs.YtbpilielamjnoaaGreat.up H { w with heap := w.heap.setIfInBounds b w'.heap[b] } w' = Proofs.YtbpilielamjnoaaGreat.up H w w' := by
      unfold Proofs.YtbpilielamjnoaaGreat.up; simp
    rwa [hu] at h2
  · show w'.heap[k]? = (w.heap.setIfInBounds b w'.heap[b])[k]?
    by_cases hk' : b = k
    · subst hk'; rw [Array.getElem?_setIfInBounds_self_of_lt hlt]; simp [hlt']
    · rw [hb k hk']; exact e.block k (by simpa using hk) (fun hh => hk' (Option.some.inj hh).symm)
def SomeN (w : World) (cl lf : Int) (d : Nat) (e : Ending) (w' : World) : Prop :=
  ∃ f a3 c3 a4 c4, e = .returned (fmV f a3 c3 a4 c4) ∧ FmR (up noH w w') (fmC f a3 c3 a4 c4) f ∧ wholeN cl f = true ∧ (SzP lf f.size ∧ f.deep ≤ max 1 (d + 1)) ∧ Ext w w'
set_option maxRecDepth 100000 in
theorem some07_n {Hl : PH} (l : List Int) (vl : Value) (cl lf : Int) (d : Nat) (w : World) (hl : PLe Hl (ph w)) (hr : IntsR Hl vl l) (hc0 : 0 < cl) (hc1 : cl ≤ 64) (hd : d ≤ 7) (h0 : 0 ≤ lf) (h1 : lf ≤ 100) :
    Calls Tryz.prog 19 #[vl, .int .i64 cl, .int .i64 lf, .int .i64 ((d : Int) + 1)] w (SomeN w cl lf d) := by
  obtain ⟨xa, xc, rfl, hll, hr⟩ := hr.form
  have hM := ((Mem.start w Hl hl).new' zeroFa 29 (n := w.heap.size) (by simp)).new' (mkA (.slice xa l.length xc) 0 cl lf) 77 (n := w.heap.size + 1) (by simp)
  have hN := ((Mem.start w noH (noH_le _)).new' zeroFa 29 (n := w.heap.size) (by simp)).new' (mkA (.slice xa l.length xc) 0 cl lf) 77 (n := w.heap.size + 1) (by simp)
  simp only [List.cons_append, List.nil_append] at hM hN
  go_enter Tryz.func19, Tryz.ntmps19
  go_wp2_with fail
  change Calls _ _ _ ((w.alloc (.cells zeroFa 29)).alloc (.cells (mkA (.slice xa l.length xc) 0 cl lf) 77)) _
  generalize World.alloc _ _ = W at *
  refine (tree_c l _ (w.heap.size + 1) cl hr (hM.fr 1 _ rfl _ rfl).2 hc0 hc1 d hd 0 lf W hM.ple (hM.box 1 rfl) (by omega) (by omega) (by omega) h1).mono ?_
  rintro e w1 ⟨f, a3, c3, a4, c4, at2, rfl, hF, hwf, hP, hgr, ho1, g1, g2⟩
  have hM1 := hN.callB 1 rfl hgr ho1
  simp only [List.set_cons_succ, List.set_cons_zero] at hM1
  generalize up noH W w1 = H1 at *
  have ob := hM1.box 0 rfl
  obtain ⟨uc, uf⟩ := ob.facts
  have ul := ob.lt
  have q0' : _ = some (Value.int .i64 0) := uc 0
  have q1' : _ = some (Value.int .i64 0) := uc 1
  have q2' : _ = some (Value.slice none 0 0) := uc 2
  have q3' : _ = some (Value.slice none 0 0) := uc 3
  have hM2 := hM1.set4 0 rfl (.int .i64 f.op) (.int .i64 f.n) (.slice a3 f.inn.length c3) (.slice a4 f.kids.length c4)
  simp only [List.set_cons_zero] at hM2
  clear uc hM hN hM1 hgr ho1
  go_wp2_with fail
  generalize ((((w1.setCell _ _).setCell _ _).setCell _ _).setCell _ _) = w9 at *
  obtain ⟨q, -⟩ := (hM2.box 0 rfl).facts
  have q0 : _ = some (Value.int .i64 f.op) := q 0
  have q1 : _ = some (Value.int .i64 f.n) := q 1
  have q2 : _ = some (Value.slice a3 f.inn.length c3) := q 2
  have q3 : _ = some (Value.slice a4 f.kids.length c4) := q 3
  refine bodyPost_ret (v := .agg #[.int .i64 f.op, .int .i64 f.n, .slice a3 f.inn.length c3, .slice a4 f.kids.length c4]) (by simp [results, Tryz.results19, go_sem, q0, q1, q2, q3]) rfl ?_
  exact ⟨f, a3, c3, a4, c4, rfl, mono_FmR _ _ _ _ hM2.ub hF, hwf, hP, hM2.ex⟩
end Go.Proofs.YtbpilielamjnoaaGreat
namespace Go.Proofs.YtbpilielamjnoaaGreat
open Go.RowKit Go.Shelf
set_option linter.unusedSimpArgs false
set_option linter.unusedVariables false
section
variable {α : Type} {E : PH → List Value → α → Prop} {sz : Nat} {h : PH} {b : Nat}
end
end Go.Proofs.YtbpilielamjnoaaGreat
namespace Go.Proofs.YtbpilielamjnoaaGreat
open Go.RowKit Go.Shelf
set_option linter.unusedSimpArgs false
set_option linter.unusedVariables false
def clsF (n : Int) : Fm := .mk 1 n [] []
theorem clsF_R (H : PH) {n : Int} (hn : I64 n) : FmR H (fmC (clsF n) none 0 none 0) (clsF n) := FmR.of (by simp [clsF, Fm.op, I64]) (by simpa [clsF, Fm.n] using hn) (SliceRep.nil _ _ _) (SliceRep.nil _ _ _)
theorem ints1 {w : World} {g : Nat} {x : Int} {T : TypeId} (ho : Own w g #[.int .i64 x] T) (hx : I64 x) : IntsR (ph w) (.slice (some ⟨g, 0, none⟩) 1 1) [x] := by
  refine ⟨_, 1, rfl, Nat.le_refl _, by simp [maxLen], .inr ⟨g, 0, rfl, ⟨[.int .i64 x], rfl, fun j hj => ?_, rfl, hx⟩, trivial⟩⟩
  obtain rfl : j = 0 := by omega
  rw [← cell_ph]
  exact ho.facts.1 0
end Go.Proofs.YtbpilielamjnoaaGreat
