/- Lemmas for FX, part 9: package claims: parts, and more. -/
import Derived.Deep.CutBlock
import Derived.Laws.EntriesVeiled
import Derived.Test.YtbpilielamjnoaaGreatFX02
import Derived.Test.YtbpilielamjnoaaGreatFX04
import Derived.Test.YtbpilielamjnoaaGreatFX05
import Derived.Test.YtbpilielamjnoaaGreatFX06
import Derived.Test.YtbpilielamjnoaaGreatFX07
set_option linter.unusedSimpArgs false
set_option linter.unusedVariables false
namespace Go.Proofs.YtbpilielamjnoaaGreat
open Go.RowKit
def LlR (h : PH) (cs : List Value) (xs : List Fm) : Prop := ∃ v, cs = [v] ∧ FmsR h v xs
theorem LlR.at {H : PH} {w : World} {a : Option Addr} {n cap : Nat} {xss : List (List Fm)} (hr : SliceRep LlR 1 H (.slice a n cap) xss) (hl : PLe H (ph w)) (k : Nat) (hk : k < xss.length) :
    ∃ b o a4 c4, a = some ⟨b, o, none⟩ ∧ w.cell? ⟨b, o + k, none⟩ = some (.slice a4 xss[k].length c4) ∧ FmsR H (.slice a4 xss[k].length c4) xss[k] ∧ b < w.heap.size := by
  obtain ⟨b, o, cs, h1, h2, h3, v, rfl, h4⟩ := hr.get k hk
  obtain ⟨a4, c4, rfl, -, h4⟩ := h4.form
  have := cellAt_mono hl (h3 0 (by omega))
  rw [← cell_ph] at this
  exact ⟨b, o, a4, c4, h1, by simpa using this, h4, cell_lt (by simpa using this)⟩
end Go.Proofs.YtbpilielamjnoaaGreat
namespace Go.Proofs.YtbpilielamjnoaaGreat
open Go.RowKit
end Go.Proofs.YtbpilielamjnoaaGreat
namespace Go.Proofs.YtbpilielamjnoaaGreat
open Go.RowKit Go.Shelf
attribute [local go_sem] Oper.semAt_some run_store_fn
section
variable {H : PH} {n l N n₀ Bo B1 B2 : Nat} {J Jx : List (FmA H) → World → Prop} {tot : List Fm}
end
end Go.Proofs.YtbpilielamjnoaaGreat
namespace Go.Proofs.YtbpilielamjnoaaGreat
open Go.RowKit Go.Shelf
theorem Cells.set4 {α : Type} {E : PH → List Value → α → Prop} {H : PH} {u v t s : Value} {x : α} (hx : E H [u, v, t, s] x) : ∀ {xs : List α} {c : List Value} (k : Nat), k < xs.length → Cells H E 4 c xs → Cells H E 4 ((((c.set (k * 4) u).set (k * 4 + 1) v).set (k * 4 + 2) t).set (k * 4 + 3) s) (xs.set k x)
  | [], _, k, hk, _ => by simp at hk
  | y :: ys, c, 0, _, hc => by
    obtain ⟨cs, rest, rfl, h1, h2, h3⟩ := hc
    match cs, h1 with
    | [a, b, d, e], _ => exact ⟨[u, v, t, s], rest, rfl, rfl, hx, h3⟩
  | y :: ys, c, k + 1, hk, hc => by
    obtain ⟨cs, rest, rfl, h1, h2, h3⟩ := hc
    match cs, h1 with
    | [a, b, d, e], _ =>
      refine ⟨[a, b, d, e], _, ?_, rfl, h2, Cells.set4 hx k (by simpa using hk) h3⟩
      rw [show (k + 1) * 4 = k * 4 + 1 + 1 + 1 + 1 by omega]
      simp only [List.cons_append, List.nil_append, List.set_cons_succ]
attribute [local go_sem] Oper.semAt_some
section
variable {α : Type} {E : PH → List Value → α → Prop} {hm : Mono E} {sz : Nat} {T : TypeId} {v : Value} {xs ys : List α} {w0 w : World} {H0 H : PH} {L : List Chunk}
end
def AccL (H : PH) (acc : List (Option Value)) (ms : List (Option (List Fm))) : Prop := acc.length = ms.length ∧
  ∀ k : Nat, (∃ a c l, (acc[k]?).join = some (.slice a l.length c) ∧ (ms[k]?).join = some l ∧ FmsR H (.slice a l.length c) l) ∨ ((acc[k]?).join = none ∧ (ms[k]?).join = none)
theorem AccL.mono {H H' : PH} {acc : List (Option Value)} {ms : List (Option (List Fm))} (h : AccL H acc ms) (hl : PLe H H') : AccL H' acc ms := by
  refine ⟨h.1, fun k => ?_⟩
  rcases h.2 k with ⟨a, c, l, h1, h2, h3⟩ | h1
  · exact .inl ⟨a, c, l, h1, h2, h3.mono mono_FmR hl⟩
  · exact .inr h1
theorem AccL.nil (H : PH) : AccL H [] [] := ⟨rfl, fun k => .inr (by simp)⟩
theorem AccL.skip {H : PH} {acc : List (Option Value)} {ms : List (Option (List Fm))} (h : AccL H acc ms) : AccL H (acc ++ [none]) (ms ++ [none]) := by
  refine ⟨by simp [h.1], fun k => ?_⟩
  rw [get_snoc, get_snoc, ← h.1]
  split
  · exact h.2 k
  · split <;> exact .inr ⟨rfl, rfl⟩
theorem AccL.get {H : PH} {acc : List (Option Value)} {ms : List (Option (List Fm))} (h : AccL H acc ms) (r : Int) :
    (∃ l a c, at? ms r = some l ∧ ((acc[r.toNat]?).join).getD (.slice none 0 0) = .slice a l.length c ∧ ((acc[r.toNat]?).join).isSome = true ∧ FmsR H (.slice a l.length c) l) ∨
    (at? ms r = none ∧ ((acc[r.toNat]?).join).getD (.slice none 0 0) = .slice none 0 0 ∧ ((acc[r.toNat]?).join).isSome = false) := by
  rcases h.2 r.toNat with ⟨a, c, l, h1, h2, h3⟩ | ⟨h1, h2⟩
  · exact .inl ⟨l, a, c, by unfold at?; exact h2, by rw [h1]; rfl, by rw [h1]; rfl, h3⟩
  · exact .inr ⟨by unfold at?; exact h2, by rw [h1]; rfl, by rw [h1]; rfl⟩
theorem Mem.all {w : World} {c : Chunk} (h : c.ok noH w) : Mem { w with heap := #[] } noH [c] noH w :=
  ⟨noH_le _, noH_le _, noH_le _, ⟨rfl, rfl, rfl, Nat.zero_le _, fun k hk => by simp at hk⟩, fun i d hi => by
    cases i with
    | zero => cases hi; exact h
    | succ i => simp at hi, fun i d hi k hk => ⟨Nat.zero_le _, rfl⟩, fun i j c d hij hi hj k hk hk' => by
    cases i with
    | zero => cases j with
      | zero => exact hij rfl
      | succ j => simp at hj
    | succ i => simp at hi⟩
abbrev zeroFc : Array Value := #[.int .i64 0, .int .i64 0, .slice none 0 0, .slice none 0 0]
def BothJ (w : World) (H0 H3 : PH) (base : List Chunk) (pa pb : List Fm) : Pj.Inv := fun dn s wx => ∃ (H : PH) (b : Nat), PLe H3 H ∧ Mem w H0 (base ++ [if dn 7 then box b zeroFc 29 else nop]) H wx ∧ (dn 7 = true → s 17 = .pointer (some ⟨b, 0, none⟩)) ∧
  (dn 1 = true → FmsR H (s 75) pa) ∧ (dn 3 = true → FmsR H (s 77) pb) ∧ (dn 4 = true → SliceRep LlR 1 H (s 78) [pa, pb]) ∧ (dn 5 = true → FmsR H (s 79) (pa ++ pb)) ∧
  (dn 6 = true → ∃ a n c, s 80 = .agg #[.int .i64 4, .int .i64 0, .slice none 0 0, .slice a n c] ∧ FmsR H (.slice a n c) (pa ++ pb))
theorem BothJ.up {w wx w' : World} {H0 H3 : PH} {base : List Chunk} {pa pb : List Fm} {dn : Nat → Bool} {s : Pj.St} (h : BothJ w H0 H3 base pa pb dn s wx) (e : Ext wx w') : ∃ (H : PH) (b : Nat), PLe H3 H ∧ Mem w H0 (base ++ [if dn 7 then box b zeroFc 29 else nop]) (up H wx w') w' ∧ PLe H (ph wx) ∧ (dn 7 = true → s 17 = .pointer (some ⟨b, 0, none⟩)) ∧
  (dn 1 = true → FmsR H (s 75) pa) ∧ (dn 3 = true → FmsR H (s 77) pb) ∧ (dn 4 = true → SliceRep LlR 1 H (s 78) [pa, pb]) ∧ (dn 5 = true → FmsR H (s 79) (pa ++ pb)) ∧
  (dn 6 = true → ∃ a n c, s 80 = .agg #[.int .i64 4, .int .i64 0, .slice none 0 0, .slice a n c] ∧ FmsR H (.slice a n c) (pa ++ pb)) := by
  obtain ⟨H, b, h1, h2, h3⟩ := h
  exact ⟨H, b, h1, h2.up e, h2.ple, h3⟩
end Go.Proofs.YtbpilielamjnoaaGreat
namespace Go.Proofs.YtbpilielamjnoaaGreat
open Go.RowKit Go.Shelf
def SzP (lf : Int) (s : Nat) : Prop := 1 ≤ s ∧ (s : Int) ≤ 1 + 3 * (max (lf - 3) 0 - max (lf - s - 3) 0)
theorem szP_1 (lf : Int) : SzP lf 1 := by unfold SzP; omega
def KsP (lf : Int) (m : Nat) (sm : Nat) : Prop := (sm : Int) ≤ m + 3 * (max (lf - 1 - 3) 0 - max (lf - 1 - sm - 3) 0)
theorem ksP_step {lf : Int} {m sm s : Nat} (h : KsP lf m sm) (h2 : SzP (lf - 1 - sm) s) : KsP lf (m + 1) (sm + s) := by unfold KsP SzP at *; omega
theorem szP_of {lf : Int} {m sm : Nat} (h : KsP lf m sm) (hm : m ≤ 3) (hl : 3 ≤ lf - 1) : SzP lf (1 + sm) := by unfold KsP SzP at *; omega
theorem ksP_bd {lf : Int} {m sm : Nat} (h : KsP lf m sm) (hm : m ≤ 3) (hl : lf ≤ 100) : (sm : Int) ≤ 300 := by unfold KsP at h; omega
theorem deep_leaf {f : Fm} (h : f.kids = []) : f.deep = 1 := by rw [Fm.deep_eq, h]; rfl
theorem size_leaf' {f : Fm} (h : f.kids = []) : f.size = 1 := by rw [Fm.size_eq, h]; rfl
theorem size_mk (o n : Int) (i : List Itv) (k : List Fm) : (Fm.mk o n i k).size = 1 + sumN Fm.size k := Fm.size_eq _
theorem deep_mk (o n : Int) (i : List Itv) (k : List Fm) : (Fm.mk o n i k).deep = 1 + maxN Fm.deep k := Fm.deep_eq _
abbrev TreeQ (w : World) (g : Nat) (vl : Value) (at' cl lf : Int) (d : Nat) : Ending → World → Prop := TreeP w g vl at' cl lf fun f => SzP lf f.size ∧ f.deep ≤ max 1 d
theorem sumN_app (ks : List Fm) (f : Fm) : sumN Fm.size (ks ++ [f]) = sumN Fm.size ks + f.size := by
  induction ks with
  | nil => simp [sumN]
  | cons x xs ih => simp only [List.cons_append, sumN, ih]; omega
theorem whole_ao {cl op : Int} {ks : List Fm} (h : 4 ≤ op ∧ op ≤ 5) (hk : ∀ x ∈ ks, wholeN cl x = true) : wholeN cl (.mk op 0 [] ks) = true := by
  have hf : formed1 (.mk op 0 [] ks) = true := by
    rcases (show op = 4 ∨ op = 5 by omega) with rfl | rfl <;> simp [formed1, Fm.op, Fm.n, Fm.inn, Fm.kids]
  rw [wholeN_eq, hf, Bool.true_and]
  have h1 : ¬ op = 1 := by omega
  simpa [Fm.kids, Fm.op, h1] using hk
set_option maxRecDepth 100000 in
set_option maxHeartbeats 8000000 in
theorem tree_c {Hl : PH} (l : List Int) (vl : Value) (g : Nat) (cl : Int) (hr : IntsR Hl vl l) (hg : Hl g = none) (hc0 : 0 < cl) (hc1 : cl ≤ 64) (d : Nat) : d ≤ 7 → ∀ (at' lf : Int) (w : World), PLe Hl (ph w) → Own w g (mkA vl at' cl lf) 77 → 0 ≤ at' → at' + 4 * lf ≤ 400000 → -1000 ≤ lf → lf ≤ 100 →
    Calls Tryz.prog 48 #[.pointer (some ⟨g, 0, none⟩), .int .i64 ((d : Int) + 1)] w (TreeQ w g vl at' cl lf (d + 1)) := by
  obtain ⟨xa, xc, rfl, hll, hr⟩ := hr.form
  induction d using Nat.strongRecOn with
  | ind d ih =>
    intro hd at' lf w hl ho h0 h1 h2 h3
    obtain ⟨kc, kf⟩ := ho.facts
    have k3 : _ = some (Value.int .i64 lf) := kc 3
    have f3 := kf 3
    have hgl := ho.lt
    have hG0 := ((MemG.start ho).set 3 (.int .i64 (lf - 1))).step (fun w0 _ m => m.new' zeroFa 29 (n := w.heap.size) (by simp))
    simp only [List.setIfInBounds_toArray, List.set_cons_succ, List.set_cons_zero, List.nil_append] at hG0
    have hgg : w.grownBy (w.setCell ⟨g, 3, none⟩ (.int .i64 (lf - 1))) (some g) := ⟨rfl, rfl, rfl, by simp, fun k hk hn => Below.heap_setCell _ _ _ _ (fun e => hn (by rw [e]))⟩
    have hl0 := (hl.grownG hgg hg).trans (Ext.ple (Ext.new _ (.cells zeroFa 29)))
    clear kc kf hgg
    go_enter Tryz.func48, Tryz.ntmps48
    go_wp2_with fail
    generalize (w.setCell _ _).alloc _ = W at *
    clear k3 f3 hgl
    refine (next_c l _ g at' cl (lf - 1) 14 W hl0 hr hg hG0.own h0 (by omega) (by omega) (by omega)).mono ?_
    rintro e w1 ⟨k, rfl, hk0, hk1, hgr, ho1⟩
    have hG1 := hG0.call hgr ho1
    have hl1 := hl0.grownG hgr hg
    clear hG0 hl0 hgr
    obtain ⟨kc, -⟩ := ho1.facts
    have k0 : _ = some (Value.slice xa l.length xc) := kc 0
    have k1 : _ = some (Value.int .i64 (at' + 1)) := kc 1
    have k3 : _ = some (Value.int .i64 (lf - 1)) := kc 3
    have hgl := ho1.lt
    clear kc
    generalize up noH W w1 = H1 at hG1
    replace ih := Lib.hid ih
    by_cases d1 : d = 0
    · subst d1
      skip
      go_wp2_with fail
      (refine wp_region_I 25 (by kernel_rfl) (by kernel_rfl) ?_; simp only [List.toList_toArray, List.take_succ_cons, List.take_zero, List.drop_succ_cons, List.drop_zero])
      (repeat (first | (refine walkI_no rfl (by simp) rfl rfl rfl ?_ ?_; (focus (simp [undef]; done)); (try simp only [List.nil_append, List.cons_append])) | (refine wiA rfl (by simp) rfl ?_; (try simp only [List.nil_append, List.cons_append])) | (refine wyA rfl (by simp) rfl rfl rfl ?_; (try simp only [List.nil_append, List.cons_append]))))
      (refine walkI_nil ?_; simp only [List.nil_append, List.cons_append, fins, Is, forall_eq, Act.put, List.setIfInBounds_toArray, List.set_cons_zero, List.set_cons_succ])
      intro w2 hx2
      have hG2 := hG1.step (fun w0 _ m => m.ext hx2)
      have ho2 := ho1.keep hx2
      go_wp2_with fail
      refine (leaf_c l _ g (at' + 1) cl (lf - 1) w2 (hl1.trans hx2.ple) hr hg ho2 (by omega) (by omega) hc0 hc1).mono ?_
      rintro e w3 ⟨f, a3, c3, at2, rfl, hF, hwf, hkd, hgr, ho3, g1, g2⟩
      have hG3 := hG2.call hgr ho3
      have hF3 := mono_FmR _ _ _ _ (up_mono (noH_le H1)) hF
      have ob := hG3.box 0 rfl
      obtain ⟨uc, uf⟩ := ob.facts
      have ul := ob.lt
      have q0' : _ = some (Value.int .i64 0) := uc 0
      have q1' : _ = some (Value.int .i64 0) := uc 1
      have q2' : _ = some (Value.slice none 0 0) := uc 2
      have q3' : _ = some (Value.slice none 0 0) := uc 3
      have hG4 := hG3.set4 0 rfl (.int .i64 f.op) (.int .i64 f.n) (.slice a3 f.inn.length c3) (.slice none 0 0)
      simp only [List.set_cons_zero] at hG4
      have hkl : f.kids.length = 0 := by rw [hkd]; rfl
      have hsz := size_leaf' hkd
      have hdp := deep_leaf hkd
      clear uc hG1 hG2 hG3
      go_wp2_with fail
      generalize ((((w3.setCell _ _).setCell _ _).setCell _ _).setCell _ _) = w9 at *
      obtain ⟨q, -⟩ := (hG4.box 0 rfl).facts
      have q0 : _ = some (Value.int .i64 f.op) := q 0
      have q1 : _ = some (Value.int .i64 f.n) := q 1
      have q2 : _ = some (Value.slice a3 f.inn.length c3) := q 2
      have q3 : _ = some (Value.slice none 0 0) := q 3
      refine bodyPost_ret (v := .agg #[.int .i64 f.op, .int .i64 f.n, .slice a3 f.inn.length c3, .slice none 0 0]) (by simp [results, Tryz.results48, go_sem, q0, q1, q2, q3]) rfl ?_
      exact ⟨f, a3, c3, none, 0, at2, by rw [fmV, hkl], mono_FmR _ _ _ _ hG4.ub (by have h := hF3; unfold fmC at h ⊢; rw [hkl] at h ⊢; exact h), hwf, ⟨by rw [hsz]; exact szP_1 _, by omega⟩, hG4.grown, by rw [hsz]; exact hG4.own, by omega, by omega⟩
    have b1 : decide ((d : Int) + 1 ≤ 1) = false := by simp; omega
    by_cases c2 : lf - 1 < 3
    · have b2 : decide (lf - 1 < 3) = true := by simpa using c2
      skip
      go_wp2_with fail
      (refine wp_region_I 25 (by kernel_rfl) (by kernel_rfl) ?_; simp only [List.toList_toArray, List.take_succ_cons, List.take_zero, List.drop_succ_cons, List.drop_zero])
      (repeat (first | (refine walkI_no rfl (by simp) rfl rfl rfl ?_ ?_; (focus (simp [undef]; done)); (try simp only [List.nil_append, List.cons_append])) | (refine wiA rfl (by simp) rfl ?_; (try simp only [List.nil_append, List.cons_append])) | (refine wyA rfl (by simp) rfl rfl rfl ?_; (try simp only [List.nil_append, List.cons_append]))))
      (refine walkI_nil ?_; simp only [List.nil_append, List.cons_append, fins, Is, forall_eq, Act.put, List.setIfInBounds_toArray, List.set_cons_zero, List.set_cons_succ])
      intro w2 hx2
      have hG2 := hG1.step (fun w0 _ m => m.ext hx2)
      have ho2 := ho1.keep hx2
      go_wp2_with fail
      refine (leaf_c l _ g (at' + 1) cl (lf - 1) w2 (hl1.trans hx2.ple) hr hg ho2 (by omega) (by omega) hc0 hc1).mono ?_
      rintro e w3 ⟨f, a3, c3, at2, rfl, hF, hwf, hkd, hgr, ho3, g1, g2⟩
      have hG3 := hG2.call hgr ho3
      have hF3 := mono_FmR _ _ _ _ (up_mono (noH_le H1)) hF
      have ob := hG3.box 0 rfl
      obtain ⟨uc, uf⟩ := ob.facts
      have ul := ob.lt
      have q0' : _ = some (Value.int .i64 0) := uc 0
      have q1' : _ = some (Value.int .i64 0) := uc 1
      have q2' : _ = some (Value.slice none 0 0) := uc 2
      have q3' : _ = some (Value.slice none 0 0) := uc 3
      have hG4 := hG3.set4 0 rfl (.int .i64 f.op) (.int .i64 f.n) (.slice a3 f.inn.length c3) (.slice none 0 0)
      simp only [List.set_cons_zero] at hG4
      have hkl : f.kids.length = 0 := by rw [hkd]; rfl
      have hsz := size_leaf' hkd
      have hdp := deep_leaf hkd
      clear uc hG1 hG2 hG3
      go_wp2_with fail
      generalize ((((w3.setCell _ _).setCell _ _).setCell _ _).setCell _ _) = w9 at *
      obtain ⟨q, -⟩ := (hG4.box 0 rfl).facts
      have q0 : _ = some (Value.int .i64 f.op) := q 0
      have q1 : _ = some (Value.int .i64 f.n) := q 1
      have q2 : _ = some (Value.slice a3 f.inn.length c3) := q 2
      have q3 : _ = some (Value.slice none 0 0) := q 3
      refine bodyPost_ret (v := .agg #[.int .i64 f.op, .int .i64 f.n, .slice a3 f.inn.length c3, .slice none 0 0]) (by simp [results, Tryz.results48, go_sem, q0, q1, q2, q3]) rfl ?_
      exact ⟨f, a3, c3, none, 0, at2, by rw [fmV, hkl], mono_FmR _ _ _ _ hG4.ub (by have h := hF3; unfold fmC at h ⊢; rw [hkl] at h ⊢; exact h), hwf, ⟨by rw [hsz]; exact szP_1 _, by omega⟩, hG4.grown, by rw [hsz]; exact hG4.own, by omega, by omega⟩
    have b2 : decide (lf - 1 < 3) = false := by simpa using c2
    by_cases c3 : (l.length : Int) < at' + 1
    · have b3 : decide ((l.length : Int) < at' + 1) = true := by simpa using c3
      skip
      go_wp2_with fail
      (refine wp_region_I 25 (by kernel_rfl) (by kernel_rfl) ?_; simp only [List.toList_toArray, List.take_succ_cons, List.take_zero, List.drop_succ_cons, List.drop_zero])
      (repeat (first | (refine walkI_no rfl (by simp) rfl rfl rfl ?_ ?_; (focus (simp [undef]; done)); (try simp only [List.nil_append, List.cons_append])) | (refine wiA rfl (by simp) rfl ?_; (try simp only [List.nil_append, List.cons_append])) | (refine wyA rfl (by simp) rfl rfl rfl ?_; (try simp only [List.nil_append, List.cons_append]))))
      (refine walkI_nil ?_; simp only [List.nil_append, List.cons_append, fins, Is, forall_eq, Act.put, List.setIfInBounds_toArray, List.set_cons_zero, List.set_cons_succ])
      intro w2 hx2
      have hG2 := hG1.step (fun w0 _ m => m.ext hx2)
      have ho2 := ho1.keep hx2
      go_wp2_with fail
      refine (leaf_c l _ g (at' + 1) cl (lf - 1) w2 (hl1.trans hx2.ple) hr hg ho2 (by omega) (by omega) hc0 hc1).mono ?_
      rintro e w3 ⟨f, a3, c3, at2, rfl, hF, hwf, hkd, hgr, ho3, g1, g2⟩
      have hG3 := hG2.call hgr ho3
      have hF3 := mono_FmR _ _ _ _ (up_mono (noH_le H1)) hF
      have ob := hG3.box 0 rfl
      obtain ⟨uc, uf⟩ := ob.facts
      have ul := ob.lt
      have q0' : _ = some (Value.int .i64 0) := uc 0
      have q1' : _ = some (Value.int .i64 0) := uc 1
      have q2' : _ = some (Value.slice none 0 0) := uc 2
      have q3' : _ = some (Value.slice none 0 0) := uc 3
      have hG4 := hG3.set4 0 rfl (.int .i64 f.op) (.int .i64 f.n) (.slice a3 f.inn.length c3) (.slice none 0 0)
      simp only [List.set_cons_zero] at hG4
      have hkl : f.kids.length = 0 := by rw [hkd]; rfl
      have hsz := size_leaf' hkd
      have hdp := deep_leaf hkd
      clear uc hG1 hG2 hG3
      go_wp2_with fail
      generalize ((((w3.setCell _ _).setCell _ _).setCell _ _).setCell _ _) = w9 at *
      obtain ⟨q, -⟩ := (hG4.box 0 rfl).facts
      have q0 : _ = some (Value.int .i64 f.op) := q 0
      have q1 : _ = some (Value.int .i64 f.n) := q 1
      have q2 : _ = some (Value.slice a3 f.inn.length c3) := q 2
      have q3 : _ = some (Value.slice none 0 0) := q 3
      refine bodyPost_ret (v := .agg #[.int .i64 f.op, .int .i64 f.n, .slice a3 f.inn.length c3, .slice none 0 0]) (by simp [results, Tryz.results48, go_sem, q0, q1, q2, q3]) rfl ?_
      exact ⟨f, a3, c3, none, 0, at2, by rw [fmV, hkl], mono_FmR _ _ _ _ hG4.ub (by have h := hF3; unfold fmC at h ⊢; rw [hkl] at h ⊢; exact h), hwf, ⟨by rw [hsz]; exact szP_1 _, by omega⟩, hG4.grown, by rw [hsz]; exact hG4.own, by omega, by omega⟩
    have b3 : decide ((l.length : Int) < at' + 1) = false := by simpa using c3
    by_cases c4 : k < 3
    · have b4 : decide (k < 3) = true := by simpa using c4
      skip
      go_wp2_with fail
      (refine wp_region_I 25 (by kernel_rfl) (by kernel_rfl) ?_; simp only [List.toList_toArray, List.take_succ_cons, List.take_zero, List.drop_succ_cons, List.drop_zero])
      (repeat (first | (refine walkI_no rfl (by simp) rfl rfl rfl ?_ ?_; (focus (simp [undef]; done)); (try simp only [List.nil_append, List.cons_append])) | (refine wiA rfl (by simp) rfl ?_; (try simp only [List.nil_append, List.cons_append])) | (refine wyA rfl (by simp) rfl rfl rfl ?_; (try simp only [List.nil_append, List.cons_append]))))
      (refine walkI_nil ?_; simp only [List.nil_append, List.cons_append, fins, Is, forall_eq, Act.put, List.setIfInBounds_toArray, List.set_cons_zero, List.set_cons_succ])
      intro w2 hx2
      have hG2 := hG1.step (fun w0 _ m => m.ext hx2)
      have ho2 := ho1.keep hx2
      go_wp2_with fail
      refine (leaf_c l _ g (at' + 1) cl (lf - 1) w2 (hl1.trans hx2.ple) hr hg ho2 (by omega) (by omega) hc0 hc1).mono ?_
      rintro e w3 ⟨f, a3, c3, at2, rfl, hF, hwf, hkd, hgr, ho3, g1, g2⟩
      have hG3 := hG2.call hgr ho3
      have hF3 := mono_FmR _ _ _ _ (up_mono (noH_le H1)) hF
      have ob := hG3.box 0 rfl
      obtain ⟨uc, uf⟩ := ob.facts
      have ul := ob.lt
      have q0' : _ = some (Value.int .i64 0) := uc 0
      have q1' : _ = some (Value.int .i64 0) := uc 1
      have q2' : _ = some (Value.slice none 0 0) := uc 2
      have q3' : _ = some (Value.slice none 0 0) := uc 3
      have hG4 := hG3.set4 0 rfl (.int .i64 f.op) (.int .i64 f.n) (.slice a3 f.inn.length c3) (.slice none 0 0)
      simp only [List.set_cons_zero] at hG4
      have hkl : f.kids.length = 0 := by rw [hkd]; rfl
      have hsz := size_leaf' hkd
      have hdp := deep_leaf hkd
      clear uc hG1 hG2 hG3
      go_wp2_with fail
      generalize ((((w3.setCell _ _).setCell _ _).setCell _ _).setCell _ _) = w9 at *
      obtain ⟨q, -⟩ := (hG4.box 0 rfl).facts
      have q0 : _ = some (Value.int .i64 f.op) := q 0
      have q1 : _ = some (Value.int .i64 f.n) := q 1
      have q2 : _ = some (Value.slice a3 f.inn.length c3) := q 2
      have q3 : _ = some (Value.slice none 0 0) := q 3
      refine bodyPost_ret (v := .agg #[.int .i64 f.op, .int .i64 f.n, .slice a3 f.inn.length c3, .slice none 0 0]) (by simp [results, Tryz.results48, go_sem, q0, q1, q2, q3]) rfl ?_
      exact ⟨f, a3, c3, none, 0, at2, by rw [fmV, hkl], mono_FmR _ _ _ _ hG4.ub (by have h := hF3; unfold fmC at h ⊢; rw [hkl] at h ⊢; exact h), hwf, ⟨by rw [hsz]; exact szP_1 _, by omega⟩, hG4.grown, by rw [hsz]; exact hG4.own, by omega, by omega⟩
    have b4 : decide (k < 3) = false := by simpa using c4
    go_wp2_with fail
    (refine wp_region_I 25 (by kernel_rfl) (by kernel_rfl) ?_; simp only [List.toList_toArray, List.take_succ_cons, List.take_zero, List.drop_succ_cons, List.drop_zero])
    (repeat (first | (refine walkI_no rfl (by simp) rfl rfl rfl ?_ ?_; (focus (simp [undef]; done)); (try simp only [List.nil_append, List.cons_append])) | (refine wiA rfl (by simp) rfl ?_; (try simp only [List.nil_append, List.cons_append])) | (refine wyA rfl (by simp) rfl rfl rfl ?_; (try simp only [List.nil_append, List.cons_append]))))
    (refine walkI_nil ?_; simp only [List.nil_append, List.cons_append, fins, Is, forall_eq, Act.put, List.setIfInBounds_toArray, List.set_cons_zero, List.set_cons_succ])
    intro w2 hx2
    have hG2 := hG1.step (fun w0 _ m => m.ext hx2)
    have ho2 := ho1.keep hx2
    have hl2 := hl1.trans hx2.ple
    clear hG1 ho1 hl1 k0 k1 k3 hgl b1 b2 b3 b4 hx2
    obtain ⟨e, rfl⟩ : ∃ e, d = e + 1 := ⟨d - 1, by omega⟩
    by_cases k5 : k < 5
    · have b5 : decide (k < 5) = true := by simpa using k5
      go_wp2_with fail
      refine (ih.out e (by omega) (by omega) (at' + 1) (lf - 1) w2 hl2 ho2 (by omega) (by omega) (by omega) (by omega)).mono ?_
      rintro e' w3 ⟨f, a3, c3, a4, c4, at2, rfl, hF, hwf, ⟨hs, hdp⟩, hgr, ho3, g1, g2⟩
      have hG3 := hG2.call hgr ho3
      have hF3 := mono_FmR _ _ _ _ (up_mono (noH_le H1)) hF
      generalize up H1 w2 w3 = H3 at *
      have ob := hG3.box 0 rfl
      obtain ⟨uc, uf⟩ := ob.facts
      have ul := ob.lt
      have q0' : _ = some (Value.int .i64 0) := uc 0
      have q1' : _ = some (Value.int .i64 0) := uc 1
      have q2' : _ = some (Value.slice none 0 0) := uc 2
      have q3' : _ = some (Value.slice none 0 0) := uc 3
      clear uc
      have hG4 := (hG3.set4 0 rfl (.int .i64 3) (.int .i64 0) (.slice none 0 0) (.slice (some ⟨w3.heap.size, 0, none⟩) 1 1)).step (fun w0 _ m => m.new' #[.int .i64 f.op, .int .i64 f.n, .slice a3 f.inn.length c3, .slice a4 f.kids.length c4] 29 (n := w3.heap.size) (by simp))
      simp only [List.set_cons_zero, List.cons_append, List.nil_append] at hG4
      have hG5 := hG4.step (fun w0 _ m => m.asOwn 1 rfl mono_FmR (sz := 4) (xs := [f]) (n := 1) (by simp) (by simp [maxLen]) rfl ⟨_, [], rfl, rfl, hF3, rfl⟩)
      simp only [List.set_cons_zero, List.set_cons_succ] at hG5
      obtain ⟨H6, hl6, hG6, hR6⟩ := hG5.freezeS 1 rfl
      simp only [List.set_cons_zero, List.set_cons_succ] at hG6
      clear hG3 hG4 hG5
      go_wp2_with fail
      generalize World.alloc _ _ = w9 at *
      obtain ⟨q, -⟩ := (hG6.box 0 rfl).facts
      have q0 : _ = some (Value.int .i64 3) := q 0
      have q1 : _ = some (Value.int .i64 0) := q 1
      have q2 : _ = some (Value.slice none 0 0) := q 2
      have q3 : _ = some (Value.slice (some ⟨w3.heap.size, 0, none⟩) 1 1) := q 3
      refine bodyPost_ret (v := .agg #[.int .i64 3, .int .i64 0, .slice none 0 0, .slice (some ⟨w3.heap.size, 0, none⟩) 1 1]) (by simp [results, Tryz.results48, go_sem, q0, q1, q2, q3]) rfl ?_
      refine ⟨.mk 3 0 [] [f], none, 0, some ⟨w3.heap.size, 0, none⟩, 1, at2, rfl, mono_FmR _ _ _ _ hG6.ub (FmR.of (by simp [Fm.op, I64]) (by simp [Fm.n, I64]) (SliceRep.nil _ _ _) hR6), by rw [wholeN_eq]; simp [Fm.kids, Fm.op, hwf, formed1_mk], ⟨?_, ?_⟩, hG6.grown, ?_, by omega, ?_⟩
      · rw [size_mk]; simp only [sumN]; unfold SzP at *; omega
      · rw [deep_mk]; simp only [maxN]; omega
      · rw [size_mk]; simp only [sumN]; have h := hG6.own; rwa [show lf - ((1 + (f.size + 0) : Nat) : Int) = lf - 1 - f.size by omega]
      · rw [size_mk]; simp only [sumN]; omega
    have b5 : decide (k < 5) = false := by simpa using k5
    by_cases k7 : k < 7
    · have b7 : decide (k < 7) = true := by simpa using k7
      go_wp2_with fail
      refine (ih.out e (by omega) (by omega) (at' + 1) (lf - 1) w2 hl2 ho2 (by omega) (by omega) (by omega) (by omega)).mono ?_
      rintro e' w3 ⟨f, a3, c3, a4, c4, at2, rfl, hF, hwf, ⟨hs, hdp⟩, hgr, ho3, g1, g2⟩
      have hG3 := hG2.call hgr ho3
      have hF3 := mono_FmR _ _ _ _ (up_mono (noH_le H1)) hF
      generalize up H1 w2 w3 = H3 at *
      go_wp2_with fail
      refine (not7_c f a3 c3 a4 c4 w3 hG3.ple hF3).mono ?_
      rintro e' w4 ⟨bb, rfl, hx4, hF4⟩
      replace hG3 := hG3.step (fun w0 _ m => m.up hx4)
      have ob := hG3.box 0 rfl
      obtain ⟨uc, uf⟩ := ob.facts
      have ul := ob.lt
      have q0' : _ = some (Value.int .i64 0) := uc 0
      have q1' : _ = some (Value.int .i64 0) := uc 1
      have q2' : _ = some (Value.slice none 0 0) := uc 2
      have q3' : _ = some (Value.slice none 0 0) := uc 3
      clear uc
      have hG6 := hG3.set4 0 rfl (.int .i64 6) (.int .i64 0) (.slice none 0 0) (.slice (some ⟨bb, 0, none⟩) 1 1)
      simp only [List.set_cons_zero] at hG6
      clear hG3
      go_wp2_with fail
      generalize World.setCell _ _ _ = w9 at *
      obtain ⟨q, -⟩ := (hG6.box 0 rfl).facts
      have q0 : _ = some (Value.int .i64 6) := q 0
      have q1 : _ = some (Value.int .i64 0) := q 1
      have q2 : _ = some (Value.slice none 0 0) := q 2
      have q3 : _ = some (Value.slice (some ⟨bb, 0, none⟩) 1 1) := q 3
      refine bodyPost_ret (v := .agg #[.int .i64 6, .int .i64 0, .slice none 0 0, .slice (some ⟨bb, 0, none⟩) 1 1]) (by simp [results, Tryz.results48, go_sem, q0, q1, q2, q3]) rfl ?_
      refine ⟨.mk 6 0 [] [f], none, 0, some ⟨bb, 0, none⟩, 1, at2, rfl, mono_FmR _ _ _ _ hG6.ub hF4, by rw [wholeN_eq]; simp [Fm.kids, Fm.op, hwf, formed1_mk], ⟨?_, ?_⟩, hG6.grown, ?_, by omega, ?_⟩
      · rw [size_mk]; simp only [sumN]; unfold SzP at *; omega
      · rw [deep_mk]; simp only [maxN]; omega
      · rw [size_mk]; simp only [sumN]; have h := hG6.own; rwa [show lf - ((1 + (f.size + 0) : Nat) : Int) = lf - 1 - f.size by omega]
      · rw [size_mk]; simp only [sumN]; omega
    have b7 : decide (k < 7) = false := by simpa using k7
    have hop : 4 ≤ 4 + k % 2 ∧ 4 + k % 2 ≤ 5 := by omega
    have hG3 := ((hG2.step (fun w0 _ m => (m.new #[.int .i64 (4 + k % 2), .int .i64 0, .slice none 0 0, .slice none 0 0] 29))).step (fun w0 _ m => m.nil mono_FmR 4 29)).step (fun w0 _ m => m.ext (Ext.new _ (.cells #[.int .i64 2, .int .i64 2, .int .i64 2, .int .i64 3, .int .i64 1, .int .i64 0] 3)))
    simp only [List.cons_append, List.nil_append] at hG3
    have hli : Own ((w2.alloc (.cells #[.int .i64 (4 + k % 2), .int .i64 0, .slice none 0 0, .slice none 0 0] 29)).alloc (.cells #[.int .i64 2, .int .i64 2, .int .i64 2, .int .i64 3, .int .i64 1, .int .i64 0] 3)) (w2.heap.size + 1) #[.int .i64 2, .int .i64 2, .int .i64 2, .int .i64 3, .int .i64 1, .int .i64 0] 3 := oE
    have hl3 := hl2.trans (Ext.ple (show Ext w2 ((w2.alloc (.cells #[.int .i64 (4 + k % 2), .int .i64 0, .slice none 0 0, .slice none 0 0] 29)).alloc (.cells #[.int .i64 2, .int .i64 2, .int .i64 2, .int .i64 3, .int .i64 1, .int .i64 0] 3)) from xE))
    have hgw := hG2.lt
    have hgw2 := hG2.size
    clear hG2 ho2 hl2
    go_wp2_with fail
    generalize hB : w2.heap.size = B at *
    generalize World.alloc _ _ = W3 at *
    refine (next_c l _ g (at' + 1) cl (lf - 1) 6 W3 hl3 hr hg hG3.own (by omega) (by omega) (by omega) (by omega)).mono ?_
    rintro e' w5 ⟨qq, rfl, hq0, hq1, hgr, ho5⟩
    have hG5 := hG3.call hgr ho5
    have hl5 := hl3.grownG hgr hg
    replace hli := hli.grown hgr (by intro hh; cases hh; omega)
    clear hG3 hl3 hgr ho5
    obtain ⟨j, rfl⟩ : ∃ j : Nat, qq = j := ⟨qq.toNat, by omega⟩
    obtain ⟨nv, hnv, hcn⟩ : ∃ nv : Nat, nv ≤ 3 ∧ w5.cell? ⟨B + 1, j, none⟩ = some (.int .i64 nv) := by
      rw [hli.facts.1 j]
      match j, hq1 with
      | 0, _ => exact ⟨2, by omega, rfl⟩
      | 1, _ => exact ⟨2, by omega, rfl⟩
      | 2, _ => exact ⟨2, by omega, rfl⟩
      | 3, _ => exact ⟨3, by omega, rfl⟩
      | 4, _ => exact ⟨1, by omega, rfl⟩
      | 5, _ => exact ⟨0, by omega, rfl⟩
    have hcl := cell_lt hcn
    have hj6 : j < 6 := by omega
    clear hli hq0 hq1
    go_wp2_with fail
    go_loopw [8] (fun i wr => ∃ (m : Nat) (kv : Value) (H : PH) (ks : List Fm) (atm : Int), m ≤ nv ∧ i = .int .i64 m ∧ ks.length = m ∧ MemG w g (mkA (.slice xa l.length xc) atm cl (lf - 1 - (sumN Fm.size ks : Nat))) 77 [box w.heap.size zeroFa 29, box B #[.int .i64 (4 + k % 2), .int .i64 0, .slice none 0 0, kv] 29, own mono_FmR 4 29 kv ks] H wr ∧
      KsP lf m (sumN Fm.size ks) ∧ (∀ f ∈ ks, wholeN cl f = true ∧ f.deep ≤ max 1 (e + 1)) ∧ at' + 1 + 1 ≤ atm ∧ atm ≤ at' + 1 + 1 + 4 * (sumN Fm.size ks : Nat) ∧ PLe Hl (ph wr)) (fun i _ => nv - (intOf i).toNat)
    case atStart => exact ⟨0, _, _, [], at' + 1 + 1, Nat.zero_le _, rfl, rfl, by simpa [sumN] using hG5, by unfold KsP; simp [sumN], by simp, by omega, by simp [sumN], hl5⟩
    case round =>
      obtain ⟨m, kv, H, ks, atm, hm, rfl, hkl, hGm, hKs, hall, ha0, ha1, hlm⟩ := hrel
      replace hkl := Lib.hid hkl
      obtain ⟨ka, kk, rfl, -⟩ := hGm.form 2 rfl
      have hb := ksP_bd hKs (by omega) h3
      by_cases hlt : m < nv
      · obtain ⟨kc, kf⟩ := (hGm.box 1 rfl).facts
        have k3 : _ = some (Value.slice ka ks.length kk) := kc 3
        have f3 := kf 3
        have hgl := (hGm.box 1 rfl).lt
        clear kc kf hG5 hcn
        go_wp2_with fail
        refine wp_region_any (by kernel_rfl) ?_
        change wpAny _ _ _ _ _ _ _ (World.drew _)
        replace hGm := hGm.step (fun w0 _ m => m.ext (Ext.rfl' wr).drew')
        replace hlm : PLe Hl (ph wr.drew) := hlm
        have hwe : IntKind.i64.wrap ((e : Int) + 1) = (e : Int) + 1 := by rw [IntKind.wrap_i64]; omega
        (refine wpAny_take (i := 0) (v := ?_) rfl (by kernel_rfl) (by kernel_rfl) (by kernel_rfl) (fun _ _ _ h => h) (Or.inl ⟨by rfl, ?_⟩) ?_; rotate_left; (focus ((intro w; go_simp); try (with_reducible rfl))); (try simp only [Act.put, List.setIfInBounds_toArray, List.set_cons_zero, List.set_cons_succ]))
        (refine wpAny_take (i := 2) (v := ?_) rfl (by kernel_rfl) (by kernel_rfl) (by kernel_rfl) (fun _ _ _ h => h) (Or.inl ⟨by rfl, ?_⟩) ?_; rotate_left; (focus ((intro w; go_simp); try (with_reducible rfl))); (try simp only [Act.put, List.setIfInBounds_toArray, List.set_cons_zero, List.set_cons_succ]))
        (refine wpAny_take (i := 3) (v := ?_) rfl (by kernel_rfl) (by kernel_rfl) (by kernel_rfl) (fun _ _ _ h => h) (Or.inl ⟨by rfl, ?_⟩) ?_; rotate_left; (focus ((intro w; go_simp); try (with_reducible rfl))); (try simp only [Act.put, List.setIfInBounds_toArray, List.set_cons_zero, List.set_cons_succ]))
        (refine wpAny_take (i := 4) (v := ?_) rfl (by kernel_rfl) (by kernel_rfl) (by kernel_rfl) (fun _ _ _ h => h) (Or.inl ⟨by rfl, ?_⟩) ?_; rotate_left; (focus ((intro w; go_simp); try (with_reducible rfl))); (try simp only [Act.put, List.setIfInBounds_toArray, List.set_cons_zero, List.set_cons_succ]))
        refine wpAny_ready (rs := [1, 5]) (by kernel_rfl) (by simp) ?_
        refine AllReady.cons rfl (fun K hK => ?_) (AllReady.cons rfl (fun K hK => ?_) AllReady.nil)
        · go_simp
          refine hK _ _ ?_
          clear hK K
          refine wpAny_ready (rs := [5]) (by kernel_rfl) (by simp) ?_; refine AllReady.cons rfl (fun K hK => ?_) AllReady.nil
          go_simp
          refine (ih.out e (by omega) (by omega) atm (lf - 1 - (sumN Fm.size ks : Nat)) _ hlm hGm.own (by omega) (by omega) (by omega) (by omega)).mono ?_
          rintro e' w4 ⟨f, a3, c3, a4, c4, at2, rfl, hF, hwf, ⟨hs, hdp⟩, hgr, ho4, g1, g2⟩
          refine hK _ _ ?_
          clear hK K
          replace hlm := hlm.grownG hgr hg
          replace hGm := hGm.call hgr ho4
          have hF4 := mono_FmR _ _ _ _ (up_mono (noH_le H)) hF
          generalize up H _ w4 = H4 at hGm hF4
          obtain ⟨kc, kf⟩ := (hGm.box 1 rfl).facts
          have k3 : _ = some (Value.slice ka ks.length kk) := kc 3
          have f3 := kf 3
          have hgl := (hGm.box 1 rfl).lt
          clear kc kf hgr ho4 hF
          (refine wpAny_ready (rs := [6]) (by kernel_rfl) (by simp) ?_; refine AllReady.cons rfl (fun K hK => ?_) AllReady.nil; go_simp; refine hK _ _ ?_; clear hK K)
          have hGa := hGm.step (fun w0 _ m => m.ext (Ext.new w4 (.cells #[.int .i64 f.op, .int .i64 f.n, .slice a3 f.inn.length c3, .slice a4 f.kids.length c4] 29)))
          have hS := Src.lit1 (E := FmR) (H := H4) (w := w4.alloc (.cells #[.int .i64 f.op, .int .i64 f.n, .slice a3 f.inn.length c3, .slice a4 f.kids.length c4] 29)) (b := w4.heap.size) (sz := 4) hF4 rfl (fun j => by rw [(Own.new w4 #[.int .i64 f.op, .int .i64 f.n, .slice a3 f.inn.length c3, .slice a4 f.kids.length c4] 29).facts.1 j]; simp [fmC])
          obtain ⟨w0, z1, z2, z3, z4, z5⟩ := hGa
          refine wpAny_ready (rs := [7]) (by kernel_rfl) (by simp) ?_; refine AllReady.cons rfl (fun K hK => ?_) AllReady.nil
          refine oper_append_M (hm := mono_FmR) (v := .slice ka ks.length kk) (xs := ks) (ys := [f]) 2 _ _ 23 rfl Tryz.underlying23 infoFm rfl rfl rfl z4 rfl hS one_FmR (by have := hkl.out; simp; omega) (by have := hkl.out; simp; omega) ?_
          intro v' w6 hM6 hgr6
          refine hK _ _ ?_
          clear hK K
          have hG6 := MemG.re z1 z2 z3 z4 z5 hM6
          try simp only [List.set_cons_succ, List.set_cons_zero] at hG6 hM6
          obtain ⟨na, nc, rfl, -⟩ := hM6.form 2 rfl
          clear z1 z3 z4 z5 hM6 hS hGm
          obtain ⟨uc, uf⟩ := (hG6.box 1 rfl).facts
          have uf3 := uf 3
          have uc3 : _ = some (Value.slice ka ks.length kk) := uc 3
          have ul := (hG6.box 1 rfl).lt
          have hG7 := hG6.step (fun w0 _ m => m.set 1 rfl 3 (.slice na (ks ++ [f]).length nc))
          simp only [List.set_cons_succ, List.set_cons_zero, List.setIfInBounds_toArray] at hG7
          have hl7 := hl.grownG hG7.grown hg
          rw [show (ks ++ [f]).length = ks.length + 1 by simp] at hG7 hl7
          clear uc uf hG6
          (refine wpAny_take (i := 8) (v := ?_) rfl (by kernel_rfl) (by kernel_rfl) (by kernel_rfl) (fun _ _ _ h => h) (Or.inl ⟨by rfl, ?_⟩) ?_; rotate_left; (focus ((intro w; go_simp); try (with_reducible rfl))); (try simp only [Act.put, List.setIfInBounds_toArray, List.set_cons_zero, List.set_cons_succ]))
          (refine wpAny_ready (rs := [9]) (by kernel_rfl) (by simp) ?_; refine AllReady.cons rfl (fun K hK => ?_) AllReady.nil; go_simp; refine hK _ _ ?_; clear hK K)
          refine wpAny_done (by kernel_rfl) ?_ _
          try simp only [List.getElem_toArray, List.getElem_cons_succ, List.getElem_cons_zero, Act.put, List.setIfInBounds_toArray, List.set_cons_zero, List.set_cons_succ]
          go_wp2_with fail
          go_roundw
          case rel =>
            have hsum : sumN Fm.size (ks ++ [f]) = sumN Fm.size ks + f.size := sumN_app ks f
            refine ⟨m + 1, .slice na (ks.length + 1) nc, H4, ks ++ [f], at2, by omega, by go_num, by simp [hkl.out], ?_, ?_, ?_, by omega, by omega, hl7⟩
            · rw [hsum]
              rwa [show lf - 1 - ((sumN Fm.size ks + f.size : Nat) : Int) = lf - 1 - (sumN Fm.size ks : Nat) - f.size by omega]
            · rw [hsum]; exact ksP_step hKs hs
            · intro x hx
              rcases List.mem_append.1 hx with hx | hx
              · exact hall x hx
              · rw [List.mem_singleton.1 hx]; exact ⟨hwf, hdp⟩
          case measure => simp [intOf]; omega
        · skip
          go_simp
          refine (ih.out e (by omega) (by omega) atm (lf - 1 - (sumN Fm.size ks : Nat)) _ hlm hGm.own (by omega) (by omega) (by omega) (by omega)).mono ?_
          rintro e' w4 ⟨f, a3, c3, a4, c4, at2, rfl, hF, hwf, ⟨hs, hdp⟩, hgr, ho4, g1, g2⟩
          refine hK _ _ ?_
          clear hK K
          replace hlm := hlm.grownG hgr hg
          replace hGm := hGm.call hgr ho4
          have hF4 := mono_FmR _ _ _ _ (up_mono (noH_le H)) hF
          generalize up H _ w4 = H4 at hGm hF4
          obtain ⟨kc, kf⟩ := (hGm.box 1 rfl).facts
          have k3 : _ = some (Value.slice ka ks.length kk) := kc 3
          have f3 := kf 3
          have hgl := (hGm.box 1 rfl).lt
          clear kc kf hgr ho4 hF
          refine wpAny_ready (rs := [1, 6]) (by kernel_rfl) (by simp) ?_
          refine AllReady.cons rfl (fun K hK => ?_) (AllReady.cons rfl (fun K hK => ?_) AllReady.nil)
          · go_simp
            refine hK _ _ ?_
            clear hK K
            (refine wpAny_ready (rs := [6]) (by kernel_rfl) (by simp) ?_; refine AllReady.cons rfl (fun K hK => ?_) AllReady.nil; go_simp; refine hK _ _ ?_; clear hK K)
            have hGa := hGm.step (fun w0 _ m => m.ext (Ext.new w4 (.cells #[.int .i64 f.op, .int .i64 f.n, .slice a3 f.inn.length c3, .slice a4 f.kids.length c4] 29)))
            have hS := Src.lit1 (E := FmR) (H := H4) (w := w4.alloc (.cells #[.int .i64 f.op, .int .i64 f.n, .slice a3 f.inn.length c3, .slice a4 f.kids.length c4] 29)) (b := w4.heap.size) (sz := 4) hF4 rfl (fun j => by rw [(Own.new w4 #[.int .i64 f.op, .int .i64 f.n, .slice a3 f.inn.length c3, .slice a4 f.kids.length c4] 29).facts.1 j]; simp [fmC])
            obtain ⟨w0, z1, z2, z3, z4, z5⟩ := hGa
            refine wpAny_ready (rs := [7]) (by kernel_rfl) (by simp) ?_; refine AllReady.cons rfl (fun K hK => ?_) AllReady.nil
            refine oper_append_M (hm := mono_FmR) (v := .slice ka ks.length kk) (xs := ks) (ys := [f]) 2 _ _ 23 rfl Tryz.underlying23 infoFm rfl rfl rfl z4 rfl hS one_FmR (by have := hkl.out; simp; omega) (by have := hkl.out; simp; omega) ?_
            intro v' w6 hM6 hgr6
            refine hK _ _ ?_
            clear hK K
            have hG6 := MemG.re z1 z2 z3 z4 z5 hM6
            try simp only [List.set_cons_succ, List.set_cons_zero] at hG6 hM6
            obtain ⟨na, nc, rfl, -⟩ := hM6.form 2 rfl
            clear z1 z3 z4 z5 hM6 hS hGm
            obtain ⟨uc, uf⟩ := (hG6.box 1 rfl).facts
            have uf3 := uf 3
            have uc3 : _ = some (Value.slice ka ks.length kk) := uc 3
            have ul := (hG6.box 1 rfl).lt
            have hG7 := hG6.step (fun w0 _ m => m.set 1 rfl 3 (.slice na (ks ++ [f]).length nc))
            simp only [List.set_cons_succ, List.set_cons_zero, List.setIfInBounds_toArray] at hG7
            have hl7 := hl.grownG hG7.grown hg
            rw [show (ks ++ [f]).length = ks.length + 1 by simp] at hG7 hl7
            clear uc uf hG6
            (refine wpAny_take (i := 8) (v := ?_) rfl (by kernel_rfl) (by kernel_rfl) (by kernel_rfl) (fun _ _ _ h => h) (Or.inl ⟨by rfl, ?_⟩) ?_; rotate_left; (focus ((intro w; go_simp); try (with_reducible rfl))); (try simp only [Act.put, List.setIfInBounds_toArray, List.set_cons_zero, List.set_cons_succ]))
            (refine wpAny_ready (rs := [9]) (by kernel_rfl) (by simp) ?_; refine AllReady.cons rfl (fun K hK => ?_) AllReady.nil; go_simp; refine hK _ _ ?_; clear hK K)
            refine wpAny_done (by kernel_rfl) ?_ _
            try simp only [List.getElem_toArray, List.getElem_cons_succ, List.getElem_cons_zero, Act.put, List.setIfInBounds_toArray, List.set_cons_zero, List.set_cons_succ]
            go_wp2_with fail
            go_roundw
            case rel =>
              have hsum : sumN Fm.size (ks ++ [f]) = sumN Fm.size ks + f.size := sumN_app ks f
              refine ⟨m + 1, .slice na (ks.length + 1) nc, H4, ks ++ [f], at2, by omega, by go_num, by simp [hkl.out], ?_, ?_, ?_, by omega, by omega, hl7⟩
              · rw [hsum]
                rwa [show lf - 1 - ((sumN Fm.size ks + f.size : Nat) : Int) = lf - 1 - (sumN Fm.size ks : Nat) - f.size by omega]
              · rw [hsum]; exact ksP_step hKs hs
              · intro x hx
                rcases List.mem_append.1 hx with hx | hx
                · exact hall x hx
                · rw [List.mem_singleton.1 hx]; exact ⟨hwf, hdp⟩
            case measure => simp [intOf]; omega
          · go_simp
            refine hK _ _ ?_
            clear hK K
            (refine wpAny_ready (rs := [1]) (by kernel_rfl) (by simp) ?_; refine AllReady.cons rfl (fun K hK => ?_) AllReady.nil; go_simp; refine hK _ _ ?_; clear hK K)
            have hGa := hGm.step (fun w0 _ m => m.ext (Ext.new w4 (.cells #[.int .i64 f.op, .int .i64 f.n, .slice a3 f.inn.length c3, .slice a4 f.kids.length c4] 29)))
            have hS := Src.lit1 (E := FmR) (H := H4) (w := w4.alloc (.cells #[.int .i64 f.op, .int .i64 f.n, .slice a3 f.inn.length c3, .slice a4 f.kids.length c4] 29)) (b := w4.heap.size) (sz := 4) hF4 rfl (fun j => by rw [(Own.new w4 #[.int .i64 f.op, .int .i64 f.n, .slice a3 f.inn.length c3, .slice a4 f.kids.length c4] 29).facts.1 j]; simp [fmC])
            obtain ⟨w0, z1, z2, z3, z4, z5⟩ := hGa
            refine wpAny_ready (rs := [7]) (by kernel_rfl) (by simp) ?_; refine AllReady.cons rfl (fun K hK => ?_) AllReady.nil
            refine oper_append_M (hm := mono_FmR) (v := .slice ka ks.length kk) (xs := ks) (ys := [f]) 2 _ _ 23 rfl Tryz.underlying23 infoFm rfl rfl rfl z4 rfl hS one_FmR (by have := hkl.out; simp; omega) (by have := hkl.out; simp; omega) ?_
            intro v' w6 hM6 hgr6
            refine hK _ _ ?_
            clear hK K
            have hG6 := MemG.re z1 z2 z3 z4 z5 hM6
            try simp only [List.set_cons_succ, List.set_cons_zero] at hG6 hM6
            obtain ⟨na, nc, rfl, -⟩ := hM6.form 2 rfl
            clear z1 z3 z4 z5 hM6 hS hGm
            obtain ⟨uc, uf⟩ := (hG6.box 1 rfl).facts
            have uf3 := uf 3
            have uc3 : _ = some (Value.slice ka ks.length kk) := uc 3
            have ul := (hG6.box 1 rfl).lt
            have hG7 := hG6.step (fun w0 _ m => m.set 1 rfl 3 (.slice na (ks ++ [f]).length nc))
            simp only [List.set_cons_succ, List.set_cons_zero, List.setIfInBounds_toArray] at hG7
            have hl7 := hl.grownG hG7.grown hg
            rw [show (ks ++ [f]).length = ks.length + 1 by simp] at hG7 hl7
            clear uc uf hG6
            (refine wpAny_take (i := 8) (v := ?_) rfl (by kernel_rfl) (by kernel_rfl) (by kernel_rfl) (fun _ _ _ h => h) (Or.inl ⟨by rfl, ?_⟩) ?_; rotate_left; (focus ((intro w; go_simp); try (with_reducible rfl))); (try simp only [Act.put, List.setIfInBounds_toArray, List.set_cons_zero, List.set_cons_succ]))
            (refine wpAny_ready (rs := [9]) (by kernel_rfl) (by simp) ?_; refine AllReady.cons rfl (fun K hK => ?_) AllReady.nil; go_simp; refine hK _ _ ?_; clear hK K)
            refine wpAny_done (by kernel_rfl) ?_ _
            try simp only [List.getElem_toArray, List.getElem_cons_succ, List.getElem_cons_zero, Act.put, List.setIfInBounds_toArray, List.set_cons_zero, List.set_cons_succ]
            go_wp2_with fail
            go_roundw
            case rel =>
              have hsum : sumN Fm.size (ks ++ [f]) = sumN Fm.size ks + f.size := sumN_app ks f
              refine ⟨m + 1, .slice na (ks.length + 1) nc, H4, ks ++ [f], at2, by omega, by go_num, by simp [hkl.out], ?_, ?_, ?_, by omega, by omega, hl7⟩
              · rw [hsum]
                rwa [show lf - 1 - ((sumN Fm.size ks + f.size : Nat) : Int) = lf - 1 - (sumN Fm.size ks : Nat) - f.size by omega]
              · rw [hsum]; exact ksP_step hKs hs
              · intro x hx
                rcases List.mem_append.1 hx with hx | hx
                · exact hall x hx
                · rw [List.mem_singleton.1 hx]; exact ⟨hwf, hdp⟩
            case measure => simp [intOf]; omega
      · have hmn : m = nv := by omega
        obtain ⟨kc, kf⟩ := (hGm.box 1 rfl).facts
        have q0' : _ = some (Value.int .i64 (4 + k % 2)) := kc 0
        have q1' : _ = some (Value.int .i64 0) := kc 1
        have q2' : _ = some (Value.slice none 0 0) := kc 2
        have q3' : _ = some (Value.slice ka ks.length kk) := kc 3
        have hgl := (hGm.box 1 rfl).lt
        obtain ⟨uc, uf⟩ := (hGm.box 0 rfl).facts
        have u0' : _ = some (Value.int .i64 0) := uc 0
        have u1' : _ = some (Value.int .i64 0) := uc 1
        have u2' : _ = some (Value.slice none 0 0) := uc 2
        have u3' : _ = some (Value.slice none 0 0) := uc 3
        have ul := (hGm.box 0 rfl).lt
        clear kc kf uc hG5 hcn
        have hG8 := hGm.set4 0 rfl (.int .i64 (4 + k % 2)) (.int .i64 0) (.slice none 0 0) (.slice ka ks.length kk)
        simp only [List.set_cons_zero] at hG8
        obtain ⟨H9, hp9, hG9, hks⟩ := hG8.freezeS 2 rfl
        clear hG8
        go_wp2_with fail
        generalize ((((wr.setCell _ _).setCell _ _).setCell _ _).setCell _ _) = w9 at *
        obtain ⟨q, -⟩ := (hG9.box 0 rfl).facts
        have q0 : _ = some (Value.int .i64 (4 + k % 2)) := q 0
        have q1 : _ = some (Value.int .i64 0) := q 1
        have q2 : _ = some (Value.slice none 0 0) := q 2
        have q3 : _ = some (Value.slice ka ks.length kk) := q 3
        refine bodyPost_ret (v := .agg #[.int .i64 (4 + k % 2), .int .i64 0, .slice none 0 0, .slice ka ks.length kk]) (by simp [results, Tryz.results48, go_sem, q0, q1, q2, q3]) rfl ?_
        have hsz := size_mk (4 + k % 2) 0 [] ks
        have hdp := deep_mk (4 + k % 2) 0 [] ks
        have hmx : maxN Fm.deep ks ≤ max 1 (e + 1) := maxN_le fun x hx => (hall x hx).2
        exact ⟨.mk (4 + k % 2) 0 [] ks, none, 0, ka, kk, atm, rfl, mono_FmR _ _ _ _ hG9.ub (FmR.of (by simp [Fm.op, I64]; omega) (by simp [Fm.n, I64]) (SliceRep.nil _ _ _) hks), whole_ao hop (fun x hx => (hall x hx).1), ⟨by rw [hsz]; exact szP_of hKs (by omega) (by omega), by omega⟩, hG9.grown, by rw [hsz]; have h := hG9.own; rwa [show lf - 1 - ((sumN Fm.size ks : Nat) : Int) = lf - ((1 + sumN Fm.size ks : Nat) : Int) by omega] at h, by omega, by omega⟩
theorem Mem.callB {w0 w w' : World} {H0 H : PH} {L : List Chunk} (h : Mem w0 H0 L H w) (i : Nat) {b : Nat} {c c' : Array Value} {T : TypeId} (hi : L[i]? = some (Proofs.YtbpilielamjnoaaGreat.box b c T)) (e : w.grownBy w' (some b)) (ho : Own w' b c' T) :
    Mem w0 H0 (L.set i (Proofs.YtbpilielamjnoaaGreat.box b c' T)) (Proofs.YtbpilielamjnoaaGreat.up H w w') w' := by
  have hlt : b < w.heap.size := (h.box i hi).lt
  have hge : w0.heap.size ≤ b := (h.fr i _ hi b rfl).1
  have hlt' := ho.lt
  have hb : ∀ k, b ≠ k → (w.heap.setIfInBounds b w'.heap[b])[k]? = w.heap[k]? := fun k hk => Array.getElem?_setIfInBounds_ne hk
  have h1 : Mem w0 H0 (L.set i (Proofs.YtbpilielamjnoaaGreat.box b c' T)) H { w with heap := w.heap.setIfInBounds b w'.heap[b] } := by
    refine h.put i hi (c' := Proofs.YtbpilielamjnoaaGreat.box b c' T) ?_ (fun k hk => .inl hk) ⟨h.ex.os, h.ex.tape, h.ex.output, by simpa using h.ex.size, fun k hk => ?_⟩ fun k hk hn => hb k (fun hh => hn (by rw [← hh]; rfl))
    · show Own _ b c' T
      unfold Own at *
      show (w.heap.setIfInBounds b w'.heap[b])[b]? = _
      rw [Array.getElem?_setIfInBounds_self_of_lt hlt, ← ho]; simp [hlt']
    · show (w.heap.setIfInBounds b w'.heap[b])[k]? = _
      rw [hb k (by omega)]; exact h.ex.block k hk
  have h2 := h1.up (w' := w') ⟨e.os, e.tape, e.output, by simpa using e.size, fun k hk => ?_⟩
  · have hu : Proofs.YtbpilielamjnoaaGreat.up H { w with heap := w.heap.setIfInBounds b w'.heap[b] } w' = Proofs.YtbpilielamjnoaaGreat.up H w w' := by
      unfold Proofs.YtbpilielamjnoaaGreat.up; simp
    rwa [hu] at h2
  · show w'.heap[k]? = (w.heap.setIfInBounds b w'.heap[b])[k]?
    by_cases hk' : b = k
    · subst hk'; rw [Array.getElem?_setIfInBounds_self_of_lt hlt]; simp [hlt']
    · rw [hb k hk']; exact e.block k (by simpa using hk) (fun hh => hk' (Option.some.inj hh).symm)
def SomeN (w : World) (cl lf : Int) (d : Nat) (e : Ending) (w' : World) : Prop :=
  ∃ f a3 c3 a4 c4, e = .returned (fmV f a3 c3 a4 c4) ∧ FmR (up noH w w') (fmC f a3 c3 a4 c4) f ∧ wholeN cl f = true ∧ (SzP lf f.size ∧ f.deep ≤ max 1 (d + 1)) ∧ Ext w w'
set_option maxRecDepth 100000 in
theorem some07_n {Hl : PH} (l : List Int) (vl : Value) (cl lf : Int) (d : Nat) (w : World) (hl : PLe Hl (ph w)) (hr : IntsR Hl vl l) (hc0 : 0 < cl) (hc1 : cl ≤ 64) (hd : d ≤ 7) (h0 : 0 ≤ lf) (h1 : lf ≤ 100) :
    Calls Tryz.prog 19 #[vl, .int .i64 cl, .int .i64 lf, .int .i64 ((d : Int) + 1)] w (SomeN w cl lf d) := by
  obtain ⟨xa, xc, rfl, hll, hr⟩ := hr.form
  have hM := ((Mem.start w Hl hl).new' zeroFa 29 (n := w.heap.size) (by simp)).new' (mkA (.slice xa l.length xc) 0 cl lf) 77 (n := w.heap.size + 1) (by simp)
  have hN := ((Mem.start w noH (noH_le _)).new' zeroFa 29 (n := w.heap.size) (by simp)).new' (mkA (.slice xa l.length xc) 0 cl lf) 77 (n := w.heap.size + 1) (by simp)
  simp only [List.cons_append, List.nil_append] at hM hN
  go_enter Tryz.func19, Tryz.ntmps19
  go_wp2_with fail
  change Calls _ _ _ ((w.alloc (.cells zeroFa 29)).alloc (.cells (mkA (.slice xa l.length xc) 0 cl lf) 77)) _
  generalize World.alloc _ _ = W at *
  refine (tree_c l _ (w.heap.size + 1) cl hr (hM.fr 1 _ rfl _ rfl).2 hc0 hc1 d hd 0 lf W hM.ple (hM.box 1 rfl) (by omega) (by omega) (by omega) h1).mono ?_
  rintro e w1 ⟨f, a3, c3, a4, c4, at2, rfl, hF, hwf, hP, hgr, ho1, g1, g2⟩
  have hM1 := hN.callB 1 rfl hgr ho1
  simp only [List.set_cons_succ, List.set_cons_zero] at hM1
  generalize up noH W w1 = H1 at *
  have ob := hM1.box 0 rfl
  obtain ⟨uc, uf⟩ := ob.facts
  have ul := ob.lt
  have q0' : _ = some (Value.int .i64 0) := uc 0
  have q1' : _ = some (Value.int .i64 0) := uc 1
  have q2' : _ = some (Value.slice none 0 0) := uc 2
  have q3' : _ = some (Value.slice none 0 0) := uc 3
  have hM2 := hM1.set4 0 rfl (.int .i64 f.op) (.int .i64 f.n) (.slice a3 f.inn.length c3) (.slice a4 f.kids.length c4)
  simp only [List.set_cons_zero] at hM2
  clear uc hM hN hM1 hgr ho1
  go_wp2_with fail
  generalize ((((w1.setCell _ _).setCell _ _).setCell _ _).setCell _ _) = w9 at *
  obtain ⟨q, -⟩ := (hM2.box 0 rfl).facts
  have q0 : _ = some (Value.int .i64 f.op) := q 0
  have q1 : _ = some (Value.int .i64 f.n) := q 1
  have q2 : _ = some (Value.slice a3 f.inn.length c3) := q 2
  have q3 : _ = some (Value.slice a4 f.kids.length c4) := q 3
  refine bodyPost_ret (v := .agg #[.int .i64 f.op, .int .i64 f.n, .slice a3 f.inn.length c3, .slice a4 f.kids.length c4]) (by simp [results, Tryz.results19, go_sem, q0, q1, q2, q3]) rfl ?_
  exact ⟨f, a3, c3, a4, c4, rfl, mono_FmR _ _ _ _ hM2.ub hF, hwf, hP, hM2.ex⟩
end Go.Proofs.YtbpilielamjnoaaGreat
namespace Go.Proofs.YtbpilielamjnoaaGreat
open Go.RowKit Go.Shelf
section
variable {α : Type} {E : PH → List Value → α → Prop} {sz : Nat} {h : PH} {b : Nat}
end
def clsF (n : Int) : Fm := .mk 1 n [] []
theorem clsF_R (H : PH) {n : Int} (hn : I64 n) : FmR H (fmC (clsF n) none 0 none 0) (clsF n) := FmR.of (by simp [clsF, Fm.op, I64]) (by simpa [clsF, Fm.n] using hn) (SliceRep.nil _ _ _) (SliceRep.nil _ _ _)
theorem ints1 {w : World} {g : Nat} {x : Int} {T : TypeId} (ho : Own w g #[.int .i64 x] T) (hx : I64 x) : IntsR (ph w) (.slice (some ⟨g, 0, none⟩) 1 1) [x] := by
  refine ⟨_, 1, rfl, Nat.le_refl _, by simp [maxLen], .inr ⟨g, 0, rfl, ⟨[.int .i64 x], rfl, fun j hj => ?_, rfl, hx⟩, trivial⟩⟩
  obtain rfl : j = 0 := by omega
  rw [← cell_ph]
  exact ho.facts.1 0
mutual
noncomputable def hold (ps : List (List Int)) : Fm → Thing → Bool
  | .mk op n inn kids, t =>
    if op = 1 then t.cls.any fun c => B (isTx ps c n)
    else if op = 2 then (match getVal t.vals n with | some r => hasL inn r | none => false)
    else if op = 3 then t.parts.any fun p => holdFst ps kids p
    else if op = 4 then holdAll ps kids t
    else if op = 5 then holdAny ps kids t
    else if op = 6 then !holdFst ps kids t
    else true
noncomputable def holdAll (ps : List (List Int)) : List Fm → Thing → Bool
  | [], _ => true
  | f :: l, t => hold ps f t && holdAll ps l t
noncomputable def holdAny (ps : List (List Int)) : List Fm → Thing → Bool
  | [], _ => false
  | f :: l, t => hold ps f t || holdAny ps l t
noncomputable def holdFst (ps : List (List Int)) : List Fm → Thing → Bool
  | [], _ => false
  | f :: _, t => hold ps f t
end
theorem holdAll_eq (ps : List (List Int)) (t : Thing) : ∀ l : List Fm, holdAll ps l t = l.all fun f => hold ps f t
  | [] => rfl
  | f :: l => by rw [holdAll, List.all_cons, holdAll_eq ps t l]
theorem holdAny_eq (ps : List (List Int)) (t : Thing) : ∀ l : List Fm, holdAny ps l t = l.any fun f => hold ps f t
  | [] => rfl
  | f :: l => by rw [holdAny, List.any_cons, holdAny_eq ps t l]
theorem hold_eq (ps : List (List Int)) (f : Fm) (t : Thing) : hold ps f t = if f.op = 1 then t.cls.any fun c => B (isTx ps c f.n)
    else if f.op = 2 then (match getVal t.vals f.n with | some r => hasL f.inn r | none => false)
    else if f.op = 3 then t.parts.any fun p => holdFst ps f.kids p
    else if f.op = 4 then f.kids.all fun g => hold ps g t
    else if f.op = 5 then f.kids.any fun g => hold ps g t
    else if f.op = 6 then !holdFst ps f.kids t
    else true := by
  cases f with
  | mk op n inn kids => rw [hold, holdAll_eq, holdAny_eq]; rfl
theorem containsFm_P {H : PH} (fid : Nat) (cap : Array Value) (vs : Value) (xs : List Fm) (hv : FmsR H vs xs) (p : Fm → Bool) (w : World) (hH : PLe H (ph w))
    (hfn : ∀ args w, (callFunc fid args).run Tryz.prog w = .ok (.enter fid args) w)
    (hf : ∀ x ∈ xs, ∀ wr cs, Ext w wr → FmR H cs x → Calls Tryz.prog fid (#[.agg cs.toArray] ++ cap) wr (RetV wr (.bool (p x)))) :
    Calls Tryz.prog 85 #[vs, .func (.func fid) #[] cap] w (RetV w (.bool (xs.any p))) := by
  refine (containsFunc_J fid cap vs xs hv (fun k wr => Ext w wr ∧ ∀ x ∈ xs.take k, p x = false) (fun wr => Ext w wr ∧ xs.any p = true) w hfn (fun k hk wr cs hR hE => ?_) (fun k wr hR => hH.trans hR.1.ple) ⟨Ext.rfl' _, by simp⟩).mono ?_
  · refine (hf _ (List.getElem_mem hk) wr cs hR.1 hE).mono ?_
    rintro e w1 ⟨rfl, hx⟩
    cases hp : p xs[k] with
    | true => exact .inr ⟨rfl, hR.1.then hx, List.any_eq_true.2 ⟨_, List.getElem_mem hk, hp⟩⟩
    | false =>
      refine .inl ⟨rfl, hR.1.then hx, fun x hxm => ?_⟩
      rw [List.take_succ_eq_append_getElem hk] at hxm
      rcases List.mem_append.1 hxm with h | h
      · exact hR.2 x h
      · rw [List.mem_singleton.1 h]; exact hp
  · rintro e w1 (⟨rfl, hx, h1⟩ | ⟨rfl, hx, h1⟩)
    · rw [List.take_length] at h1
      have : xs.any p = false := by
        rw [List.any_eq_false]; intro x hx; simp [h1 x hx]
      exact ⟨by rw [this], hx⟩
    · exact ⟨by rw [h1], hx⟩
theorem kinds1_c (x n : Int) (b : Nat) (w : World) (hc : w.cell? ⟨b, 0, none⟩ = some (.int .i64 n)) : Calls Tryz.prog 98 #[.int .i64 x, .pointer (some ⟨b, 0, none⟩)] w (RetV w (.bool (decide (n ≤ x)))) := by
  have hb := cell_lt hc
  go_enter Tryz.func98, Tryz.ntmps98
  go_wp2_with fail
  go_ret
  exact ⟨rfl, xE⟩
end Go.Proofs.YtbpilielamjnoaaGreat
namespace Go.Proofs.YtbpilielamjnoaaGreat
open Go.RowKit Go.Shelf
theorem holds2_c {ps : List (List Int)} (hn : ps.length ≤ 64) (x n : Int) (B g3 g4 : Nat) (w : World) (hx : I64 x) (hi : I64 n) (hc3 : w.cell? ⟨g3, 0, none⟩ = some (.pointer (some ⟨B, 0, none⟩))) (hc4 : w.cell? ⟨g4, 1, none⟩ = some (.int .i64 n)) (hT : TaxR w B ps) :
    Calls Tryz.prog 102 #[.int .i64 x, .pointer (some ⟨g3, 0, none⟩), .pointer (some ⟨g4, 0, none⟩)] w (RetV w (.bool (Proofs.YtbpilielamjnoaaGreat.B (isTx ps x n)))) := by
  have l3 := cell_lt hc3
  have l4 := cell_lt hc4
  go_enter Tryz.func102, Tryz.ntmps102
  go_wp2_with fail
  refine RetV_at (isTx_c hn hT x n hx hi) ?_
  intro w1 hx1
  go_wp2_with fail
  go_ret
  exact ⟨rfl, hx1⟩
theorem getVal_I {h : PH} {v : Value} {l : List Val} (hr : ValsR h v l) {k : Int} {r : Rat2} (hg : getVal l k = some r) : r.I := by
  unfold getVal at hg
  cases hf : l.find? (·.attr == k) with
  | none => rw [hf] at hg; cases hg
  | some x =>
    rw [hf] at hg
    have hm := List.mem_of_find?_eq_some hf
    obtain ⟨j, hj, rfl⟩ := List.getElem_of_mem hm
    obtain ⟨a, c, rfl, -, hr⟩ := hr.form
    obtain ⟨b, o, cs, -, -, -, hE⟩ := hr.get j hj
    obtain ⟨-, h1, h2, h3⟩ := hE
    simp only [Option.map_some, Option.some.injEq] at hg
    rw [← hg]; exact ⟨h2, h3⟩
set_option maxRecDepth 100000 in
set_option maxHeartbeats 4000000 in
theorem holds_c {ps : List (List Int)} (hn : ps.length ≤ 64) (B : Nat) (f : Fm) : ∀ (t : Thing) (cs ds : List Value) (w : World), TaxR w B ps → FmR (ph w) cs f → ThingR (ph w) ds t → wholeB f = true →
    Calls Tryz.prog 54 #[.pointer (some ⟨B, 0, none⟩), .agg cs.toArray, .agg ds.toArray] w (RetV w (.bool (hold ps f t))) := by
  induction f using Fm.ind with
  | h f ih =>
    intro t cs ds w hT hF hD hw
    obtain ⟨a3, c3, a4, c4, rfl, i1, i2, -, -, hfi, hfk⟩ := hF.form
    obtain ⟨b1, d1, b2, d2, b3, d3, rfl, -, -, -, h1, h2, h3⟩ := hD.form
    have hF0 := hF
    have hwk : ∀ x ∈ f.kids, wholeB x = true := by
      rw [wholeB_eq, Bool.and_eq_true, List.all_eq_true] at hw; exact hw.2
    have hform : formed1 f = true := by
      rw [wholeB_eq, Bool.and_eq_true] at hw; exact hw.1
    have HI := Lib.hid (fun x hx t cs ds w a b c => ih x hx t cs ds w a b c (hwk x hx))
    clear ih hw hwk
    unfold fmC at hF ⊢
    have e5 : Ext w ((((w.alloc (.cells #[.pointer (some ⟨B, 0, none⟩)] 33)).alloc (.cells #[.int .i64 f.op, .int .i64 f.n, .slice a3 f.inn.length c3, .slice a4 f.kids.length c4] 29)).alloc (.cells #[.slice b1 t.cls.length d1, .slice b2 t.vals.length d2, .slice b3 t.parts.length d3] 41)).alloc (.cells #[.func (.func 101) #[] #[.pointer (some ⟨w.heap.size, 0, none⟩), .pointer (some ⟨w.heap.size + 1 + 1, 0, none⟩)]] 51)) := xE
    have o3 : Own ((((w.alloc (.cells #[.pointer (some ⟨B, 0, none⟩)] 33)).alloc (.cells #[.int .i64 f.op, .int .i64 f.n, .slice a3 f.inn.length c3, .slice a4 f.kids.length c4] 29)).alloc (.cells #[.slice b1 t.cls.length d1, .slice b2 t.vals.length d2, .slice b3 t.parts.length d3] 41)).alloc (.cells #[.func (.func 101) #[] #[.pointer (some ⟨w.heap.size, 0, none⟩), .pointer (some ⟨w.heap.size + 1 + 1, 0, none⟩)]] 51)) w.heap.size #[.pointer (some ⟨B, 0, none⟩)] 33 := oE
    have o4 : Own ((((w.alloc (.cells #[.pointer (some ⟨B, 0, none⟩)] 33)).alloc (.cells #[.int .i64 f.op, .int .i64 f.n, .slice a3 f.inn.length c3, .slice a4 f.kids.length c4] 29)).alloc (.cells #[.slice b1 t.cls.length d1, .slice b2 t.vals.length d2, .slice b3 t.parts.length d3] 41)).alloc (.cells #[.func (.func 101) #[] #[.pointer (some ⟨w.heap.size, 0, none⟩), .pointer (some ⟨w.heap.size + 1 + 1, 0, none⟩)]] 51)) (w.heap.size + 1) #[.int .i64 f.op, .int .i64 f.n, .slice a3 f.inn.length c3, .slice a4 f.kids.length c4] 29 := oE
    have o5 : Own ((((w.alloc (.cells #[.pointer (some ⟨B, 0, none⟩)] 33)).alloc (.cells #[.int .i64 f.op, .int .i64 f.n, .slice a3 f.inn.length c3, .slice a4 f.kids.length c4] 29)).alloc (.cells #[.slice b1 t.cls.length d1, .slice b2 t.vals.length d2, .slice b3 t.parts.length d3] 41)).alloc (.cells #[.func (.func 101) #[] #[.pointer (some ⟨w.heap.size, 0, none⟩), .pointer (some ⟨w.heap.size + 1 + 1, 0, none⟩)]] 51)) (w.heap.size + 1 + 1) #[.slice b1 t.cls.length d1, .slice b2 t.vals.length d2, .slice b3 t.parts.length d3] 41 := oE
    have o7 : Own ((((w.alloc (.cells #[.pointer (some ⟨B, 0, none⟩)] 33)).alloc (.cells #[.int .i64 f.op, .int .i64 f.n, .slice a3 f.inn.length c3, .slice a4 f.kids.length c4] 29)).alloc (.cells #[.slice b1 t.cls.length d1, .slice b2 t.vals.length d2, .slice b3 t.parts.length d3] 41)).alloc (.cells #[.func (.func 101) #[] #[.pointer (some ⟨w.heap.size, 0, none⟩), .pointer (some ⟨w.heap.size + 1 + 1, 0, none⟩)]] 51)) (w.heap.size + 1 + 1 + 1) #[.func (.func 101) #[] #[.pointer (some ⟨w.heap.size, 0, none⟩), .pointer (some ⟨w.heap.size + 1 + 1, 0, none⟩)]] 51 := oE
    go_enter Tryz.func54, Tryz.ntmps54
    go_upto_region 2 with (fail)
    generalize World.alloc _ _ = w5 at *
    generalize hB7 : w.heap.size + 1 + 1 + 1 = g7 at *
    generalize hB5 : w.heap.size + 1 + 1 = g5 at *
    generalize hB4 : w.heap.size + 1 = g4 at *
    generalize w.heap.size = g3 at *
    clear hB7 hB5 hB4
    have u3 : w5.cell? ⟨g3, 0, none⟩ = some (.pointer (some ⟨B, 0, none⟩)) := o3.facts.1 0
    have u40 : w5.cell? ⟨g4, 0, none⟩ = some (.int .i64 f.op) := o4.facts.1 0
    have u41 : w5.cell? ⟨g4, 1, none⟩ = some (.int .i64 f.n) := o4.facts.1 1
    have u42 : w5.cell? ⟨g4, 2, none⟩ = some (.slice a3 f.inn.length c3) := o4.facts.1 2
    have u43 : w5.cell? ⟨g4, 3, none⟩ = some (.slice a4 f.kids.length c4) := o4.facts.1 3
    have u50 : w5.cell? ⟨g5, 0, none⟩ = some (.slice b1 t.cls.length d1) := o5.facts.1 0
    have u51 : w5.cell? ⟨g5, 1, none⟩ = some (.slice b2 t.vals.length d2) := o5.facts.1 1
    have u52 : w5.cell? ⟨g5, 2, none⟩ = some (.slice b3 t.parts.length d3) := o5.facts.1 2
    have u7 : w5.cell? ⟨g7, 0, none⟩ = some (.func (.func 101) #[] #[.pointer (some ⟨g3, 0, none⟩), .pointer (some ⟨g5, 0, none⟩)]) := o7.facts.1 0
    have l3 := o3.lt
    have l4 := o4.lt
    have l5 := o5.lt
    have l7 := o7.lt
    clear o3 o4 o5 o7 hF
    have hself : ∀ x ∈ f.kids, ∀ wr cs', Ext w5 wr → FmR (ph w) cs' x → Calls Tryz.prog 101 (#[.agg cs'.toArray] ++ #[.pointer (some ⟨g3, 0, none⟩), .pointer (some ⟨g5, 0, none⟩)]) wr (RetV wr (.bool (hold ps x t))) := by
      intro x hx wr cs' he hE
      have hE0 := hE
      obtain ⟨p3, q3, p4, q4, rfl, -⟩ := hE.form
      unfold fmC at *
      replace u3 := he.cell1 u3
      replace u50 := he.cell1 u50
      replace u51 := he.cell1 u51
      replace u52 := he.cell1 u52
      replace l3 := cell_lt u3
      replace l5 := cell_lt u50
      replace hT := (hT.keep e5).keep he
      have hD' := mono_ThingR _ _ _ _ (e5.then he).ple hD
      have hE' := mono_FmR _ _ _ _ (e5.then he).ple hE0
      clear u40 u41 u42 u43 u7 l4 l7 hE hE0 h1 h2 h3 hfi hfk hF0 hform
      go_enter Tryz.func101, Tryz.ntmps101
      go_wp2_with fail
      refine RetV_at (HI.out x hx t _ _ _ (hT.keep xE) (mono_FmR _ _ _ _ (Ext.ple xE) hE') (mono_ThingR _ _ _ _ (Ext.ple xE) hD')) ?_
      intro w9 hx9
      go_wp2_with fail
      go_ret
      exact ⟨rfl, xE⟩
    replace hself := Lib.hid hself
    by_cases q1 : f.op = 1
    · have hv : Hid (hold ps f t = t.cls.any fun c => Proofs.YtbpilielamjnoaaGreat.B (isTx ps c f.n)) := by show _ = _; rw [hold_eq, if_pos q1]
      have b1 : (f.op == 1) = true := by simpa using q1
      have hc := containsInt_P 102 #[.pointer (some ⟨g3, 0, none⟩), .pointer (some ⟨g4, 0, none⟩)] _ t.cls (h1.mono mono_IntR e5.ple) (fun c => Proofs.YtbpilielamjnoaaGreat.B (isTx ps c f.n)) w5 (fun _ _ h => h) (fun args w => enterFn Tryz.func102 rfl rfl args w) (fun k hk wr hx hi => holds2_c hn _ f.n B g3 g4 wr hi i2 (hx.cell1 u3) (hx.cell1 u41) ((hT.keep e5).keep hx))
      rw [← hv.out] at hc
      generalize hold ps f t = res at *
      clear hv q1
      go_wp2_with fail
      refine RetV_at hc ?_
      intro w6 hx6
      go_wp2_with fail
      go_ret
      exact ⟨rfl, e5.then hx6⟩
    have b1 : (f.op == 1) = false := by simpa using q1
    by_cases q2 : f.op = 2
    · have hv : Hid (hold ps f t = (match getVal t.vals f.n with | some r => hasL f.inn r | none => false)) := by show _ = _; rw [hold_eq, if_neg q1, if_pos q2] <;> (cases getVal t.vals f.n <;> rfl)
      have b2 : (f.op == 2) = true := by simpa using q2
      have hval := tvalue_c t f.n _ w5 (mono_ThingR _ _ _ _ e5.ple hD)
      have hfi5 := hfi.mono mono_ItvR e5.ple
      cases hg : getVal t.vals f.n with
      | none =>
        rw [hg] at hval hv
        unfold optRat at hval
        dsimp only at hval hv
        clear q1 q2
        go_wp2_with fail
        refine RetV_at hval ?_
        intro w6 hx6
        replace u42 := hx6.cell1 u42
        replace l4 := cell_lt u42
        clear hval
        go_wp2_with fail
        go_ret
        exact ⟨by rw [hv.out]; rfl, xE⟩
      | some r =>
        have hrI := getVal_I h2 hg
        rw [hg] at hval hv
        unfold optRat at hval
        dsimp only at hval hv
        clear q1 q2
        go_wp2_with fail
        refine RetV_at hval ?_
        intro w6 hx6
        replace u42 := hx6.cell1 u42
        replace l4 := cell_lt u42
        clear hval
        go_wp2_with fail
        refine RetV_at (hasL_c _ f.inn r _ (hfi5.mono mono_ItvR (Ext.ple xE)) hrI) ?_
        intro w7 hx7
        rw [← hv.out]
        go_wp2_with fail
        go_ret
        exact ⟨rfl, xE⟩
    have b2 : (f.op == 2) = false := by simpa using q2
    by_cases q3 : f.op = 3
    · have hv : Hid (hold ps f t = t.parts.any fun p => holdFst ps f.kids p) := by show _ = _; rw [hold_eq, if_neg q1, if_neg q2, if_pos q3]
      have b3' : (f.op == 3) = true := by simpa using q3
      obtain ⟨g0, hk0⟩ : ∃ g0, f.kids = [g0] := by
        obtain ⟨op, n, inn, kids⟩ := f
        simp only [Fm.op, Fm.kids] at *
        subst q3
        rw [formed1_mk] at hform
        have hl : kids.length = 1 := by
          split at hform
          · cases hform
          · simpa using hform
        exact List.length_eq_one_iff.1 hl
      have hc := containsFunc_thing (fun p => holdFst ps f.kids p) 105 #[.pointer (some ⟨g3, 0, none⟩), .pointer (some ⟨g4, 0, none⟩)] _ t.parts w5 (h3.mono mono_ThingR e5.ple) (fun args w => enterFn Tryz.func105 rfl rfl args w) (by
        intro wr hx p hp cs' hE
        have hE0 := hE
        obtain ⟨p1, r1, p2, r2, p3, r3, rfl, -⟩ := hE.form
        have hkr := hfk.mono mono_FmR (e5.then hx).ple
        obtain ⟨kb, ko, k3, m3, k4, m4, ek, z0, z1, z2, z3, hEk, zl⟩ := FmsR.at hkr 0 (by rw [hk0]; simp)
        have hg0 : f.kids[0]'(by rw [hk0]; simp) = g0 := by simp [hk0]
        rw [hg0] at z0 z1 z2 z3 hEk
        simp only [Nat.zero_mul, Nat.add_zero] at z0 z1 z2 z3
        have hhf : holdFst ps f.kids p = hold ps g0 p := by rw [hk0]; rfl
        have hkl : f.kids.length = 1 := by rw [hk0]; rfl
        rw [hhf]
        subst ek
        have hIk := HI.out g0 (by rw [hk0]; simp) p
        unfold fmC at hEk
        replace u3 := hx.cell1 u3
        replace u43 := hx.cell1 u43
        rw [hkl] at u43
        replace l3 := cell_lt u3
        replace l4 := cell_lt u43
        replace hT := (hT.keep e5).keep hx
        have hb0 : (0 : Nat) < 1 := by omega
        clear u40 u41 u42 u50 u51 u52 u7 l5 l7 h1 h2 h3 hfi hfk hF0 hform hE hkr hhf hg0 hself hv hkl
        replace hIk := Lib.hid hIk
        go_enter Tryz.func105, Tryz.ntmps105
        go_upto_region 1 with (fail)
        have ex := Ext.new wr (.cells #[.slice p1 p.cls.length r1, .slice p2 p.vals.length r2, .slice p3 p.parts.length r3] 41)
        have ox := Own.new wr #[.slice p1 p.cls.length r1, .slice p2 p.vals.length r2, .slice p3 p.parts.length r3] 41
        replace u3 := ex.cell1 u3
        replace u43 := ex.cell1 u43
        replace z0 := ex.cell1 z0
        replace z1 := ex.cell1 z1
        replace z2 := ex.cell1 z2
        replace z3 := ex.cell1 z3
        replace l3 := cell_lt u3
        replace l4 := cell_lt u43
        replace zl := cell_lt z0
        replace hT := hT.keep ex
        replace hEk := mono_FmR _ _ _ _ ex.ple hEk
        have hEp := mono_ThingR _ _ _ _ ex.ple hE0
        generalize wr.alloc _ = w8 at *
        generalize wr.heap.size = g8 at *
        have y0 : w8.cell? ⟨g8, 0, none⟩ = some (.slice p1 p.cls.length r1) := ox.facts.1 0
        have y1 : w8.cell? ⟨g8, 1, none⟩ = some (.slice p2 p.vals.length r2) := ox.facts.1 1
        have y2 : w8.cell? ⟨g8, 2, none⟩ = some (.slice p3 p.parts.length r3) := ox.facts.1 2
        have yl := ox.lt
        clear ox
        (refine wp_region_I 8 (by kernel_rfl) (by kernel_rfl) ?_; simp only [List.toList_toArray, List.take_succ_cons, List.take_zero, List.drop_succ_cons, List.drop_zero])
        iterate 6 (refine wiA rfl (by simp) rfl ?_; (try simp only [List.nil_append, List.cons_append]))
        (refine walkI_is (u := ?_) rfl (by simp) rfl ?_ ?_; rotate_left; (focus (intro A w' hS hA K hK; (simp only [List.map_cons, List.map_nil, knows, Is, Op.operands, Call.operands, List.lookup_cons, List.lookup_nil, Nat.reduceBEq, Bool.false_eq_true, if_false, if_true, Act.eval, Array.getD_eq_getD_getElem?, List.getElem?_toArray, List.getElem?_cons_succ, List.getElem?_cons_zero, Option.getD_some, and_true, true_and, List.append_toArray, List.nil_append, List.cons_append, List.toList_toArray, Array.toList_append, Option.toArray, List.append_nil] at hA); first | (go_simp; refine (hIk.out _ _ _ (hT.keep hS) (mono_FmR _ _ _ _ hS.ple hEk) (mono_ThingR _ _ _ _ hS.ple hEp)).mono ?_; rintro e w9 ⟨rfl, hx9⟩; exact hK _ hx9) | (obtain ⟨hSc, hSf, hSs⟩ := hS.cells; go_simp; exact hK _ xN))); (try simp only [List.nil_append, List.cons_append]))
        (refine wiA rfl (by simp) rfl ?_; (try simp only [List.nil_append, List.cons_append]))
        (refine walkI_nil ?_; simp only [List.nil_append, List.cons_append, fins, Is, forall_eq, Act.put, List.setIfInBounds_toArray, List.set_cons_zero, List.set_cons_succ])
        intro w9 hx9
        go_wp2_with fail
        go_ret
        exact ⟨rfl, ex.then hx9⟩)
      rw [← hv.out] at hc
      generalize hold ps f t = res at *
      clear hv q1 q2 q3
      go_wp2_with fail
      refine RetV_at hc ?_
      intro w6 hx6
      go_wp2_with fail
      go_ret
      exact ⟨rfl, e5.then hx6⟩
    have b3' : (f.op == 3) = false := by simpa using q3
    have hfn := fun args w => enterFn Tryz.func101 rfl rfl args w
    by_cases q4 : f.op = 4
    · have hv : Hid (hold ps f t = !(f.kids.any fun g => !hold ps g t)) := by
        show _ = _
        rw [hold_eq, if_neg q1, if_neg q2, if_neg q3, if_pos q4, List.not_any_eq_all_not]
        simp
      have b4' : (f.op == 4) = true := by simpa using q4
      have hc := containsFm_P 106 #[.pointer (some ⟨g7, 0, none⟩)] _ f.kids hfk (fun g => !hold ps g t) w5 e5.ple (fun args w => enterFn Tryz.func106 rfl rfl args w) (by
        intro x hx wr cs' he hE
        have hE0 := hE
        obtain ⟨p3, q3', p4, q4', rfl, -⟩ := hE.form
        unfold fmC at *
        replace u7 := he.cell1 u7
        replace l7 := cell_lt u7
        have hs := fun w' (e : Ext wr w') => hself.out x hx w' _ (he.then e) hE0
        replace hs := Lib.hid hs
        generalize hold ps x t = rx at *
        clear u3 u40 u41 u42 u43 u50 u51 u52 l3 l4 l5 h1 h2 h3 hfi hfk hF0 hform hE hE0 hself hv
        go_enter Tryz.func106, Tryz.ntmps106
        go_wp2_with fail
        refine RetV_at (hs.out _ xE) ?_
        intro w9 hx9
        go_wp2_with fail
        go_ret
        exact ⟨rfl, xE⟩)
      generalize (f.kids.any fun g => !hold ps g t) = res at *
      clear q1 q2 q3 q4 hfn
      go_wp2_with fail
      refine RetV_at hc ?_
      intro w6 hx6
      go_wp2_with fail
      go_ret
      exact ⟨by rw [hv.out]; rfl, e5.then hx6⟩
    have b4' : (f.op == 4) = false := by simpa using q4
    by_cases q5 : f.op = 5
    · have hv : Hid (hold ps f t = f.kids.any fun g => hold ps g t) := by show _ = _; rw [hold_eq, if_neg q1, if_neg q2, if_neg q3, if_neg q4, if_pos q5]
      have b5' : (f.op == 5) = true := by simpa using q5
      have hc := containsFm_P 101 #[.pointer (some ⟨g3, 0, none⟩), .pointer (some ⟨g5, 0, none⟩)] _ f.kids hfk (fun g => hold ps g t) w5 e5.ple hfn (fun x hx wr cs' he hE => hself.out x hx wr cs' he hE)
      rw [← hv.out] at hc
      generalize hold ps f t = res at *
      clear hv q1 q2 q3 q4 q5 hfn
      go_wp2_with fail
      refine RetV_at hc ?_
      intro w6 hx6
      go_wp2_with fail
      go_ret
      exact ⟨rfl, e5.then hx6⟩
    have b5' : (f.op == 5) = false := by simpa using q5
    by_cases q6 : f.op = 6
    · have hv : Hid (hold ps f t = !holdFst ps f.kids t) := by show _ = _; rw [hold_eq, if_neg q1, if_neg q2, if_neg q3, if_neg q4, if_neg q5, if_pos q6]
      have b6' : (f.op == 6) = true := by simpa using q6
      obtain ⟨g0, hk0⟩ : ∃ g0, f.kids = [g0] := by
        obtain ⟨op, n, inn, kids⟩ := f
        simp only [Fm.op, Fm.kids] at *
        subst q6
        rw [formed1_mk] at hform
        have hl : kids.length = 1 := by
          split at hform
          · cases hform
          · simpa using hform
        exact List.length_eq_one_iff.1 hl
      obtain ⟨kb, ko, k3, m3, k4, m4, ek, z0, z1, z2, z3, hEk, zl⟩ := FmsR.atH hfk e5.ple 0 (by rw [hk0]; simp)
      have hg0 : f.kids[0]'(by rw [hk0]; simp) = g0 := by simp [hk0]
      rw [hg0] at z0 z1 z2 z3 hEk
      simp only [Nat.zero_mul, Nat.add_zero] at z0 z1 z2 z3
      have hhf : holdFst ps f.kids t = hold ps g0 t := by rw [hk0]; rfl
      have hkl : f.kids.length = 1 := by rw [hk0]; rfl
      rw [hhf] at hv
      subst ek
      have hs := fun w' (e : Ext w5 w') => hself.out g0 (by rw [hk0]; simp) w' _ e hEk
      unfold fmC at hs
      replace hs := Lib.hid hs
      rw [hkl] at u43
      have hb0 : (0 : Nat) < 1 := by omega
      generalize hold ps g0 t = rx at *
      clear q1 q2 q3 q4 q5 q6 hself hhf hg0 hEk hkl
      go_upto_region 15 with (fail)
      (refine wp_region_I 8 (by kernel_rfl) (by kernel_rfl) ?_; simp only [List.toList_toArray, List.take_succ_cons, List.take_zero, List.drop_succ_cons, List.drop_zero])
      iterate 5 (refine wiA rfl (by simp) rfl ?_; (try simp only [List.nil_append, List.cons_append]))
      (refine walkI_is (u := ?_) rfl (by simp) rfl ?_ ?_; rotate_left; (focus (intro A w' hS hA K hK; (simp only [List.map_cons, List.map_nil, knows, Is, Op.operands, Call.operands, List.lookup_cons, List.lookup_nil, Nat.reduceBEq, Bool.false_eq_true, if_false, if_true, Act.eval, Array.getD_eq_getD_getElem?, List.getElem?_toArray, List.getElem?_cons_succ, List.getElem?_cons_zero, Option.getD_some, and_true, true_and, List.append_toArray, List.nil_append, List.cons_append, List.toList_toArray, Array.toList_append, Option.toArray, List.append_nil] at hA); first | (go_simp; refine (hs.out _ hS).mono ?_; rintro e w9 ⟨rfl, hx9⟩; exact hK _ hx9) | (obtain ⟨hSc, hSf, hSs⟩ := hS.cells; go_simp; exact hK _ xN))); (try simp only [List.nil_append, List.cons_append]))
      iterate 2 (refine wiA rfl (by simp) rfl ?_; (try simp only [List.nil_append, List.cons_append]))
      (refine walkI_nil ?_; simp only [List.nil_append, List.cons_append, fins, Is, forall_eq, Act.put, List.setIfInBounds_toArray, List.set_cons_zero, List.set_cons_succ])
      intro w9 hx9
      go_wp2_with fail
      go_ret
      exact ⟨by rw [hv.out]; rfl, e5.then hx9⟩
    have b6' : (f.op == 6) = false := by simpa using q6
    have hv : Hid (hold ps f t = true) := by show _ = _; rw [hold_eq, if_neg q1, if_neg q2, if_neg q3, if_neg q4, if_neg q5, if_neg q6]
    clear q1 q2 q3 q4 q5 q6 hself
    go_wp2_with fail
    go_ret
    exact ⟨by rw [hv.out]; rfl, e5⟩
end Go.Proofs.YtbpilielamjnoaaGreat
namespace Go.Proofs.YtbpilielamjnoaaGreat
open Go.RowKit Go.Shelf
def HoldsP (w : World) (r : Bool) (e : Ending) (w' : World) : Prop := e = .returned (.tuple #[.bool r, .int .i64 0]) ∧ Ext w w'
end Go.Proofs.YtbpilielamjnoaaGreat
namespace Go.Proofs.YtbpilielamjnoaaGreat
open Go.RowKit
section
variable {ps : List (List Int)} {t : Thing}
end
end Go.Proofs.YtbpilielamjnoaaGreat
namespace Go.Proofs.YtbpilielamjnoaaGreat
open Go.RowKit Go.Shelf
end Go.Proofs.YtbpilielamjnoaaGreat
