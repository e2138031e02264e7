/- Lemmas for CB, part 7: generators: the tree of a formula, and more. -/
import Derived.Deep.CutBlock
import Derived.Test.YtnpnjcaomakehaaGreatCB04
import Derived.Test.YtnpnjcaomakehaaGreatCB05
set_option linter.unusedSimpArgs false
set_option linter.unusedVariables false
namespace Go.Proofs.YtnpnjcaomakehaaGreat
open Go.RowKit Go.Shelf
def SzP (lf : Int) (s : Nat) : Prop := 1 ≤ s ∧ (s : Int) ≤ 1 + 3 * (max (lf - 3) 0 - max (lf - s - 3) 0)
theorem szP_1 (lf : Int) : SzP lf 1 := by unfold SzP; omega
def KsP (lf : Int) (m : Nat) (sm : Nat) : Prop := (sm : Int) ≤ m + 3 * (max (lf - 1 - 3) 0 - max (lf - 1 - sm - 3) 0)
theorem ksP_step {lf : Int} {m sm s : Nat} (h : KsP lf m sm) (h2 : SzP (lf - 1 - sm) s) : KsP lf (m + 1) (sm + s) := by unfold KsP SzP at *; omega
theorem szP_of {lf : Int} {m sm : Nat} (h : KsP lf m sm) (hm : m ≤ 3) (hl : 3 ≤ lf - 1) : SzP lf (1 + sm) := by unfold KsP SzP at *; omega
theorem ksP_bd {lf : Int} {m sm : Nat} (h : KsP lf m sm) (hm : m ≤ 3) (hl : lf ≤ 100) : (sm : Int) ≤ 300 := by unfold KsP at h; omega
theorem deep_leaf {f : Fm} (h : f.kids = []) : f.deep = 1 := by rw [Fm.deep_eq, h]; rfl
theorem size_leaf' {f : Fm} (h : f.kids = []) : f.size = 1 := by rw [Fm.size_eq, h]; rfl
theorem size_mk (o n : Int) (i : List Itv) (k : List Fm) : (Fm.mk o n i k).size = 1 + sumN Fm.size k := Fm.size_eq _
theorem deep_mk (o n : Int) (i : List Itv) (k : List Fm) : (Fm.mk o n i k).deep = 1 + maxN Fm.deep k := Fm.deep_eq _
def kidsG (T : Int → Int → Fm × Int) (lf a : Int) : Nat → List Fm × Int
  | 0 => ([], a)
  | m + 1 => ((kidsG T lf a m).1 ++ [(T (kidsG T lf a m).2 (lf - (sumN Fm.size (kidsG T lf a m).1 : Nat))).1], (T (kidsG T lf a m).2 (lf - (sumN Fm.size (kidsG T lf a m).1 : Nat))).2)
def treeF (l : List Int) (cl : Int) : Nat → Int → Int → Fm × Int
  | 0, a, _ => leafF l cl (a + 1)
  | d + 1, a, lf =>
    if lf - 1 < 3 ∨ (l.length : Int) < a + 1 ∨ pickV l a 14 < 3 then leafF l cl (a + 1)
    else if pickV l a 14 < 5 then (.mk 3 0 [] [(treeF l cl d (a + 1) (lf - 1)).1], (treeF l cl d (a + 1) (lf - 1)).2)
    else if pickV l a 14 < 7 then (.mk 6 0 [] [(treeF l cl d (a + 1) (lf - 1)).1], (treeF l cl d (a + 1) (lf - 1)).2)
    else (.mk (4 + pickV l a 14 % 2) 0 [] (kidsG (treeF l cl d) (lf - 1) (a + 1 + 1) ([2, 2, 2, 3, 1, 0].getD (pickV l (a + 1) 6).toNat 0)).1, (kidsG (treeF l cl d) (lf - 1) (a + 1 + 1) ([2, 2, 2, 3, 1, 0].getD (pickV l (a + 1) 6).toNat 0)).2)
theorem treeF_leaf {l : List Int} {cl : Int} {d : Nat} {a lf : Int} (h : d = 0 ∨ lf - 1 < 3 ∨ (l.length : Int) < a + 1 ∨ pickV l a 14 < 3) : treeF l cl d a lf = leafF l cl (a + 1) := by
  cases d with
  | zero => rfl
  | succ d => rw [treeF, if_pos (h.resolve_left (by omega))]
theorem treeF_3 {l : List Int} {cl : Int} {d : Nat} {a lf k a2 : Int} {f : Fm} (hk : k = pickV l a 14) (h1 : ¬ lf - 1 < 3) (h2 : ¬ (l.length : Int) < a + 1) (h3 : ¬ k < 3) (h4 : k < 5) (h : treeF l cl d (a + 1) (lf - 1) = (f, a2)) :
    treeF l cl (d + 1) a lf = (.mk 3 0 [] [f], a2) := by
  subst hk; rw [treeF, if_neg (by omega), if_pos h4, h]
theorem treeF_6 {l : List Int} {cl : Int} {d : Nat} {a lf k a2 : Int} {f : Fm} (hk : k = pickV l a 14) (h1 : ¬ lf - 1 < 3) (h2 : ¬ (l.length : Int) < a + 1) (h3 : ¬ k < 3) (h4 : ¬ k < 5) (h5 : k < 7) (h : treeF l cl d (a + 1) (lf - 1) = (f, a2)) :
    treeF l cl (d + 1) a lf = (.mk 6 0 [] [f], a2) := by
  subst hk; rw [treeF, if_neg (by omega), if_neg h4, if_pos h5, h]
theorem treeF_n {l : List Int} {cl : Int} {d nv j : Nat} {a lf k a2 : Int} {ks : List Fm} (hk : k = pickV l a 14) (h1 : ¬ lf - 1 < 3) (h2 : ¬ (l.length : Int) < a + 1) (h3 : ¬ k < 3) (h5 : ¬ k < 7) (hj : (j : Int) = pickV l (a + 1) 6) (hn : nv = [2, 2, 2, 3, 1, 0].getD j 0)
    (h : kidsG (treeF l cl d) (lf - 1) (a + 1 + 1) nv = (ks, a2)) : treeF l cl (d + 1) a lf = (.mk (4 + k % 2) 0 [] ks, a2) := by
  subst hk hn; rw [treeF, if_neg (by omega), if_neg (by omega), if_neg h5, ← hj, Int.toNat_natCast, h]
theorem kidsG_step {T : Int → Int → Fm × Int} {lf a at1 at2 : Int} {m : Nat} {ks : List Fm} {f : Fm} (h : kidsG T lf a m = (ks, at1)) (h2 : T at1 (lf - (sumN Fm.size ks : Nat)) = (f, at2)) : kidsG T lf a (m + 1) = (ks ++ [f], at2) := by
  rw [kidsG, h]; simp only []; rw [h2]
abbrev TreeQ (w : World) (g : Nat) (l : List Int) (vl : Value) (at' cl lf : Int) (d : Nat) : Ending → World → Prop := TreeP w g vl at' cl lf fun f a2 => (SzP lf f.size ∧ f.deep ≤ max 1 (d + 1)) ∧ Hid (treeF l cl d at' lf = (f, a2))
theorem sumN_app (ks : List Fm) (f : Fm) : sumN Fm.size (ks ++ [f]) = sumN Fm.size ks + f.size := by
  induction ks with
  | nil => simp [sumN]
  | cons x xs ih => simp only [List.cons_append, sumN, ih]; omega
theorem whole_ao {cl op : Int} {ks : List Fm} (h : 4 ≤ op ∧ op ≤ 5) (hk : ∀ x ∈ ks, wholeN cl x = true) : wholeN cl (.mk op 0 [] ks) = true := by
  have hf : formed1 (.mk op 0 [] ks) = true := by
    rcases (show op = 4 ∨ op = 5 by omega) with rfl | rfl <;> simp [formed1, Fm.op, Fm.n, Fm.inn, Fm.kids]
  rw [wholeN_eq, hf, Bool.true_and]
  have h1 : ¬ op = 1 := by omega
  simpa [Fm.kids, Fm.op, h1] using hk
set_option maxRecDepth 100000 in
set_option maxHeartbeats 8000000 in
theorem tree_c {Hl : PH} (l : List Int) (vl : Value) (g : Nat) (cl : Int) (hr : IntsR Hl vl l) (hg : Hl g = none) (hc0 : 0 < cl) (hc1 : cl ≤ 64) (d : Nat) : d ≤ 7 → ∀ (at' lf : Int) (w : World), PLe Hl (ph w) → Own w g (mkA vl at' cl lf) 115 → 0 ≤ at' → at' + 4 * lf ≤ 400000 → -1000 ≤ lf → lf ≤ 100 →
    Calls Tryz.prog 68 #[.pointer (some ⟨g, 0, none⟩), .int .i64 ((d : Int) + 1)] w (TreeQ w g l vl at' cl lf d) := by
  obtain ⟨xa, xc, rfl, hll, hr⟩ := hr.form
  induction d using Nat.strongRecOn with
  | ind d ih =>
    intro hd at' lf w hl ho h0 h1 h2 h3
    obtain ⟨kc, kf⟩ := ho.facts
    have k3 : _ = some (Value.int .i64 lf) := kc 3
    have f3 := kf 3
    have hgl := ho.lt
    have hG0 := ((MemG.start ho).set 3 (.int .i64 (lf - 1))).step (fun w0 _ m => m.new' zeroFa 50 (n := w.heap.size) (by simp))
    simp only [List.setIfInBounds_toArray, List.set_cons_succ, List.set_cons_zero, List.nil_append] at hG0
    have hgg : w.grownBy (w.setCell ⟨g, 3, none⟩ (.int .i64 (lf - 1))) (some g) := ⟨rfl, rfl, rfl, by simp, fun k hk hn => Below.heap_setCell _ _ _ _ (fun e => hn (by rw [e]))⟩
    have hl0 := (hl.grownG hgg hg).trans (Ext.ple (Ext.new _ (.cells zeroFa 50)))
    clear kc kf hgg
    go_enter Tryz.func68, Tryz.ntmps68
    go_wp2_with fail
    generalize (w.setCell _ _).alloc _ = W at *
    clear k3 f3 hgl
    refine (mnext_c l _ g at' cl (lf - 1) 14 W hl0 hr hg hG0.own h0 (by omega) (by omega) (by omega)).mono ?_
    rintro e w1 ⟨k, rfl, hkv, hk0, hk1, hgr, ho1⟩
    replace hkv := Lib.hid hkv
    have hG1 := hG0.call hgr ho1
    have hl1 := hl0.grownG hgr hg
    clear hG0 hl0 hgr
    obtain ⟨kc, -⟩ := ho1.facts
    have k0 : _ = some (Value.slice xa l.length xc) := kc 0
    have k1 : _ = some (Value.int .i64 (at' + 1)) := kc 1
    have k3 : _ = some (Value.int .i64 (lf - 1)) := kc 3
    have hgl := ho1.lt
    clear kc
    generalize up noH W w1 = H1 at hG1
    replace ih := Lib.hid ih
    by_cases d1 : d = 0
    · have hdj : Hid (treeF l cl d at' lf = leafF l cl (at' + 1)) := Lib.hid (treeF_leaf (Or.inl d1))
      subst d1
      skip
      go_wp2_with fail
      (refine wp_region_I 25 (by kernel_rfl) (by kernel_rfl) ?_; simp only [List.toList_toArray, List.take_succ_cons, List.take_zero, List.drop_succ_cons, List.drop_zero])
      (repeat (first | (refine walkI_no rfl (by simp) rfl rfl rfl ?_ ?_; (focus (simp [undef]; done)); (try simp only [List.nil_append, List.cons_append])) | (refine wiA rfl (by simp) rfl ?_; (try simp only [List.nil_append, List.cons_append])) | (refine wyA rfl (by simp) rfl rfl rfl ?_; (try simp only [List.nil_append, List.cons_append]))))
      (refine walkI_nil ?_; simp only [List.nil_append, List.cons_append, fins, Is, forall_eq, Act.put, List.setIfInBounds_toArray, List.set_cons_zero, List.set_cons_succ])
      intro w2 hx2
      have hG2 := hG1.step (fun w0 _ m => m.ext hx2)
      have ho2 := ho1.keep hx2
      go_wp2_with fail
      refine (leaf_c l _ g (at' + 1) cl (lf - 1) w2 (hl1.trans hx2.ple) hr hg ho2 (by omega) (by omega) hc0 hc1).mono ?_
      rintro e w3 ⟨f, a3, c3, at2, rfl, hF, hwf, hkd, hgr, ho3, g1, g2, g3⟩
      replace g3 := Lib.hid g3
      have hG3 := hG2.call hgr ho3
      have hF3 := mono_FmR _ _ _ _ (up_mono (noH_le H1)) hF
      have ob := hG3.box 0 rfl
      obtain ⟨uc, uf⟩ := ob.facts
      have ul := ob.lt
      have q0' : _ = some (Value.int .i64 0) := uc 0
      have q1' : _ = some (Value.int .i64 0) := uc 1
      have q2' : _ = some (Value.slice none 0 0) := uc 2
      have q3' : _ = some (Value.slice none 0 0) := uc 3
      have hG4 := hG3.set4 0 rfl (.int .i64 f.op) (.int .i64 f.n) (.slice a3 f.inn.length c3) (.slice none 0 0)
      simp only [List.set_cons_zero] at hG4
      have hkl : f.kids.length = 0 := by rw [hkd]; rfl
      have hsz := size_leaf' hkd
      have hdp := deep_leaf hkd
      clear uc hG1 hG2 hG3
      go_wp2_with fail
      generalize ((((w3.setCell _ _).setCell _ _).setCell _ _).setCell _ _) = w9 at *
      obtain ⟨q, -⟩ := (hG4.box 0 rfl).facts
      have q0 : _ = some (Value.int .i64 f.op) := q 0
      have q1 : _ = some (Value.int .i64 f.n) := q 1
      have q2 : _ = some (Value.slice a3 f.inn.length c3) := q 2
      have q3 : _ = some (Value.slice none 0 0) := q 3
      refine bodyPost_ret (v := .agg #[.int .i64 f.op, .int .i64 f.n, .slice a3 f.inn.length c3, .slice none 0 0]) (by simp [results, Tryz.results68, go_sem, q0, q1, q2, q3]) rfl ?_
      exact ⟨f, a3, c3, none, 0, at2, by rw [fmV, hkl], mono_FmR _ _ _ _ hG4.ub (by have h := hF3; unfold fmC at h ⊢; rw [hkl] at h ⊢; exact h), hwf, ⟨⟨by rw [hsz]; exact szP_1 _, by omega⟩, Lib.hid (by rw [hdj.out]; exact g3.out)⟩, hG4.grown, by rw [hsz]; exact hG4.own, by omega, by omega⟩
    have b1 : decide ((d : Int) + 1 ≤ 1) = false := by simp; omega
    by_cases c2 : lf - 1 < 3
    · have hdj : Hid (treeF l cl d at' lf = leafF l cl (at' + 1)) := Lib.hid (treeF_leaf (Or.inr (Or.inl c2)))
      have b2 : decide (lf - 1 < 3) = true := by simpa using c2
      skip
      go_wp2_with fail
      (refine wp_region_I 25 (by kernel_rfl) (by kernel_rfl) ?_; simp only [List.toList_toArray, List.take_succ_cons, List.take_zero, List.drop_succ_cons, List.drop_zero])
      (repeat (first | (refine walkI_no rfl (by simp) rfl rfl rfl ?_ ?_; (focus (simp [undef]; done)); (try simp only [List.nil_append, List.cons_append])) | (refine wiA rfl (by simp) rfl ?_; (try simp only [List.nil_append, List.cons_append])) | (refine wyA rfl (by simp) rfl rfl rfl ?_; (try simp only [List.nil_append, List.cons_append]))))
      (refine walkI_nil ?_; simp only [List.nil_append, List.cons_append, fins, Is, forall_eq, Act.put, List.setIfInBounds_toArray, List.set_cons_zero, List.set_cons_succ])
      intro w2 hx2
      have hG2 := hG1.step (fun w0 _ m => m.ext hx2)
      have ho2 := ho1.keep hx2
      go_wp2_with fail
      refine (leaf_c l _ g (at' + 1) cl (lf - 1) w2 (hl1.trans hx2.ple) hr hg ho2 (by omega) (by omega) hc0 hc1).mono ?_
      rintro e w3 ⟨f, a3, c3, at2, rfl, hF, hwf, hkd, hgr, ho3, g1, g2, g3⟩
      replace g3 := Lib.hid g3
      have hG3 := hG2.call hgr ho3
      have hF3 := mono_FmR _ _ _ _ (up_mono (noH_le H1)) hF
      have ob := hG3.box 0 rfl
      obtain ⟨uc, uf⟩ := ob.facts
      have ul := ob.lt
      have q0' : _ = some (Value.int .i64 0) := uc 0
      have q1' : _ = some (Value.int .i64 0) := uc 1
      have q2' : _ = some (Value.slice none 0 0) := uc 2
      have q3' : _ = some (Value.slice none 0 0) := uc 3
      have hG4 := hG3.set4 0 rfl (.int .i64 f.op) (.int .i64 f.n) (.slice a3 f.inn.length c3) (.slice none 0 0)
      simp only [List.set_cons_zero] at hG4
      have hkl : f.kids.length = 0 := by rw [hkd]; rfl
      have hsz := size_leaf' hkd
      have hdp := deep_leaf hkd
      clear uc hG1 hG2 hG3
      go_wp2_with fail
      generalize ((((w3.setCell _ _).setCell _ _).setCell _ _).setCell _ _) = w9 at *
      obtain ⟨q, -⟩ := (hG4.box 0 rfl).facts
      have q0 : _ = some (Value.int .i64 f.op) := q 0
      have q1 : _ = some (Value.int .i64 f.n) := q 1
      have q2 : _ = some (Value.slice a3 f.inn.length c3) := q 2
      have q3 : _ = some (Value.slice none 0 0) := q 3
      refine bodyPost_ret (v := .agg #[.int .i64 f.op, .int .i64 f.n, .slice a3 f.inn.length c3, .slice none 0 0]) (by simp [results, Tryz.results68, go_sem, q0, q1, q2, q3]) rfl ?_
      exact ⟨f, a3, c3, none, 0, at2, by rw [fmV, hkl], mono_FmR _ _ _ _ hG4.ub (by have h := hF3; unfold fmC at h ⊢; rw [hkl] at h ⊢; exact h), hwf, ⟨⟨by rw [hsz]; exact szP_1 _, by omega⟩, Lib.hid (by rw [hdj.out]; exact g3.out)⟩, hG4.grown, by rw [hsz]; exact hG4.own, by omega, by omega⟩
    have b2 : decide (lf - 1 < 3) = false := by simpa using c2
    by_cases c3 : (l.length : Int) < at' + 1
    · have hdj : Hid (treeF l cl d at' lf = leafF l cl (at' + 1)) := Lib.hid (treeF_leaf (Or.inr (Or.inr (Or.inl c3))))
      have b3 : decide ((l.length : Int) < at' + 1) = true := by simpa using c3
      skip
      go_wp2_with fail
      (refine wp_region_I 25 (by kernel_rfl) (by kernel_rfl) ?_; simp only [List.toList_toArray, List.take_succ_cons, List.take_zero, List.drop_succ_cons, List.drop_zero])
      (repeat (first | (refine walkI_no rfl (by simp) rfl rfl rfl ?_ ?_; (focus (simp [undef]; done)); (try simp only [List.nil_append, List.cons_append])) | (refine wiA rfl (by simp) rfl ?_; (try simp only [List.nil_append, List.cons_append])) | (refine wyA rfl (by simp) rfl rfl rfl ?_; (try simp only [List.nil_append, List.cons_append]))))
      (refine walkI_nil ?_; simp only [List.nil_append, List.cons_append, fins, Is, forall_eq, Act.put, List.setIfInBounds_toArray, List.set_cons_zero, List.set_cons_succ])
      intro w2 hx2
      have hG2 := hG1.step (fun w0 _ m => m.ext hx2)
      have ho2 := ho1.keep hx2
      go_wp2_with fail
      refine (leaf_c l _ g (at' + 1) cl (lf - 1) w2 (hl1.trans hx2.ple) hr hg ho2 (by omega) (by omega) hc0 hc1).mono ?_
      rintro e w3 ⟨f, a3, c3, at2, rfl, hF, hwf, hkd, hgr, ho3, g1, g2, g3⟩
      replace g3 := Lib.hid g3
      have hG3 := hG2.call hgr ho3
      have hF3 := mono_FmR _ _ _ _ (up_mono (noH_le H1)) hF
      have ob := hG3.box 0 rfl
      obtain ⟨uc, uf⟩ := ob.facts
      have ul := ob.lt
      have q0' : _ = some (Value.int .i64 0) := uc 0
      have q1' : _ = some (Value.int .i64 0) := uc 1
      have q2' : _ = some (Value.slice none 0 0) := uc 2
      have q3' : _ = some (Value.slice none 0 0) := uc 3
      have hG4 := hG3.set4 0 rfl (.int .i64 f.op) (.int .i64 f.n) (.slice a3 f.inn.length c3) (.slice none 0 0)
      simp only [List.set_cons_zero] at hG4
      have hkl : f.kids.length = 0 := by rw [hkd]; rfl
      have hsz := size_leaf' hkd
      have hdp := deep_leaf hkd
      clear uc hG1 hG2 hG3
      go_wp2_with fail
      generalize ((((w3.setCell _ _).setCell _ _).setCell _ _).setCell _ _) = w9 at *
      obtain ⟨q, -⟩ := (hG4.box 0 rfl).facts
      have q0 : _ = some (Value.int .i64 f.op) := q 0
      have q1 : _ = some (Value.int .i64 f.n) := q 1
      have q2 : _ = some (Value.slice a3 f.inn.length c3) := q 2
      have q3 : _ = some (Value.slice none 0 0) := q 3
      refine bodyPost_ret (v := .agg #[.int .i64 f.op, .int .i64 f.n, .slice a3 f.inn.length c3, .slice none 0 0]) (by simp [results, Tryz.results68, go_sem, q0, q1, q2, q3]) rfl ?_
      exact ⟨f, a3, c3, none, 0, at2, by rw [fmV, hkl], mono_FmR _ _ _ _ hG4.ub (by have h := hF3; unfold fmC at h ⊢; rw [hkl] at h ⊢; exact h), hwf, ⟨⟨by rw [hsz]; exact szP_1 _, by omega⟩, Lib.hid (by rw [hdj.out]; exact g3.out)⟩, hG4.grown, by rw [hsz]; exact hG4.own, by omega, by omega⟩
    have b3 : decide ((l.length : Int) < at' + 1) = false := by simpa using c3
    by_cases c4 : k < 3
    · have hdj : Hid (treeF l cl d at' lf = leafF l cl (at' + 1)) := Lib.hid (treeF_leaf (Or.inr (Or.inr (Or.inr (by rw [← hkv.out]; exact c4)))))
      have b4 : decide (k < 3) = true := by simpa using c4
      skip
      go_wp2_with fail
      (refine wp_region_I 25 (by kernel_rfl) (by kernel_rfl) ?_; simp only [List.toList_toArray, List.take_succ_cons, List.take_zero, List.drop_succ_cons, List.drop_zero])
      (repeat (first | (refine walkI_no rfl (by simp) rfl rfl rfl ?_ ?_; (focus (simp [undef]; done)); (try simp only [List.nil_append, List.cons_append])) | (refine wiA rfl (by simp) rfl ?_; (try simp only [List.nil_append, List.cons_append])) | (refine wyA rfl (by simp) rfl rfl rfl ?_; (try simp only [List.nil_append, List.cons_append]))))
      (refine walkI_nil ?_; simp only [List.nil_append, List.cons_append, fins, Is, forall_eq, Act.put, List.setIfInBounds_toArray, List.set_cons_zero, List.set_cons_succ])
      intro w2 hx2
      have hG2 := hG1.step (fun w0 _ m => m.ext hx2)
      have ho2 := ho1.keep hx2
      go_wp2_with fail
      refine (leaf_c l _ g (at' + 1) cl (lf - 1) w2 (hl1.trans hx2.ple) hr hg ho2 (by omega) (by omega) hc0 hc1).mono ?_
      rintro e w3 ⟨f, a3, c3, at2, rfl, hF, hwf, hkd, hgr, ho3, g1, g2, g3⟩
      replace g3 := Lib.hid g3
      have hG3 := hG2.call hgr ho3
      have hF3 := mono_FmR _ _ _ _ (up_mono (noH_le H1)) hF
      have ob := hG3.box 0 rfl
      obtain ⟨uc, uf⟩ := ob.facts
      have ul := ob.lt
      have q0' : _ = some (Value.int .i64 0) := uc 0
      have q1' : _ = some (Value.int .i64 0) := uc 1
      have q2' : _ = some (Value.slice none 0 0) := uc 2
      have q3' : _ = some (Value.slice none 0 0) := uc 3
      have hG4 := hG3.set4 0 rfl (.int .i64 f.op) (.int .i64 f.n) (.slice a3 f.inn.length c3) (.slice none 0 0)
      simp only [List.set_cons_zero] at hG4
      have hkl : f.kids.length = 0 := by rw [hkd]; rfl
      have hsz := size_leaf' hkd
      have hdp := deep_leaf hkd
      clear uc hG1 hG2 hG3
      go_wp2_with fail
      generalize ((((w3.setCell _ _).setCell _ _).setCell _ _).setCell _ _) = w9 at *
      obtain ⟨q, -⟩ := (hG4.box 0 rfl).facts
      have q0 : _ = some (Value.int .i64 f.op) := q 0
      have q1 : _ = some (Value.int .i64 f.n) := q 1
      have q2 : _ = some (Value.slice a3 f.inn.length c3) := q 2
      have q3 : _ = some (Value.slice none 0 0) := q 3
      refine bodyPost_ret (v := .agg #[.int .i64 f.op, .int .i64 f.n, .slice a3 f.inn.length c3, .slice none 0 0]) (by simp [results, Tryz.results68, go_sem, q0, q1, q2, q3]) rfl ?_
      exact ⟨f, a3, c3, none, 0, at2, by rw [fmV, hkl], mono_FmR _ _ _ _ hG4.ub (by have h := hF3; unfold fmC at h ⊢; rw [hkl] at h ⊢; exact h), hwf, ⟨⟨by rw [hsz]; exact szP_1 _, by omega⟩, Lib.hid (by rw [hdj.out]; exact g3.out)⟩, hG4.grown, by rw [hsz]; exact hG4.own, by omega, by omega⟩
    have b4 : decide (k < 3) = false := by simpa using c4
    go_wp2_with fail
    (refine wp_region_I 25 (by kernel_rfl) (by kernel_rfl) ?_; simp only [List.toList_toArray, List.take_succ_cons, List.take_zero, List.drop_succ_cons, List.drop_zero])
    (repeat (first | (refine walkI_no rfl (by simp) rfl rfl rfl ?_ ?_; (focus (simp [undef]; done)); (try simp only [List.nil_append, List.cons_append])) | (refine wiA rfl (by simp) rfl ?_; (try simp only [List.nil_append, List.cons_append])) | (refine wyA rfl (by simp) rfl rfl rfl ?_; (try simp only [List.nil_append, List.cons_append]))))
    (refine walkI_nil ?_; simp only [List.nil_append, List.cons_append, fins, Is, forall_eq, Act.put, List.setIfInBounds_toArray, List.set_cons_zero, List.set_cons_succ])
    intro w2 hx2
    have hG2 := hG1.step (fun w0 _ m => m.ext hx2)
    have ho2 := ho1.keep hx2
    have hl2 := hl1.trans hx2.ple
    clear hG1 ho1 hl1 k0 k1 k3 hgl b1 b2 b3 b4 hx2
    obtain ⟨e, rfl⟩ : ∃ e, d = e + 1 := ⟨d - 1, by omega⟩
    by_cases k5 : k < 5
    · have b5 : decide (k < 5) = true := by simpa using k5
      go_wp2_with fail
      refine (ih.out e (by omega) (by omega) (at' + 1) (lf - 1) w2 hl2 ho2 (by omega) (by omega) (by omega) (by omega)).mono ?_
      rintro e' w3 ⟨f, a3, c3, a4, c4, at2, rfl, hF, hwf, ⟨⟨hs, hdp⟩, htr⟩, hgr, ho3, g1, g2⟩
      have hG3 := hG2.call hgr ho3
      have hF3 := mono_FmR _ _ _ _ (up_mono (noH_le H1)) hF
      generalize up H1 w2 w3 = H3 at *
      have ob := hG3.box 0 rfl
      obtain ⟨uc, uf⟩ := ob.facts
      have ul := ob.lt
      have q0' : _ = some (Value.int .i64 0) := uc 0
      have q1' : _ = some (Value.int .i64 0) := uc 1
      have q2' : _ = some (Value.slice none 0 0) := uc 2
      have q3' : _ = some (Value.slice none 0 0) := uc 3
      clear uc
      have hG4 := (hG3.set4 0 rfl (.int .i64 3) (.int .i64 0) (.slice none 0 0) (.slice (some ⟨w3.heap.size, 0, none⟩) 1 1)).step (fun w0 _ m => m.new' #[.int .i64 f.op, .int .i64 f.n, .slice a3 f.inn.length c3, .slice a4 f.kids.length c4] 50 (n := w3.heap.size) (by simp))
      simp only [List.set_cons_zero, List.cons_append, List.nil_append] at hG4
      have hG5 := hG4.step (fun w0 _ m => m.asOwn 1 rfl mono_FmR (sz := 4) (xs := [f]) (n := 1) (by simp) (by simp [maxLen]) rfl ⟨_, [], rfl, rfl, hF3, rfl⟩)
      simp only [List.set_cons_zero, List.set_cons_succ] at hG5
      obtain ⟨H6, hl6, hG6, hR6⟩ := hG5.freezeS 1 rfl
      simp only [List.set_cons_zero, List.set_cons_succ] at hG6
      clear hG3 hG4 hG5
      go_wp2_with fail
      generalize World.alloc _ _ = w9 at *
      obtain ⟨q, -⟩ := (hG6.box 0 rfl).facts
      have q0 : _ = some (Value.int .i64 3) := q 0
      have q1 : _ = some (Value.int .i64 0) := q 1
      have q2 : _ = some (Value.slice none 0 0) := q 2
      have q3 : _ = some (Value.slice (some ⟨w3.heap.size, 0, none⟩) 1 1) := q 3
      refine bodyPost_ret (v := .agg #[.int .i64 3, .int .i64 0, .slice none 0 0, .slice (some ⟨w3.heap.size, 0, none⟩) 1 1]) (by simp [results, Tryz.results68, go_sem, q0, q1, q2, q3]) rfl ?_
      refine ⟨.mk 3 0 [] [f], none, 0, some ⟨w3.heap.size, 0, none⟩, 1, at2, rfl, mono_FmR _ _ _ _ hG6.ub (FmR.of (by simp [Fm.op, I64]) (by simp [Fm.n, I64]) (SliceRep.nil _ _ _) hR6), by rw [wholeN_eq]; simp [Fm.kids, Fm.op, hwf, formed1_mk], ⟨⟨?_, ?_⟩, Lib.hid (treeF_3 hkv.out (by omega) (by omega) (by omega) (by omega) htr.out)⟩, hG6.grown, ?_, by omega, ?_⟩
      · rw [size_mk]; simp only [sumN]; unfold SzP at *; omega
      · rw [deep_mk]; simp only [maxN]; omega
      · rw [size_mk]; simp only [sumN]; have h := hG6.own; rwa [show lf - ((1 + (f.size + 0) : Nat) : Int) = lf - 1 - f.size by omega]
      · rw [size_mk]; simp only [sumN]; omega
    have b5 : decide (k < 5) = false := by simpa using k5
    by_cases k7 : k < 7
    · have b7 : decide (k < 7) = true := by simpa using k7
      go_wp2_with fail
      refine (ih.out e (by omega) (by omega) (at' + 1) (lf - 1) w2 hl2 ho2 (by omega) (by omega) (by omega) (by omega)).mono ?_
      rintro e' w3 ⟨f, a3, c3, a4, c4, at2, rfl, hF, hwf, ⟨⟨hs, hdp⟩, htr⟩, hgr, ho3, g1, g2⟩
      have hG3 := hG2.call hgr ho3
      have hF3 := mono_FmR _ _ _ _ (up_mono (noH_le H1)) hF
      generalize up H1 w2 w3 = H3 at *
      go_wp2_with fail
      refine (not7_c f a3 c3 a4 c4 w3 hG3.ple hF3).mono ?_
      rintro e' w4 ⟨bb, rfl, hx4, hF4⟩
      replace hG3 := hG3.step (fun w0 _ m => m.up hx4)
      have ob := hG3.box 0 rfl
      obtain ⟨uc, uf⟩ := ob.facts
      have ul := ob.lt
      have q0' : _ = some (Value.int .i64 0) := uc 0
      have q1' : _ = some (Value.int .i64 0) := uc 1
      have q2' : _ = some (Value.slice none 0 0) := uc 2
      have q3' : _ = some (Value.slice none 0 0) := uc 3
      clear uc
      have hG6 := hG3.set4 0 rfl (.int .i64 6) (.int .i64 0) (.slice none 0 0) (.slice (some ⟨bb, 0, none⟩) 1 1)
      simp only [List.set_cons_zero] at hG6
      clear hG3
      go_wp2_with fail
      generalize World.setCell _ _ _ = w9 at *
      obtain ⟨q, -⟩ := (hG6.box 0 rfl).facts
      have q0 : _ = some (Value.int .i64 6) := q 0
      have q1 : _ = some (Value.int .i64 0) := q 1
      have q2 : _ = some (Value.slice none 0 0) := q 2
      have q3 : _ = some (Value.slice (some ⟨bb, 0, none⟩) 1 1) := q 3
      refine bodyPost_ret (v := .agg #[.int .i64 6, .int .i64 0, .slice none 0 0, .slice (some ⟨bb, 0, none⟩) 1 1]) (by simp [results, Tryz.results68, go_sem, q0, q1, q2, q3]) rfl ?_
      refine ⟨.mk 6 0 [] [f], none, 0, some ⟨bb, 0, none⟩, 1, at2, rfl, mono_FmR _ _ _ _ hG6.ub hF4, by rw [wholeN_eq]; simp [Fm.kids, Fm.op, hwf, formed1_mk], ⟨⟨?_, ?_⟩, Lib.hid (treeF_6 hkv.out (by omega) (by omega) (by omega) (by omega) (by omega) htr.out)⟩, hG6.grown, ?_, by omega, ?_⟩
      · rw [size_mk]; simp only [sumN]; unfold SzP at *; omega
      · rw [deep_mk]; simp only [maxN]; omega
      · rw [size_mk]; simp only [sumN]; have h := hG6.own; rwa [show lf - ((1 + (f.size + 0) : Nat) : Int) = lf - 1 - f.size by omega]
      · rw [size_mk]; simp only [sumN]; omega
    have b7 : decide (k < 7) = false := by simpa using k7
    have hop : 4 ≤ 4 + k % 2 ∧ 4 + k % 2 ≤ 5 := by omega
    have hG3 := ((hG2.step (fun w0 _ m => (m.new #[.int .i64 (4 + k % 2), .int .i64 0, .slice none 0 0, .slice none 0 0] 50))).step (fun w0 _ m => m.nil mono_FmR 4 50)).step (fun w0 _ m => m.ext (Ext.new _ (.cells #[.int .i64 2, .int .i64 2, .int .i64 2, .int .i64 3, .int .i64 1, .int .i64 0] 3)))
    simp only [List.cons_append, List.nil_append] at hG3
    have hli : Own ((w2.alloc (.cells #[.int .i64 (4 + k % 2), .int .i64 0, .slice none 0 0, .slice none 0 0] 50)).alloc (.cells #[.int .i64 2, .int .i64 2, .int .i64 2, .int .i64 3, .int .i64 1, .int .i64 0] 3)) (w2.heap.size + 1) #[.int .i64 2, .int .i64 2, .int .i64 2, .int .i64 3, .int .i64 1, .int .i64 0] 3 := oE
    have hl3 := hl2.trans (Ext.ple (show Ext w2 ((w2.alloc (.cells #[.int .i64 (4 + k % 2), .int .i64 0, .slice none 0 0, .slice none 0 0] 50)).alloc (.cells #[.int .i64 2, .int .i64 2, .int .i64 2, .int .i64 3, .int .i64 1, .int .i64 0] 3)) from xE))
    have hgw := hG2.lt
    have hgw2 := hG2.size
    clear hG2 ho2 hl2
    go_wp2_with fail
    generalize hB : w2.heap.size = B at *
    generalize World.alloc _ _ = W3 at *
    refine (mnext_c l _ g (at' + 1) cl (lf - 1) 6 W3 hl3 hr hg hG3.own (by omega) (by omega) (by omega) (by omega)).mono ?_
    rintro e' w5 ⟨qq, rfl, hqv, hq0, hq1, hgr, ho5⟩
    replace hqv := Lib.hid hqv
    have hG5 := hG3.call hgr ho5
    have hl5 := hl3.grownG hgr hg
    replace hli := hli.grown hgr (by intro hh; cases hh; omega)
    clear hG3 hl3 hgr ho5
    obtain ⟨j, rfl⟩ : ∃ j : Nat, qq = j := ⟨qq.toNat, by omega⟩
    obtain ⟨nv, hnv, hnj, hcn⟩ : ∃ nv : Nat, nv ≤ 3 ∧ Hid (nv = [2, 2, 2, 3, 1, 0].getD j 0) ∧ w5.cell? ⟨B + 1, j, none⟩ = some (.int .i64 nv) := by
      rw [hli.facts.1 j]
      match j, hq1 with
      | 0, _ => exact ⟨2, by omega, Lib.hid rfl, rfl⟩
      | 1, _ => exact ⟨2, by omega, Lib.hid rfl, rfl⟩
      | 2, _ => exact ⟨2, by omega, Lib.hid rfl, rfl⟩
      | 3, _ => exact ⟨3, by omega, Lib.hid rfl, rfl⟩
      | 4, _ => exact ⟨1, by omega, Lib.hid rfl, rfl⟩
      | 5, _ => exact ⟨0, by omega, Lib.hid rfl, rfl⟩
    have hcl := cell_lt hcn
    have hj6 : j < 6 := by omega
    clear hli hq0 hq1
    go_wp2_with fail
    go_loopw [8] (fun i wr => ∃ (m : Nat) (kv : Value) (H : PH) (ks : List Fm) (atm : Int), m ≤ nv ∧ i = .int .i64 m ∧ ks.length = m ∧ MemG w g (mkA (.slice xa l.length xc) atm cl (lf - 1 - (sumN Fm.size ks : Nat))) 115 [box w.heap.size zeroFa 50, box B #[.int .i64 (4 + k % 2), .int .i64 0, .slice none 0 0, kv] 50, own mono_FmR 4 50 kv ks] H wr ∧
      KsP lf m (sumN Fm.size ks) ∧ (∀ f ∈ ks, wholeN cl f = true ∧ f.deep ≤ max 1 (e + 1)) ∧ at' + 1 + 1 ≤ atm ∧ atm ≤ at' + 1 + 1 + 4 * (sumN Fm.size ks : Nat) ∧ PLe Hl (ph wr) ∧ Hid (kidsG (treeF l cl e) (lf - 1) (at' + 1 + 1) m = (ks, atm))) (fun i _ => nv - (intOf i).toNat)
    case atStart => exact ⟨0, _, _, [], at' + 1 + 1, Nat.zero_le _, rfl, rfl, by simpa [sumN] using hG5, by unfold KsP; simp [sumN], by simp, by omega, by simp [sumN], hl5, Lib.hid rfl⟩
    case round =>
      obtain ⟨m, kv, H, ks, atm, hm, rfl, hkl, hGm, hKs, hall, ha0, ha1, hlm, hkg⟩ := hrel
      replace hkl := Lib.hid hkl
      obtain ⟨ka, kk, rfl, -⟩ := hGm.form 2 rfl
      have hb := ksP_bd hKs (by omega) h3
      by_cases hlt : m < nv
      · obtain ⟨kc, kf⟩ := (hGm.box 1 rfl).facts
        have k3 : _ = some (Value.slice ka ks.length kk) := kc 3
        have f3 := kf 3
        have hgl := (hGm.box 1 rfl).lt
        clear kc kf hG5 hcn
        go_wp2_with fail
        refine wp_region_any (by kernel_rfl) ?_
        change wpAny _ _ _ _ _ _ _ (World.drew _)
        replace hGm := hGm.step (fun w0 _ m => m.ext (Ext.rfl' wr).drew')
        replace hlm : PLe Hl (ph wr.drew) := hlm
        have hwe : IntKind.i64.wrap ((e : Int) + 1) = (e : Int) + 1 := by rw [IntKind.wrap_i64]; omega
        (refine wpAny_take (i := 0) (v := ?_) rfl (by kernel_rfl) (by kernel_rfl) (by kernel_rfl) (fun _ _ _ h => h) (Or.inl ⟨by rfl, ?_⟩) ?_; rotate_left; (focus ((intro w; go_simp); try (with_reducible rfl))); (try simp only [Act.put, List.setIfInBounds_toArray, List.set_cons_zero, List.set_cons_succ]))
        (refine wpAny_take (i := 2) (v := ?_) rfl (by kernel_rfl) (by kernel_rfl) (by kernel_rfl) (fun _ _ _ h => h) (Or.inl ⟨by rfl, ?_⟩) ?_; rotate_left; (focus ((intro w; go_simp); try (with_reducible rfl))); (try simp only [Act.put, List.setIfInBounds_toArray, List.set_cons_zero, List.set_cons_succ]))
        (refine wpAny_take (i := 3) (v := ?_) rfl (by kernel_rfl) (by kernel_rfl) (by kernel_rfl) (fun _ _ _ h => h) (Or.inl ⟨by rfl, ?_⟩) ?_; rotate_left; (focus ((intro w; go_simp); try (with_reducible rfl))); (try simp only [Act.put, List.setIfInBounds_toArray, List.set_cons_zero, List.set_cons_succ]))
        (refine wpAny_take (i := 4) (v := ?_) rfl (by kernel_rfl) (by kernel_rfl) (by kernel_rfl) (fun _ _ _ h => h) (Or.inl ⟨by rfl, ?_⟩) ?_; rotate_left; (focus ((intro w; go_simp); try (with_reducible rfl))); (try simp only [Act.put, List.setIfInBounds_toArray, List.set_cons_zero, List.set_cons_succ]))
        refine wpAny_ready (rs := [1, 5]) (by kernel_rfl) (by simp) ?_
        refine AllReady.cons rfl (fun K hK => ?_) (AllReady.cons rfl (fun K hK => ?_) AllReady.nil)
        · go_simp
          refine hK _ _ ?_
          clear hK K
          refine wpAny_ready (rs := [5]) (by kernel_rfl) (by simp) ?_; refine AllReady.cons rfl (fun K hK => ?_) AllReady.nil
          go_simp
          refine (ih.out e (by omega) (by omega) atm (lf - 1 - (sumN Fm.size ks : Nat)) _ hlm hGm.own (by omega) (by omega) (by omega) (by omega)).mono ?_
          rintro e' w4 ⟨f, a3, c3, a4, c4, at2, rfl, hF, hwf, ⟨⟨hs, hdp⟩, htr⟩, hgr, ho4, g1, g2⟩
          refine hK _ _ ?_
          clear hK K
          replace hlm := hlm.grownG hgr hg
          replace hGm := hGm.call hgr ho4
          have hF4 := mono_FmR _ _ _ _ (up_mono (noH_le H)) hF
          generalize up H _ w4 = H4 at hGm hF4
          obtain ⟨kc, kf⟩ := (hGm.box 1 rfl).facts
          have k3 : _ = some (Value.slice ka ks.length kk) := kc 3
          have f3 := kf 3
          have hgl := (hGm.box 1 rfl).lt
          clear kc kf hgr ho4 hF
          (refine wpAny_ready (rs := [6]) (by kernel_rfl) (by simp) ?_; refine AllReady.cons rfl (fun K hK => ?_) AllReady.nil; go_simp; refine hK _ _ ?_; clear hK K)
          have hGa := hGm.step (fun w0 _ m => m.ext (Ext.new w4 (.cells #[.int .i64 f.op, .int .i64 f.n, .slice a3 f.inn.length c3, .slice a4 f.kids.length c4] 50)))
          have hS := Src.lit1 (E := FmR) (H := H4) (w := w4.alloc (.cells #[.int .i64 f.op, .int .i64 f.n, .slice a3 f.inn.length c3, .slice a4 f.kids.length c4] 50)) (b := w4.heap.size) (sz := 4) hF4 rfl (fun j => by rw [(Own.new w4 #[.int .i64 f.op, .int .i64 f.n, .slice a3 f.inn.length c3, .slice a4 f.kids.length c4] 50).facts.1 j]; simp [fmC])
          obtain ⟨w0, z1, z2, z3, z4, z5⟩ := hGa
          refine wpAny_ready (rs := [7]) (by kernel_rfl) (by simp) ?_; refine AllReady.cons rfl (fun K hK => ?_) AllReady.nil
          refine oper_append_M (hm := mono_FmR) (v := .slice ka ks.length kk) (xs := ks) (ys := [f]) 2 _ _ 45 rfl Tryz.underlying45 infoFm rfl rfl rfl z4 rfl hS one_FmR (by have := hkl.out; simp; omega) (by have := hkl.out; simp; omega) ?_
          intro v' w6 hM6 hgr6
          refine hK _ _ ?_
          clear hK K
          have hG6 := MemG.re z1 z2 z3 z4 z5 hM6
          try simp only [List.set_cons_succ, List.set_cons_zero] at hG6 hM6
          obtain ⟨na, nc, rfl, -⟩ := hM6.form 2 rfl
          clear z1 z3 z4 z5 hM6 hS hGm
          obtain ⟨uc, uf⟩ := (hG6.box 1 rfl).facts
          have uf3 := uf 3
          have uc3 : _ = some (Value.slice ka ks.length kk) := uc 3
          have ul := (hG6.box 1 rfl).lt
          have hG7 := hG6.step (fun w0 _ m => m.set 1 rfl 3 (.slice na (ks ++ [f]).length nc))
          simp only [List.set_cons_succ, List.set_cons_zero, List.setIfInBounds_toArray] at hG7
          have hl7 := hl.grownG hG7.grown hg
          rw [show (ks ++ [f]).length = ks.length + 1 by simp] at hG7 hl7
          clear uc uf hG6
          (refine wpAny_take (i := 8) (v := ?_) rfl (by kernel_rfl) (by kernel_rfl) (by kernel_rfl) (fun _ _ _ h => h) (Or.inl ⟨by rfl, ?_⟩) ?_; rotate_left; (focus ((intro w; go_simp); try (with_reducible rfl))); (try simp only [Act.put, List.setIfInBounds_toArray, List.set_cons_zero, List.set_cons_succ]))
          (refine wpAny_ready (rs := [9]) (by kernel_rfl) (by simp) ?_; refine AllReady.cons rfl (fun K hK => ?_) AllReady.nil; go_simp; refine hK _ _ ?_; clear hK K)
          refine wpAny_done (by kernel_rfl) ?_ _
          try simp only [List.getElem_toArray, List.getElem_cons_succ, List.getElem_cons_zero, Act.put, List.setIfInBounds_toArray, List.set_cons_zero, List.set_cons_succ]
          go_wp2_with fail
          go_roundw
          case rel =>
            have hsum : sumN Fm.size (ks ++ [f]) = sumN Fm.size ks + f.size := sumN_app ks f
            refine ⟨m + 1, .slice na (ks.length + 1) nc, H4, ks ++ [f], at2, by omega, by go_num, by simp [hkl.out], ?_, ?_, ?_, by omega, by omega, hl7, Lib.hid (kidsG_step hkg.out htr.out)⟩
            · rw [hsum]
              rwa [show lf - 1 - ((sumN Fm.size ks + f.size : Nat) : Int) = lf - 1 - (sumN Fm.size ks : Nat) - f.size by omega]
            · rw [hsum]; exact ksP_step hKs hs
            · intro x hx
              rcases List.mem_append.1 hx with hx | hx
              · exact hall x hx
              · rw [List.mem_singleton.1 hx]; exact ⟨hwf, hdp⟩
          case measure => simp [intOf]; omega
        · skip
          go_simp
          refine (ih.out e (by omega) (by omega) atm (lf - 1 - (sumN Fm.size ks : Nat)) _ hlm hGm.own (by omega) (by omega) (by omega) (by omega)).mono ?_
          rintro e' w4 ⟨f, a3, c3, a4, c4, at2, rfl, hF, hwf, ⟨⟨hs, hdp⟩, htr⟩, hgr, ho4, g1, g2⟩
          refine hK _ _ ?_
          clear hK K
          replace hlm := hlm.grownG hgr hg
          replace hGm := hGm.call hgr ho4
          have hF4 := mono_FmR _ _ _ _ (up_mono (noH_le H)) hF
          generalize up H _ w4 = H4 at hGm hF4
          obtain ⟨kc, kf⟩ := (hGm.box 1 rfl).facts
          have k3 : _ = some (Value.slice ka ks.length kk) := kc 3
          have f3 := kf 3
          have hgl := (hGm.box 1 rfl).lt
          clear kc kf hgr ho4 hF
          refine wpAny_ready (rs := [1, 6]) (by kernel_rfl) (by simp) ?_
          refine AllReady.cons rfl (fun K hK => ?_) (AllReady.cons rfl (fun K hK => ?_) AllReady.nil)
          · go_simp
            refine hK _ _ ?_
            clear hK K
            (refine wpAny_ready (rs := [6]) (by kernel_rfl) (by simp) ?_; refine AllReady.cons rfl (fun K hK => ?_) AllReady.nil; go_simp; refine hK _ _ ?_; clear hK K)
            have hGa := hGm.step (fun w0 _ m => m.ext (Ext.new w4 (.cells #[.int .i64 f.op, .int .i64 f.n, .slice a3 f.inn.length c3, .slice a4 f.kids.length c4] 50)))
            have hS := Src.lit1 (E := FmR) (H := H4) (w := w4.alloc (.cells #[.int .i64 f.op, .int .i64 f.n, .slice a3 f.inn.length c3, .slice a4 f.kids.length c4] 50)) (b := w4.heap.size) (sz := 4) hF4 rfl (fun j => by rw [(Own.new w4 #[.int .i64 f.op, .int .i64 f.n, .slice a3 f.inn.length c3, .slice a4 f.kids.length c4] 50).facts.1 j]; simp [fmC])
            obtain ⟨w0, z1, z2, z3, z4, z5⟩ := hGa
            refine wpAny_ready (rs := [7]) (by kernel_rfl) (by simp) ?_; refine AllReady.cons rfl (fun K hK => ?_) AllReady.nil
            refine oper_append_M (hm := mono_FmR) (v := .slice ka ks.length kk) (xs := ks) (ys := [f]) 2 _ _ 45 rfl Tryz.underlying45 infoFm rfl rfl rfl z4 rfl hS one_FmR (by have := hkl.out; simp; omega) (by have := hkl.out; simp; omega) ?_
            intro v' w6 hM6 hgr6
            refine hK _ _ ?_
            clear hK K
            have hG6 := MemG.re z1 z2 z3 z4 z5 hM6
            try simp only [List.set_cons_succ, List.set_cons_zero] at hG6 hM6
            obtain ⟨na, nc, rfl, -⟩ := hM6.form 2 rfl
            clear z1 z3 z4 z5 hM6 hS hGm
            obtain ⟨uc, uf⟩ := (hG6.box 1 rfl).facts
            have uf3 := uf 3
            have uc3 : _ = some (Value.slice ka ks.length kk) := uc 3
            have ul := (hG6.box 1 rfl).lt
            have hG7 := hG6.step (fun w0 _ m => m.set 1 rfl 3 (.slice na (ks ++ [f]).length nc))
            simp only [List.set_cons_succ, List.set_cons_zero, List.setIfInBounds_toArray] at hG7
            have hl7 := hl.grownG hG7.grown hg
            rw [show (ks ++ [f]).length = ks.length + 1 by simp] at hG7 hl7
            clear uc uf hG6
            (refine wpAny_take (i := 8) (v := ?_) rfl (by kernel_rfl) (by kernel_rfl) (by kernel_rfl) (fun _ _ _ h => h) (Or.inl ⟨by rfl, ?_⟩) ?_; rotate_left; (focus ((intro w; go_simp); try (with_reducible rfl))); (try simp only [Act.put, List.setIfInBounds_toArray, List.set_cons_zero, List.set_cons_succ]))
            (refine wpAny_ready (rs := [9]) (by kernel_rfl) (by simp) ?_; refine AllReady.cons rfl (fun K hK => ?_) AllReady.nil; go_simp; refine hK _ _ ?_; clear hK K)
            refine wpAny_done (by kernel_rfl) ?_ _
            try simp only [List.getElem_toArray, List.getElem_cons_succ, List.getElem_cons_zero, Act.put, List.setIfInBounds_toArray, List.set_cons_zero, List.set_cons_succ]
            go_wp2_with fail
            go_roundw
            case rel =>
              have hsum : sumN Fm.size (ks ++ [f]) = sumN Fm.size ks + f.size := sumN_app ks f
              refine ⟨m + 1, .slice na (ks.length + 1) nc, H4, ks ++ [f], at2, by omega, by go_num, by simp [hkl.out], ?_, ?_, ?_, by omega, by omega, hl7, Lib.hid (kidsG_step hkg.out htr.out)⟩
              · rw [hsum]
                rwa [show lf - 1 - ((sumN Fm.size ks + f.size : Nat) : Int) = lf - 1 - (sumN Fm.size ks : Nat) - f.size by omega]
              · rw [hsum]; exact ksP_step hKs hs
              · intro x hx
                rcases List.mem_append.1 hx with hx | hx
                · exact hall x hx
                · rw [List.mem_singleton.1 hx]; exact ⟨hwf, hdp⟩
            case measure => simp [intOf]; omega
          · go_simp
            refine hK _ _ ?_
            clear hK K
            (refine wpAny_ready (rs := [1]) (by kernel_rfl) (by simp) ?_; refine AllReady.cons rfl (fun K hK => ?_) AllReady.nil; go_simp; refine hK _ _ ?_; clear hK K)
            have hGa := hGm.step (fun w0 _ m => m.ext (Ext.new w4 (.cells #[.int .i64 f.op, .int .i64 f.n, .slice a3 f.inn.length c3, .slice a4 f.kids.length c4] 50)))
            have hS := Src.lit1 (E := FmR) (H := H4) (w := w4.alloc (.cells #[.int .i64 f.op, .int .i64 f.n, .slice a3 f.inn.length c3, .slice a4 f.kids.length c4] 50)) (b := w4.heap.size) (sz := 4) hF4 rfl (fun j => by rw [(Own.new w4 #[.int .i64 f.op, .int .i64 f.n, .slice a3 f.inn.length c3, .slice a4 f.kids.length c4] 50).facts.1 j]; simp [fmC])
            obtain ⟨w0, z1, z2, z3, z4, z5⟩ := hGa
            refine wpAny_ready (rs := [7]) (by kernel_rfl) (by simp) ?_; refine AllReady.cons rfl (fun K hK => ?_) AllReady.nil
            refine oper_append_M (hm := mono_FmR) (v := .slice ka ks.length kk) (xs := ks) (ys := [f]) 2 _ _ 45 rfl Tryz.underlying45 infoFm rfl rfl rfl z4 rfl hS one_FmR (by have := hkl.out; simp; omega) (by have := hkl.out; simp; omega) ?_
            intro v' w6 hM6 hgr6
            refine hK _ _ ?_
            clear hK K
            have hG6 := MemG.re z1 z2 z3 z4 z5 hM6
            try simp only [List.set_cons_succ, List.set_cons_zero] at hG6 hM6
            obtain ⟨na, nc, rfl, -⟩ := hM6.form 2 rfl
            clear z1 z3 z4 z5 hM6 hS hGm
            obtain ⟨uc, uf⟩ := (hG6.box 1 rfl).facts
            have uf3 := uf 3
            have uc3 : _ = some (Value.slice ka ks.length kk) := uc 3
            have ul := (hG6.box 1 rfl).lt
            have hG7 := hG6.step (fun w0 _ m => m.set 1 rfl 3 (.slice na (ks ++ [f]).length nc))
            simp only [List.set_cons_succ, List.set_cons_zero, List.setIfInBounds_toArray] at hG7
            have hl7 := hl.grownG hG7.grown hg
            rw [show (ks ++ [f]).length = ks.length + 1 by simp] at hG7 hl7
            clear uc uf hG6
            (refine wpAny_take (i := 8) (v := ?_) rfl (by kernel_rfl) (by kernel_rfl) (by kernel_rfl) (fun _ _ _ h => h) (Or.inl ⟨by rfl, ?_⟩) ?_; rotate_left; (focus ((intro w; go_simp); try (with_reducible rfl))); (try simp only [Act.put, List.setIfInBounds_toArray, List.set_cons_zero, List.set_cons_succ]))
            (refine wpAny_ready (rs := [9]) (by kernel_rfl) (by simp) ?_; refine AllReady.cons rfl (fun K hK => ?_) AllReady.nil; go_simp; refine hK _ _ ?_; clear hK K)
            refine wpAny_done (by kernel_rfl) ?_ _
            try simp only [List.getElem_toArray, List.getElem_cons_succ, List.getElem_cons_zero, Act.put, List.setIfInBounds_toArray, List.set_cons_zero, List.set_cons_succ]
            go_wp2_with fail
            go_roundw
            case rel =>
              have hsum : sumN Fm.size (ks ++ [f]) = sumN Fm.size ks + f.size := sumN_app ks f
              refine ⟨m + 1, .slice na (ks.length + 1) nc, H4, ks ++ [f], at2, by omega, by go_num, by simp [hkl.out], ?_, ?_, ?_, by omega, by omega, hl7, Lib.hid (kidsG_step hkg.out htr.out)⟩
              · rw [hsum]
                rwa [show lf - 1 - ((sumN Fm.size ks + f.size : Nat) : Int) = lf - 1 - (sumN Fm.size ks : Nat) - f.size by omega]
              · rw [hsum]; exact ksP_step hKs hs
              · intro x hx
                rcases List.mem_append.1 hx with hx | hx
                · exact hall x hx
                · rw [List.mem_singleton.1 hx]; exact ⟨hwf, hdp⟩
            case measure => simp [intOf]; omega
      · have hmn : m = nv := by omega
        obtain ⟨kc, kf⟩ := (hGm.box 1 rfl).facts
        have q0' : _ = some (Value.int .i64 (4 + k % 2)) := kc 0
        have q1' : _ = some (Value.int .i64 0) := kc 1
        have q2' : _ = some (Value.slice none 0 0) := kc 2
        have q3' : _ = some (Value.slice ka ks.length kk) := kc 3
        have hgl := (hGm.box 1 rfl).lt
        obtain ⟨uc, uf⟩ := (hGm.box 0 rfl).facts
        have u0' : _ = some (Value.int .i64 0) := uc 0
        have u1' : _ = some (Value.int .i64 0) := uc 1
        have u2' : _ = some (Value.slice none 0 0) := uc 2
        have u3' : _ = some (Value.slice none 0 0) := uc 3
        have ul := (hGm.box 0 rfl).lt
        clear kc kf uc hG5 hcn
        have hG8 := hGm.set4 0 rfl (.int .i64 (4 + k % 2)) (.int .i64 0) (.slice none 0 0) (.slice ka ks.length kk)
        simp only [List.set_cons_zero] at hG8
        obtain ⟨H9, hp9, hG9, hks⟩ := hG8.freezeS 2 rfl
        clear hG8
        go_wp2_with fail
        generalize ((((wr.setCell _ _).setCell _ _).setCell _ _).setCell _ _) = w9 at *
        obtain ⟨q, -⟩ := (hG9.box 0 rfl).facts
        have q0 : _ = some (Value.int .i64 (4 + k % 2)) := q 0
        have q1 : _ = some (Value.int .i64 0) := q 1
        have q2 : _ = some (Value.slice none 0 0) := q 2
        have q3 : _ = some (Value.slice ka ks.length kk) := q 3
        refine bodyPost_ret (v := .agg #[.int .i64 (4 + k % 2), .int .i64 0, .slice none 0 0, .slice ka ks.length kk]) (by simp [results, Tryz.results68, go_sem, q0, q1, q2, q3]) rfl ?_
        have hsz := size_mk (4 + k % 2) 0 [] ks
        have hdp := deep_mk (4 + k % 2) 0 [] ks
        have hmx : maxN Fm.deep ks ≤ max 1 (e + 1) := maxN_le fun x hx => (hall x hx).2
        exact ⟨.mk (4 + k % 2) 0 [] ks, none, 0, ka, kk, atm, rfl, mono_FmR _ _ _ _ hG9.ub (FmR.of (by simp [Fm.op, I64]; omega) (by simp [Fm.n, I64]) (SliceRep.nil _ _ _) hks), whole_ao hop (fun x hx => (hall x hx).1), ⟨⟨by rw [hsz]; exact szP_of hKs (by omega) (by omega), by omega⟩, Lib.hid (treeF_n hkv.out (by omega) (by omega) (by omega) (by omega) hqv.out hnj.out (hmn ▸ hkg.out))⟩, hG9.grown, by rw [hsz]; have h := hG9.own; rwa [show lf - 1 - ((sumN Fm.size ks : Nat) : Int) = lf - ((1 + sumN Fm.size ks : Nat) : Int) by omega] at h, by omega, by omega⟩
theorem Mem.callB {w0 w w' : World} {H0 H : PH} {L : List Chunk} (h : Mem w0 H0 L H w) (i : Nat) {b : Nat} {c c' : Array Value} {T : TypeId} (hi : L[i]? = some (Proofs.YtnpnjcaomakehaaGreat.box b c T)) (e : w.grownBy w' (some b)) (ho : Own w' b c' T) :
    Mem w0 H0 (L.set i (Proofs.YtnpnjcaomakehaaGreat.box b c' T)) (Proofs.YtnpnjcaomakehaaGreat.up H w w') w' := by
  have hlt : b < w.heap.size := (h.box i hi).lt
  have hge : w0.heap.size ≤ b := (h.fr i _ hi b rfl).1
  have hlt' := ho.lt
  have hb : ∀ k, b ≠ k → (w.heap.setIfInBounds b w'.heap[b])[k]? = w.heap[k]? := fun k hk => Array.getElem?_setIfInBounds_ne hk
  have h1 : Mem w0 H0 (L.set i (Proofs.YtnpnjcaomakehaaGreat.box b c' T)) H { w with heap := w.heap.setIfInBounds b w'.heap[b] } := by
    refine h.put i hi (c' := Proofs.YtnpnjcaomakehaaGreat.box b c' T) ?_ (fun k hk => .inl hk) ⟨h.ex.os, h.ex.tape, h.ex.output, by simpa using h.ex.size, fun k hk => ?_⟩ fun k hk hn => hb k (fun hh => hn (by rw [← hh]; rfl))
    · show Own _ b c' T
      unfold Own at *
      show (w.heap.setIfInBounds b w'.heap[b])[b]? = _
      rw [Array.getElem?_setIfInBounds_self_of_lt hlt, ← ho]; simp [hlt']
    · show (w.heap.setIfInBounds b w'.heap[b])[k]? = _
      rw [hb k (by omega)]; exact h.ex.block k hk
  have h2 := h1.up (w' := w') ⟨e.os, e.tape, e.output, by simpa using e.size, fun k hk => ?_⟩
  · have hu : Proofs.YtnpnjcaomakehaaGreat.up H { w with heap := w.heap.setIfInBounds b w'.heap[b] } w' = Proofs.YtnpnjcaomakehaaGreat.up H w w' := by
      unfold Proofs.YtnpnjcaomakehaaGreat.up; simp
    rwa [hu] at h2
  · show w'.heap[k]? = (w.heap.setIfInBounds b w'.heap[b])[k]?
    by_cases hk' : b = k
    · subst hk'; rw [Array.getElem?_setIfInBounds_self_of_lt hlt]; simp [hlt']
    · rw [hb k hk']; exact e.block k (by simpa using hk) (fun hh => hk' (Option.some.inj hh).symm)
def SomeN (w : World) (cl lf : Int) (d : Nat) (e : Ending) (w' : World) : Prop :=
  ∃ f a3 c3 a4 c4, e = .returned (fmV f a3 c3 a4 c4) ∧ FmR (up noH w w') (fmC f a3 c3 a4 c4) f ∧ wholeN cl f = true ∧ (SzP lf f.size ∧ f.deep ≤ max 1 (d + 1)) ∧ Ext w w'
def SomeF (w : World) (l : List Int) (cl lf : Int) (d : Nat) (e : Ending) (w' : World) : Prop :=
  ∃ f a3 c3 a4 c4, e = .returned (fmV f a3 c3 a4 c4) ∧ FmR (up noH w w') (fmC f a3 c3 a4 c4) f ∧ wholeN cl f = true ∧ (SzP lf f.size ∧ f.deep ≤ max 1 (d + 1)) ∧ Ext w w' ∧ Hid ((treeF l cl d 0 lf).1 = f)
set_option maxRecDepth 100000 in
theorem some07F_c {Hl : PH} (l : List Int) (vl : Value) (cl lf : Int) (d : Nat) (w : World) (hl : PLe Hl (ph w)) (hr : IntsR Hl vl l) (hc0 : 0 < cl) (hc1 : cl ≤ 64) (hd : d ≤ 7) (h0 : 0 ≤ lf) (h1 : lf ≤ 100) :
    Calls Tryz.prog 28 #[vl, .int .i64 cl, .int .i64 lf, .int .i64 ((d : Int) + 1)] w (SomeF w l cl lf d) := by
  obtain ⟨xa, xc, rfl, hll, hr⟩ := hr.form
  have hM := ((Mem.start w Hl hl).new' zeroFa 50 (n := w.heap.size) (by simp)).new' (mkA (.slice xa l.length xc) 0 cl lf) 115 (n := w.heap.size + 1) (by simp)
  have hN := ((Mem.start w noH (noH_le _)).new' zeroFa 50 (n := w.heap.size) (by simp)).new' (mkA (.slice xa l.length xc) 0 cl lf) 115 (n := w.heap.size + 1) (by simp)
  simp only [List.cons_append, List.nil_append] at hM hN
  go_enter Tryz.func28, Tryz.ntmps28
  go_wp2_with fail
  change Calls _ _ _ ((w.alloc (.cells zeroFa 50)).alloc (.cells (mkA (.slice xa l.length xc) 0 cl lf) 115)) _
  generalize World.alloc _ _ = W at *
  refine (tree_c l _ (w.heap.size + 1) cl hr (hM.fr 1 _ rfl _ rfl).2 hc0 hc1 d hd 0 lf W hM.ple (hM.box 1 rfl) (by omega) (by omega) (by omega) h1).mono ?_
  rintro e w1 ⟨f, a3, c3, a4, c4, at2, rfl, hF, hwf, ⟨hP, htr⟩, hgr, ho1, g1, g2⟩
  have hM1 := hN.callB 1 rfl hgr ho1
  simp only [List.set_cons_succ, List.set_cons_zero] at hM1
  generalize up noH W w1 = H1 at *
  have ob := hM1.box 0 rfl
  obtain ⟨uc, uf⟩ := ob.facts
  have ul := ob.lt
  have q0' : _ = some (Value.int .i64 0) := uc 0
  have q1' : _ = some (Value.int .i64 0) := uc 1
  have q2' : _ = some (Value.slice none 0 0) := uc 2
  have q3' : _ = some (Value.slice none 0 0) := uc 3
  have hM2 := hM1.set4 0 rfl (.int .i64 f.op) (.int .i64 f.n) (.slice a3 f.inn.length c3) (.slice a4 f.kids.length c4)
  simp only [List.set_cons_zero] at hM2
  clear uc hM hN hM1 hgr ho1
  go_wp2_with fail
  generalize ((((w1.setCell _ _).setCell _ _).setCell _ _).setCell _ _) = w9 at *
  obtain ⟨q, -⟩ := (hM2.box 0 rfl).facts
  have q0 : _ = some (Value.int .i64 f.op) := q 0
  have q1 : _ = some (Value.int .i64 f.n) := q 1
  have q2 : _ = some (Value.slice a3 f.inn.length c3) := q 2
  have q3 : _ = some (Value.slice a4 f.kids.length c4) := q 3
  refine bodyPost_ret (v := .agg #[.int .i64 f.op, .int .i64 f.n, .slice a3 f.inn.length c3, .slice a4 f.kids.length c4]) (by simp [results, Tryz.results28, go_sem, q0, q1, q2, q3]) rfl ?_
  exact ⟨f, a3, c3, a4, c4, rfl, mono_FmR _ _ _ _ hM2.ub hF, hwf, hP, hM2.ex, Lib.hid (by rw [htr.out])⟩
theorem some07_n {Hl : PH} (l : List Int) (vl : Value) (cl lf : Int) (d : Nat) (w : World) (hl : PLe Hl (ph w)) (hr : IntsR Hl vl l) (hc0 : 0 < cl) (hc1 : cl ≤ 64) (hd : d ≤ 7) (h0 : 0 ≤ lf) (h1 : lf ≤ 100) :
    Calls Tryz.prog 28 #[vl, .int .i64 cl, .int .i64 lf, .int .i64 ((d : Int) + 1)] w (SomeN w cl lf d) :=
  (some07F_c l vl cl lf d w hl hr hc0 hc1 hd h0 h1).mono fun e w' ⟨f, a3, c3, a4, c4, e1, e2, e3, e4, e5, _⟩ => ⟨f, a3, c3, a4, c4, e1, e2, e3, e4, e5⟩
end Go.Proofs.YtnpnjcaomakehaaGreat
namespace Go.Proofs.YtnpnjcaomakehaaGreat
open Go.RowKit Go.Shelf
section
variable {α : Type} {E : PH → List Value → α → Prop} {sz : Nat} {h : PH} {b : Nat}
theorem RowRep.dropG : ∀ {xs : List α} {o : Nat} (k : Nat), RowRep h E sz b o xs → RowRep h E sz b (o + k * sz) (xs.drop k)
  | [], _, k, _ => by rw [List.drop_nil]; trivial
  | x :: xs, _, 0, hr => by rw [Nat.zero_mul, Nat.add_zero]; exact hr
  | x :: xs, o, k + 1, hr => by
    have := RowRep.dropG k hr.2
    rw [show o + (k + 1) * sz = o + sz + k * sz by rw [Nat.add_mul]; omega]
    exact this
end
theorem intsR_drop {H : PH} {a : Option Addr} {n c : Nat} {l : List Int} (hr : IntsR H (.slice a n c) l) (k : Nat) (hk : k ≤ l.length) : IntsR H (.slice (Option.map (fun x => x.add k) a) (l.length - k) (c - k)) (l.drop k) := by
  obtain ⟨a', c', h1, h2, h3, h4⟩ := hr
  cases h1
  refine ⟨_, c - k, by rw [List.length_drop], by rw [List.length_drop]; omega, by omega, ?_⟩
  rcases h4 with rfl | ⟨b, o, h6, h5⟩
  · exact .inl (by simp)
  · subst h6
    have := h5.dropG k
    rw [Nat.mul_one] at this
    exact .inr ⟨b, o + k, by simp [Addr.add], this⟩
theorem intsR_none {H : PH} {a : Option Addr} {c : Nat} (hc : c ≤ maxLen) : IntsR H (.slice a 0 c) [] := ⟨a, c, rfl, Nat.zero_le _, hc, .inl rfl⟩
theorem intsR_cap {H : PH} {a : Option Addr} {n c : Nat} {l : List Int} (hr : IntsR H (.slice a n c) l) : l.length ≤ c ∧ c ≤ maxLen := by
  obtain ⟨a', c', h1, h2, h3, h4⟩ := hr
  cases h1; exact ⟨h2, h3⟩
theorem infoCl : (Tryz.prog.info? 58).map (fun i => (i.zero, i.size, i.bytes)) = some (some (.agg #[.slice none 0 0, .int .i64 0, .int .i64 0, .slice none 0 0, .slice none 0 0]), 5, 88) := by kernel_rfl
theorem one_ClR {h : PH} : ∀ cs x, ClR h cs x → ∀ u ∈ cs, u.oneCell' = true := by
  intro cs x hr u hu
  obtain ⟨a1, c1, a3, c3, a4, c4, rfl, -⟩ := hr.form
  simp only [clC, fmC, List.mem_cons, List.not_mem_nil, or_false] at hu
  rcases hu with rfl | rfl | rfl | rfl | rfl <;> rfl
theorem Mem.set5 {w0 w : World} {H0 H : PH} {L : List Chunk} (h : Mem w0 H0 L H w) (i : Nat) {b : Nat} {r a0 a1 a2 a3 : Value} {T : TypeId} (hi : L[i]? = some (Proofs.YtnpnjcaomakehaaGreat.box b #[r, a0, a1, a2, a3] T)) (p q s t : Value) :
    Mem w0 H0 (L.set i (Proofs.YtnpnjcaomakehaaGreat.box b #[r, p, q, s, t] T)) H ((((w.setCell ⟨b, 1, none⟩ p).setCell ⟨b, 2, none⟩ q).setCell ⟨b, 3, none⟩ s).setCell ⟨b, 4, none⟩ t) := by
  have hil : i < L.length := (List.getElem?_eq_some_iff.1 hi).1
  have h1 := h.set i hi 1 p
  have h2 := h1.set i (List.getElem?_set_self hil) 2 q
  rw [List.set_set] at h2
  have h3 := h2.set i (List.getElem?_set_self hil) 3 s
  rw [List.set_set] at h3
  have h4 := h3.set i (List.getElem?_set_self hil) 4 t
  rw [List.set_set] at h4
  simpa using h4
def SomeCl (i : Nat) (c : Cl) : Prop := wholeB c.body = true ∧ SzP 5 c.body.size ∧ c.body.deep ≤ 3 ∧ (∀ r ∈ c.refs, 0 ≤ r ∧ r < (i : Int)) ∧ c.refs.Pairwise (· < ·) ∧ c.refs.length ≤ i
def SomeClQ (w : World) (e : Ending) (w' : World) : Prop := ∃ v L, e = .returned v ∧ ClsR (ph w') v L ∧ L.length ≤ 5 ∧ (∀ i c, L[i]? = some c → SomeCl i c) ∧ Ext w w'
def SomeClN (w : World) (cl : Int) (e : Ending) (w' : World) : Prop := ∃ v L, e = .returned v ∧ ClsR (ph w') v L ∧ L.length ≤ 5 ∧ (∀ i c, L[i]? = some c → SomeCl i c ∧ wholeN cl c.body = true) ∧ Ext w w'
set_option maxRecDepth 100000 in
set_option maxHeartbeats 4000000 in
theorem some11_n (l : List Int) (vl : Value) (cl : Int) (w : World) (hr : IntsR (ph w) vl l) (hc0 : 0 < cl) (hc1 : cl ≤ 64) :
    Calls Tryz.prog 5 #[vl, .int .i64 cl] w (SomeClN w cl) := by
  have hr0 := hr
  obtain ⟨xa, xc, rfl, hll, hr⟩ := hr.form
  have hM0 := (Mem.start w (ph w) (fun _ _ h => h)).nil mono_ClR 5 58
  simp only [List.nil_append] at hM0
  go_enter Tryz.func5, Tryz.ntmps5
  go_wp2_with fail
  refine (pick1_c l _ 0 6 w hr0 (by unfold I64; omega) (by omega) (by omega)).mono ?_
  rintro e w1 ⟨k, rfl, hk0, hk1, hx1⟩
  obtain ⟨n, rfl⟩ : ∃ n : Nat, k = n := ⟨k.toNat, by omega⟩
  have hM1 := hM0.ext hx1
  clear hM0 hk0
  go_wp2_with fail
  go_loopw [5, 7] (fun vo vi wr => ∃ (c : Nat) (out : List Cl) (H : PH), c ≤ n ∧ vi = .int .i64 c ∧ Hid (out.length = c) ∧ Mem w (ph w) [own mono_ClR 5 58 vo out] H wr ∧ Hid (∀ i x, out[i]? = some x → SomeCl i x ∧ wholeN cl x.body = true)) (fun _ vi _ => n - (intOf vi).toNat)
  case atStart => exact ⟨0, [], _, by omega, rfl, Lib.hid rfl, hM1, Lib.hid (by simp)⟩
  case round =>
    clear hM1
    obtain ⟨c, out, H, hc, rfl, hol, hM, hall⟩ := hrel
    obtain ⟨oa, oc, rfl, -⟩ := hM.form 0 rfl
    by_cases hA : c < n
    · have hdA : decide (c < n) = true := decide_eq_true hA
      have hM2 := hM.new' #[.slice none 0 0, .int .i64 0, .int .i64 0, .slice none 0 0, .slice none 0 0] 58 (n := wr.heap.size) (by simp)
      simp only [List.cons_append, List.nil_append] at hM2
      have hrW := hr0.mono mono_IntR (hM2.ex.ple)
      have hw1 : IntKind.i64.wrap (1 + (c : Int)) = 1 + (c : Int) := by rw [IntKind.wrap_i64]; omega
      clear hM
      go_wp2_with fail
      refine (pick1_c l _ (1 + (c : Int)) 1048576 _ hrW (by unfold I64; omega) (by omega) (by omega)).mono ?_
      rintro e w2 ⟨q, rfl, hq0, hq1, hx2⟩
      have hM3 := (hM2.ext hx2).nil mono_IntR 1 3
      simp only [List.cons_append, List.nil_append] at hM3
      generalize hB : wr.heap.size = B at *
      clear hM2 hrW hw1 hx2
      go_wp2_with fail
      go_loopw [10] (fun vi wx => ∃ (m : Nat) (rv : Value) (rs : List Int), m ≤ c ∧ vi = .int .i64 m ∧ Mem w (ph w) [own mono_ClR 5 58 (.slice oa out.length oc) out, box B #[rv, .int .i64 0, .int .i64 0, .slice none 0 0, .slice none 0 0] 58, own mono_IntR 1 3 rv rs] H wx ∧ Hid ((∀ r ∈ rs, 0 ≤ r ∧ r < (m : Int)) ∧ rs.Pairwise (· < ·) ∧ rs.length ≤ m)) (fun vi _ => c - (intOf vi).toNat)
      case atStart => exact ⟨0, _, [], by omega, rfl, hM3, Lib.hid (by simp)⟩
      case round =>
        clear hM3
        obtain ⟨m, rv, rs, hm, rfl, hMx, hrs⟩ := hrel
        obtain ⟨ra, rc, rfl, -⟩ := hMx.form 2 rfl
        by_cases hB2 : m < c
        · have hdB : decide (m < c) = true := decide_eq_true hB2
          obtain ⟨kc, kf⟩ := (hMx.box 1 rfl).facts
          have k0 : _ = some (Value.slice ra rs.length rc) := kc 0
          have f0 := kf 0
          have hgl := (hMx.box 1 rfl).lt
          have hM4 := hMx.ext (Ext.new wr (.cells #[.int .i64 m] 3))
          have hS := Src.lit1 (H := H) (E := IntR) (sz := 1) (w := wr.alloc (.cells #[.int .i64 m] 3)) (b := wr.heap.size) (x := (m : Int)) (cs := [.int .i64 m]) ⟨rfl, by unfold I64; omega⟩ rfl (fun j => by rw [(Proofs.YtnpnjcaomakehaaGreat.Own.new _ _ _).facts.1]; simp)
          have hrl : rs.length ≤ m := hrs.out.2.2
          clear kc kf
          go_wp2_with (first | (at_builtin; refine wpList_append_M 2 rfl _ _ 22 rfl Tryz.underlying22 infoInt rfl rfl rfl hM4 rfl hS one_IntR (by simp; omega) (by simp; omega) ?f5))
          case f5 =>
            intro v' w' hM5
            try simp only [List.set_cons_zero, List.set_cons_succ] at hM5
            clear hMx hM4 hS k0 f0 hgl
            obtain ⟨va, vc, rfl, -⟩ := hM5.form 2 rfl
            have f0 := (hM5.box 1 rfl).facts.2 0
            have k0 : _ = some (Value.slice ra rs.length rc) := (hM5.box 1 rfl).facts.1 0
            have hgl := (hM5.box 1 rfl).lt
            have hM6 := hM5.set 1 rfl 0 (.slice va (rs ++ [(m : Int)]).length vc)
            have hln : (rs ++ [(m : Int)]).length = rs.length + 1 := by simp
            rw [hln] at hM6
            clear hln
            try simp only [List.set_cons_zero, List.set_cons_succ, List.setIfInBounds_toArray] at hM6
            go_wp2_with fail
            go_roundw
            case rel =>
              obtain ⟨r1, r2, r3⟩ := hrs.out
              refine ⟨m + 1, .slice va (rs.length + 1) vc, rs ++ [(m : Int)], by omega, by go_num, hM6, Lib.hid ⟨fun r hr => ?_, ?_, by simp; omega⟩⟩
              · rcases List.mem_append.1 hr with h | h
                · have := r1 r h; omega
                · have := List.mem_singleton.1 h; omega
              · exact List.pairwise_append.2 ⟨r2, List.pairwise_singleton _ _, fun a ha b hb => by have := r1 a ha; have := List.mem_singleton.1 hb; omega⟩
            case measure => simp [intOf]; omega
          go_roundw
          case rel => exact ⟨m + 1, _, rs, by omega, by go_num, hMx, Lib.hid ⟨fun r hr => by have := hrs.out.1 r hr; omega, hrs.out.2.1, by omega⟩⟩
          case measure => simp [intOf]; omega
        · have hdB : decide (m < c) = false := by simpa using hB2
          obtain rfl : m = c := by omega
          obtain ⟨K, hK, hKl⟩ : ∃ K : Nat, (if 3 + 6 * (m : Int) < (l.length : Int) then 3 + 6 * (m : Int) else (l.length : Int)) = (K : Int) ∧ K ≤ l.length := by
            by_cases h : 3 + 6 * m < l.length
            · exact ⟨3 + 6 * m, by rw [if_pos (by omega)]; omega, by omega⟩
            · exact ⟨l.length, by rw [if_neg (by omega)], Nat.le_refl _⟩
          obtain ⟨hcap1, hcap2⟩ := intsR_cap hr0
          have hd1 := intsR_drop hr0 K hKl
          have hd2 := intsR_none (H := ph w) (a := xa) (c := 0) (Nat.zero_le _)
          by_cases hxK : xc = K
          · have hraw : IntsR (ph w) (.slice xa (l.length - K) 0) (l.drop K) := by
              rw [show l.length - K = 0 by omega, List.drop_eq_nil_of_le (by omega)]; exact hd2
            clear hd1 hd2 hcap1 hcap2
            subst hxK
            go_wp2_with fail
            refine (some07_n (Hl := ph w) (l.drop xc) _ cl 5 2 wr hMx.ex.ple hraw hc0 hc1 (by omega) (by omega) (by omega)).mono ?_
            rintro e w3 ⟨f, a3, c3, a4, c4, rfl, hF, hwn, ⟨hs, hd⟩, hx3⟩
            have hwf := wholeN_B hwn
            have hF3 := mono_FmR _ _ _ _ (up_mono (noH_le H)) hF
            replace hMx := hMx.up hx3
            generalize up H wr w3 = H3 at *
            clear hF hx3 hraw
            obtain ⟨uc, uf⟩ := (hMx.box 1 rfl).facts
            have uc0 : _ = some (Value.slice ra rs.length rc) := uc 0
            have uc1 : _ = some (Value.int .i64 0) := uc 1
            have uc2 : _ = some (Value.int .i64 0) := uc 2
            have uc3 : _ = some (Value.slice none 0 0) := uc 3
            have uc4 : _ = some (Value.slice none 0 0) := uc 4
            have ul := (hMx.box 1 rfl).lt
            replace hMx := hMx.set5 1 rfl (.int .i64 f.op) (.int .i64 f.n) (.slice a3 f.inn.length c3) (.slice a4 f.kids.length c4)
            simp only [List.set_cons_zero, List.set_cons_succ] at hMx
            obtain ⟨H5, hl5, hM5, hR5⟩ := hMx.freezeS 2 rfl
            simp only [List.set_cons_zero, List.set_cons_succ] at hM5
            have hcR : ClR H5 (clC ⟨rs, f⟩ ra rc a3 c3 a4 c4) ⟨rs, f⟩ := ClR.of hR5 (mono_FmR _ _ _ _ hl5 hF3)
            clear uc hMx hR5 hF3
            go_upto_region 14 with (fail)
            generalize ((((w3.setCell _ _).setCell _ _).setCell _ _).setCell _ _) = w9 at *
            clear uf uc0 uc1 uc2 uc3 uc4 ul
            obtain ⟨uc, uf⟩ := (hM5.box 1 rfl).facts
            have uc0 : _ = some (Value.slice ra rs.length rc) := uc 0
            have uc1 : _ = some (Value.int .i64 f.op) := uc 1
            have uc2 : _ = some (Value.int .i64 f.n) := uc 2
            have uc3 : _ = some (Value.slice a3 f.inn.length c3) := uc 3
            have uc4 : _ = some (Value.slice a4 f.kids.length c4) := uc 4
            have ul := (hM5.box 1 rfl).lt
            have hM6 := (hM5.ext (Ext.new w9 (.cells #[.slice ra rs.length rc, .int .i64 f.op, .int .i64 f.n, .slice a3 f.inn.length c3, .slice a4 f.kids.length c4] 58))).pick [0] (by decide)
            simp only [List.map_cons, List.map_nil, List.getElem?_cons_zero, Option.getD_some] at hM6
            have hS := Src.lit1 (H := H5) (E := ClR) (sz := 5) (w := w9.alloc (.cells #[.slice ra rs.length rc, .int .i64 f.op, .int .i64 f.n, .slice a3 f.inn.length c3, .slice a4 f.kids.length c4] 58)) (b := w9.heap.size) hcR rfl (fun j => by rw [(Proofs.YtnpnjcaomakehaaGreat.Own.new _ _ _).facts.1]; simp [clC, fmC])
            have hol' := hol.out
            clear uc uf hM5
            go_wp2_with (first | (at_builtin; refine wpList_append_M 0 rfl _ _ 24 rfl Tryz.underlying24 infoCl rfl rfl rfl (hM6) rfl (hS) one_ClR ?g1 ?g2 ?g3))
            case g1 => simp; omega
            case g2 => simp; omega
            case g3 =>
            intro v' w10 hM7
            try simp only [List.set_cons_zero, List.set_cons_succ] at hM7
            clear hM6 hS uc0 uc1 uc2 uc3 uc4 ul
            go_wp2_with fail
            go_roundw
            case rel =>
              refine ⟨m + 1, out ++ [⟨rs, f⟩], H5, by omega, by go_num, Lib.hid (by simp [hol']), hM7, Lib.hid fun i x hx => ?_⟩
              rcases getElem?_snoc hx with h1 | ⟨h1, h2⟩
              · exact hall.out i x h1
              · subst h2
                obtain ⟨r1, r2, r3⟩ := hrs.out
                rw [h1, hol']
                exact ⟨⟨hwf, hs, by dsimp only; omega, fun r hr => by have := r1 r hr; dsimp only at *; omega, r2, by dsimp only; omega⟩, hwn⟩
            case measure => simp [intOf]; omega
          · have hraw := hd1
            have hb1 : decide (xc = K) = false := by simpa using hxK
            clear hd1 hd2 hcap1 hcap2
            go_wp2_with fail
            refine (some07_n (Hl := ph w) (l.drop K) _ cl 5 2 wr hMx.ex.ple hraw hc0 hc1 (by omega) (by omega) (by omega)).mono ?_
            rintro e w3 ⟨f, a3, c3, a4, c4, rfl, hF, hwn, ⟨hs, hd⟩, hx3⟩
            have hwf := wholeN_B hwn
            have hF3 := mono_FmR _ _ _ _ (up_mono (noH_le H)) hF
            replace hMx := hMx.up hx3
            generalize up H wr w3 = H3 at *
            clear hF hx3 hraw
            obtain ⟨uc, uf⟩ := (hMx.box 1 rfl).facts
            have uc0 : _ = some (Value.slice ra rs.length rc) := uc 0
            have uc1 : _ = some (Value.int .i64 0) := uc 1
            have uc2 : _ = some (Value.int .i64 0) := uc 2
            have uc3 : _ = some (Value.slice none 0 0) := uc 3
            have uc4 : _ = some (Value.slice none 0 0) := uc 4
            have ul := (hMx.box 1 rfl).lt
            replace hMx := hMx.set5 1 rfl (.int .i64 f.op) (.int .i64 f.n) (.slice a3 f.inn.length c3) (.slice a4 f.kids.length c4)
            simp only [List.set_cons_zero, List.set_cons_succ] at hMx
            obtain ⟨H5, hl5, hM5, hR5⟩ := hMx.freezeS 2 rfl
            simp only [List.set_cons_zero, List.set_cons_succ] at hM5
            have hcR : ClR H5 (clC ⟨rs, f⟩ ra rc a3 c3 a4 c4) ⟨rs, f⟩ := ClR.of hR5 (mono_FmR _ _ _ _ hl5 hF3)
            clear uc hMx hR5 hF3
            go_upto_region 14 with (fail)
            generalize ((((w3.setCell _ _).setCell _ _).setCell _ _).setCell _ _) = w9 at *
            clear uf uc0 uc1 uc2 uc3 uc4 ul
            obtain ⟨uc, uf⟩ := (hM5.box 1 rfl).facts
            have uc0 : _ = some (Value.slice ra rs.length rc) := uc 0
            have uc1 : _ = some (Value.int .i64 f.op) := uc 1
            have uc2 : _ = some (Value.int .i64 f.n) := uc 2
            have uc3 : _ = some (Value.slice a3 f.inn.length c3) := uc 3
            have uc4 : _ = some (Value.slice a4 f.kids.length c4) := uc 4
            have ul := (hM5.box 1 rfl).lt
            have hM6 := (hM5.ext (Ext.new w9 (.cells #[.slice ra rs.length rc, .int .i64 f.op, .int .i64 f.n, .slice a3 f.inn.length c3, .slice a4 f.kids.length c4] 58))).pick [0] (by decide)
            simp only [List.map_cons, List.map_nil, List.getElem?_cons_zero, Option.getD_some] at hM6
            have hS := Src.lit1 (H := H5) (E := ClR) (sz := 5) (w := w9.alloc (.cells #[.slice ra rs.length rc, .int .i64 f.op, .int .i64 f.n, .slice a3 f.inn.length c3, .slice a4 f.kids.length c4] 58)) (b := w9.heap.size) hcR rfl (fun j => by rw [(Proofs.YtnpnjcaomakehaaGreat.Own.new _ _ _).facts.1]; simp [clC, fmC])
            have hol' := hol.out
            clear uc uf hM5
            go_wp2_with (first | (at_builtin; refine wpList_append_M 0 rfl _ _ 24 rfl Tryz.underlying24 infoCl rfl rfl rfl (hM6) rfl (hS) one_ClR ?g1 ?g2 ?g3))
            case g1 => simp; omega
            case g2 => simp; omega
            case g3 =>
            intro v' w10 hM7
            try simp only [List.set_cons_zero, List.set_cons_succ] at hM7
            clear hM6 hS uc0 uc1 uc2 uc3 uc4 ul
            go_wp2_with fail
            go_roundw
            case rel =>
              refine ⟨m + 1, out ++ [⟨rs, f⟩], H5, by omega, by go_num, Lib.hid (by simp [hol']), hM7, Lib.hid fun i x hx => ?_⟩
              rcases getElem?_snoc hx with h1 | ⟨h1, h2⟩
              · exact hall.out i x h1
              · subst h2
                obtain ⟨r1, r2, r3⟩ := hrs.out
                rw [h1, hol']
                exact ⟨⟨hwf, hs, by dsimp only; omega, fun r hr => by have := r1 r hr; dsimp only at *; omega, r2, by dsimp only; omega⟩, hwn⟩
            case measure => simp [intOf]; omega
    · have hdA : decide (c < n) = false := by simpa using hA
      have hr := hM.rep 0 rfl
      have hx := hM.ex
      replace hr := Lib.hid hr
      clear hM
      go_wp2_with fail
      go_ret
      exact ⟨_, out, rfl, hr.out, by have := hol.out; omega, hall.out, hx⟩
theorem some11_c (l : List Int) (vl : Value) (cl : Int) (w : World) (hr : IntsR (ph w) vl l) (hc0 : 0 < cl) (hc1 : cl ≤ 64) :
    Calls Tryz.prog 5 #[vl, .int .i64 cl] w (SomeClQ w) :=
  (some11_n l vl cl w hr hc0 hc1).mono fun e w' ⟨v, L, e1, e2, e3, e4, e5⟩ => ⟨v, L, e1, e2, e3, fun i c h => (e4 i c h).1, e5⟩
end Go.Proofs.YtnpnjcaomakehaaGreat
