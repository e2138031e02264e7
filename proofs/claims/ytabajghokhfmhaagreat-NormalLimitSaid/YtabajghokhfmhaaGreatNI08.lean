/- Lemmas for NI, part 9: generators: the tree of a formula, and more. -/
import Derived.Deep.CutBlock
import Derived.Laws.EntriesVeiled
import Derived.Test.YtabajghokhfmhaaGreatNI00
import Derived.Test.YtabajghokhfmhaaGreatNI01
import Derived.Test.YtabajghokhfmhaaGreatNI02
import Derived.Test.YtabajghokhfmhaaGreatNI03
import Derived.Test.YtabajghokhfmhaaGreatNI04
import Derived.Test.YtabajghokhfmhaaGreatNI05
import Derived.Test.YtabajghokhfmhaaGreatNI06
import Derived.Test.YtabajghokhfmhaaGreatNI07
set_option linter.unusedSimpArgs false
set_option linter.unusedVariables false
namespace Go.Proofs.YtabajghokhfmhaaGreat
open Go.RowKit Go.Shelf
def SzP (lf : Int) (s : Nat) : Prop := 1 ≤ s ∧ (s : Int) ≤ 1 + 3 * (max (lf - 3) 0 - max (lf - s - 3) 0)
theorem szP_1 (lf : Int) : SzP lf 1 := by unfold SzP; omega
def KsP (lf : Int) (m : Nat) (sm : Nat) : Prop := (sm : Int) ≤ m + 3 * (max (lf - 1 - 3) 0 - max (lf - 1 - sm - 3) 0)
theorem ksP_step {lf : Int} {m sm s : Nat} (h : KsP lf m sm) (h2 : SzP (lf - 1 - sm) s) : KsP lf (m + 1) (sm + s) := by unfold KsP SzP at *; omega
theorem szP_of {lf : Int} {m sm : Nat} (h : KsP lf m sm) (hm : m ≤ 3) (hl : 3 ≤ lf - 1) : SzP lf (1 + sm) := by unfold KsP SzP at *; omega
theorem ksP_bd {lf : Int} {m sm : Nat} (h : KsP lf m sm) (hm : m ≤ 3) (hl : lf ≤ 100) : (sm : Int) ≤ 300 := by unfold KsP at h; omega
theorem deep_leaf {f : Fm} (h : f.kids = []) : f.deep = 1 := by rw [Fm.deep_eq, h]; rfl
theorem size_leaf' {f : Fm} (h : f.kids = []) : f.size = 1 := by rw [Fm.size_eq, h]; rfl
theorem size_mk (o n : Int) (i : List Itv) (k : List Fm) : (Fm.mk o n i k).size = 1 + sumN Fm.size k := Fm.size_eq _
theorem deep_mk (o n : Int) (i : List Itv) (k : List Fm) : (Fm.mk o n i k).deep = 1 + maxN Fm.deep k := Fm.deep_eq _
def kidsG (T : Int → Int → Fm × Int) (lf a : Int) : Nat → List Fm × Int
  | 0 => ([], a)
  | m + 1 => ((kidsG T lf a m).1 ++ [(T (kidsG T lf a m).2 (lf - (sumN Fm.size (kidsG T lf a m).1 : Nat))).1], (T (kidsG T lf a m).2 (lf - (sumN Fm.size (kidsG T lf a m).1 : Nat))).2)
def treeF (l : List Int) (cl : Int) : Nat → Int → Int → Fm × Int
  | 0, a, _ => leafF l cl (a + 1)
  | d + 1, a, lf =>
    if lf - 1 < 3 ∨ (l.length : Int) < a + 1 ∨ pickV l a 14 < 3 then leafF l cl (a + 1)
    else if pickV l a 14 < 5 then (.mk 3 0 [] [(treeF l cl d (a + 1) (lf - 1)).1], (treeF l cl d (a + 1) (lf - 1)).2)
    else if pickV l a 14 < 7 then (.mk 6 0 [] [(treeF l cl d (a + 1) (lf - 1)).1], (treeF l cl d (a + 1) (lf - 1)).2)
    else (.mk (4 + pickV l a 14 % 2) 0 [] (kidsG (treeF l cl d) (lf - 1) (a + 1 + 1) ([2, 2, 2, 3, 1, 0].getD (pickV l (a + 1) 6).toNat 0)).1, (kidsG (treeF l cl d) (lf - 1) (a + 1 + 1) ([2, 2, 2, 3, 1, 0].getD (pickV l (a + 1) 6).toNat 0)).2)
theorem treeF_leaf {l : List Int} {cl : Int} {d : Nat} {a lf : Int} (h : d = 0 ∨ lf - 1 < 3 ∨ (l.length : Int) < a + 1 ∨ pickV l a 14 < 3) : treeF l cl d a lf = leafF l cl (a + 1) := by
  cases d with
  | zero => rfl
  | succ d => rw [treeF, if_pos (h.resolve_left (by omega))]
theorem treeF_3 {l : List Int} {cl : Int} {d : Nat} {a lf k a2 : Int} {f : Fm} (hk : k = pickV l a 14) (h1 : ¬ lf - 1 < 3) (h2 : ¬ (l.length : Int) < a + 1) (h3 : ¬ k < 3) (h4 : k < 5) (h : treeF l cl d (a + 1) (lf - 1) = (f, a2)) :
    treeF l cl (d + 1) a lf = (.mk 3 0 [] [f], a2) := by
  subst hk; rw [treeF, if_neg (by omega), if_pos h4, h]
theorem treeF_6 {l : List Int} {cl : Int} {d : Nat} {a lf k a2 : Int} {f : Fm} (hk : k = pickV l a 14) (h1 : ¬ lf - 1 < 3) (h2 : ¬ (l.length : Int) < a + 1) (h3 : ¬ k < 3) (h4 : ¬ k < 5) (h5 : k < 7) (h : treeF l cl d (a + 1) (lf - 1) = (f, a2)) :
    treeF l cl (d + 1) a lf = (.mk 6 0 [] [f], a2) := by
  subst hk; rw [treeF, if_neg (by omega), if_neg h4, if_pos h5, h]
theorem treeF_n {l : List Int} {cl : Int} {d nv j : Nat} {a lf k a2 : Int} {ks : List Fm} (hk : k = pickV l a 14) (h1 : ¬ lf - 1 < 3) (h2 : ¬ (l.length : Int) < a + 1) (h3 : ¬ k < 3) (h5 : ¬ k < 7) (hj : (j : Int) = pickV l (a + 1) 6) (hn : nv = [2, 2, 2, 3, 1, 0].getD j 0)
    (h : kidsG (treeF l cl d) (lf - 1) (a + 1 + 1) nv = (ks, a2)) : treeF l cl (d + 1) a lf = (.mk (4 + k % 2) 0 [] ks, a2) := by
  subst hk hn; rw [treeF, if_neg (by omega), if_neg (by omega), if_neg h5, ← hj, Int.toNat_natCast, h]
theorem kidsG_step {T : Int → Int → Fm × Int} {lf a at1 at2 : Int} {m : Nat} {ks : List Fm} {f : Fm} (h : kidsG T lf a m = (ks, at1)) (h2 : T at1 (lf - (sumN Fm.size ks : Nat)) = (f, at2)) : kidsG T lf a (m + 1) = (ks ++ [f], at2) := by
  rw [kidsG, h]; simp only []; rw [h2]
abbrev TreeQ (w : World) (g : Nat) (l : List Int) (vl : Value) (at' cl lf : Int) (d : Nat) : Ending → World → Prop := TreeP w g vl at' cl lf fun f a2 => (SzP lf f.size ∧ f.deep ≤ max 1 (d + 1)) ∧ Hid (treeF l cl d at' lf = (f, a2))
theorem sumN_app (ks : List Fm) (f : Fm) : sumN Fm.size (ks ++ [f]) = sumN Fm.size ks + f.size := by
  induction ks with
  | nil => simp [sumN]
  | cons x xs ih => simp only [List.cons_append, sumN, ih]; omega
theorem whole_ao {cl op : Int} {ks : List Fm} (h : 4 ≤ op ∧ op ≤ 5) (hk : ∀ x ∈ ks, wholeN cl x = true) : wholeN cl (.mk op 0 [] ks) = true := by
  have hf : formed1 (.mk op 0 [] ks) = true := by
    rcases (show op = 4 ∨ op = 5 by omega) with rfl | rfl <;> simp [formed1, Fm.op, Fm.n, Fm.inn, Fm.kids]
  rw [wholeN_eq, hf, Bool.true_and]
  have h1 : ¬ op = 1 := by omega
  simpa [Fm.kids, Fm.op, h1] using hk
set_option maxRecDepth 100000 in
set_option maxHeartbeats 8000000 in
theorem tree_c {Hl : PH} (l : List Int) (vl : Value) (g : Nat) (cl : Int) (hr : IntsR Hl vl l) (hg : Hl g = none) (hc0 : 0 < cl) (hc1 : cl ≤ 64) (d : Nat) : d ≤ 7 → ∀ (at' lf : Int) (w : World), PLe Hl (ph w) → Own w g (mkA vl at' cl lf) 88 → 0 ≤ at' → at' + 4 * lf ≤ 400000 → -1000 ≤ lf → lf ≤ 100 →
    Calls Tryz.prog 38 #[.pointer (some ⟨g, 0, none⟩), .int .i64 ((d : Int) + 1)] w (TreeQ w g l vl at' cl lf d) := by
  obtain ⟨xa, xc, rfl, hll, hr⟩ := hr.form
  induction d using Nat.strongRecOn with
  | ind d ih =>
    intro hd at' lf w hl ho h0 h1 h2 h3
    obtain ⟨kc, kf⟩ := ho.facts
    have k3 : _ = some (Value.int .i64 lf) := kc 3
    have f3 := kf 3
    have hgl := ho.lt
    have hG0 := ((MemG.start ho).set 3 (.int .i64 (lf - 1))).step (fun w0 _ m => m.new' zeroFa 30 (n := w.heap.size) (by simp))
    simp only [List.setIfInBounds_toArray, List.set_cons_succ, List.set_cons_zero, List.nil_append] at hG0
    have hgg : w.grownBy (w.setCell ⟨g, 3, none⟩ (.int .i64 (lf - 1))) (some g) := ⟨rfl, rfl, rfl, by simp, fun k hk hn => Below.heap_setCell _ _ _ _ (fun e => hn (by rw [e]))⟩
    have hl0 := (hl.grownG hgg hg).trans (Ext.ple (Ext.new _ (.cells zeroFa 30)))
    clear kc kf hgg
    go_enter Tryz.func38, Tryz.ntmps38
    go_wp2_with fail
    generalize (w.setCell _ _).alloc _ = W at *
    clear k3 f3 hgl
    refine (mnext_c l _ g at' cl (lf - 1) 14 W hl0 hr hg hG0.own h0 (by omega) (by omega) (by omega)).mono ?_
    rintro e w1 ⟨k, rfl, hkv, hk0, hk1, hgr, ho1⟩
    replace hkv := Lib.hid hkv
    have hG1 := hG0.call hgr ho1
    have hl1 := hl0.grownG hgr hg
    clear hG0 hl0 hgr
    obtain ⟨kc, -⟩ := ho1.facts
    have k0 : _ = some (Value.slice xa l.length xc) := kc 0
    have k1 : _ = some (Value.int .i64 (at' + 1)) := kc 1
    have k3 : _ = some (Value.int .i64 (lf - 1)) := kc 3
    have hgl := ho1.lt
    clear kc
    generalize up noH W w1 = H1 at hG1
    replace ih := Lib.hid ih
    by_cases d1 : d = 0
    · have hdj : Hid (treeF l cl d at' lf = leafF l cl (at' + 1)) := Lib.hid (treeF_leaf (Or.inl d1))
      subst d1
      skip
      go_wp2_with fail
      (refine wp_region_I 25 (by kernel_rfl) (by kernel_rfl) ?_; simp only [List.toList_toArray, List.take_succ_cons, List.take_zero, List.drop_succ_cons, List.drop_zero])
      (repeat (first | (refine walkI_no rfl (by simp) rfl rfl rfl ?_ ?_; (focus (simp [undef]; done)); (try simp only [List.nil_append, List.cons_append])) | (refine wiA rfl (by simp) rfl ?_; (try simp only [List.nil_append, List.cons_append])) | (refine wyA rfl (by simp) rfl rfl rfl ?_; (try simp only [List.nil_append, List.cons_append]))))
      (refine walkI_nil ?_; simp only [List.nil_append, List.cons_append, fins, Is, forall_eq, Act.put, List.setIfInBounds_toArray, List.set_cons_zero, List.set_cons_succ])
      intro w2 hx2
      have hG2 := hG1.step (fun w0 _ m => m.ext hx2)
      have ho2 := ho1.keep hx2
      go_wp2_with fail
      refine (leaf_c l _ g (at' + 1) cl (lf - 1) w2 (hl1.trans hx2.ple) hr hg ho2 (by omega) (by omega) hc0 hc1).mono ?_
      rintro e w3 ⟨f, a3, c3, at2, rfl, hF, hwf, hkd, hgr, ho3, g1, g2, g3⟩
      replace g3 := Lib.hid g3
      have hG3 := hG2.call hgr ho3
      have hF3 := mono_FmR _ _ _ _ (up_mono (noH_le H1)) hF
      have ob := hG3.box 0 rfl
      obtain ⟨uc, uf⟩ := ob.facts
      have ul := ob.lt
      have q0' : _ = some (Value.int .i64 0) := uc 0
      have q1' : _ = some (Value.int .i64 0) := uc 1
      have q2' : _ = some (Value.slice none 0 0) := uc 2
      have q3' : _ = some (Value.slice none 0 0) := uc 3
      have hG4 := hG3.set4 0 rfl (.int .i64 f.op) (.int .i64 f.n) (.slice a3 f.inn.length c3) (.slice none 0 0)
      simp only [List.set_cons_zero] at hG4
      have hkl : f.kids.length = 0 := by rw [hkd]; rfl
      have hsz := size_leaf' hkd
      have hdp := deep_leaf hkd
      clear uc hG1 hG2 hG3
      go_wp2_with fail
      generalize ((((w3.setCell _ _).setCell _ _).setCell _ _).setCell _ _) = w9 at *
      obtain ⟨q, -⟩ := (hG4.box 0 rfl).facts
      have q0 : _ = some (Value.int .i64 f.op) := q 0
      have q1 : _ = some (Value.int .i64 f.n) := q 1
      have q2 : _ = some (Value.slice a3 f.inn.length c3) := q 2
      have q3 : _ = some (Value.slice none 0 0) := q 3
      refine bodyPost_ret (v := .agg #[.int .i64 f.op, .int .i64 f.n, .slice a3 f.inn.length c3, .slice none 0 0]) (by simp [results, Tryz.results38, go_sem, q0, q1, q2, q3]) rfl ?_
      exact ⟨f, a3, c3, none, 0, at2, by rw [fmV, hkl], mono_FmR _ _ _ _ hG4.ub (by have h := hF3; unfold fmC at h ⊢; rw [hkl] at h ⊢; exact h), hwf, ⟨⟨by rw [hsz]; exact szP_1 _, by omega⟩, Lib.hid (by rw [hdj.out]; exact g3.out)⟩, hG4.grown, by rw [hsz]; exact hG4.own, by omega, by omega⟩
    have b1 : decide ((d : Int) + 1 ≤ 1) = false := by simp; omega
    by_cases c2 : lf - 1 < 3
    · have hdj : Hid (treeF l cl d at' lf = leafF l cl (at' + 1)) := Lib.hid (treeF_leaf (Or.inr (Or.inl c2)))
      have b2 : decide (lf - 1 < 3) = true := by simpa using c2
      skip
      go_wp2_with fail
      (refine wp_region_I 25 (by kernel_rfl) (by kernel_rfl) ?_; simp only [List.toList_toArray, List.take_succ_cons, List.take_zero, List.drop_succ_cons, List.drop_zero])
      (repeat (first | (refine walkI_no rfl (by simp) rfl rfl rfl ?_ ?_; (focus (simp [undef]; done)); (try simp only [List.nil_append, List.cons_append])) | (refine wiA rfl (by simp) rfl ?_; (try simp only [List.nil_append, List.cons_append])) | (refine wyA rfl (by simp) rfl rfl rfl ?_; (try simp only [List.nil_append, List.cons_append]))))
      (refine walkI_nil ?_; simp only [List.nil_append, List.cons_append, fins, Is, forall_eq, Act.put, List.setIfInBounds_toArray, List.set_cons_zero, List.set_cons_succ])
      intro w2 hx2
      have hG2 := hG1.step (fun w0 _ m => m.ext hx2)
      have ho2 := ho1.keep hx2
      go_wp2_with fail
      refine (leaf_c l _ g (at' + 1) cl (lf - 1) w2 (hl1.trans hx2.ple) hr hg ho2 (by omega) (by omega) hc0 hc1).mono ?_
      rintro e w3 ⟨f, a3, c3, at2, rfl, hF, hwf, hkd, hgr, ho3, g1, g2, g3⟩
      replace g3 := Lib.hid g3
      have hG3 := hG2.call hgr ho3
      have hF3 := mono_FmR _ _ _ _ (up_mono (noH_le H1)) hF
      have ob := hG3.box 0 rfl
      obtain ⟨uc, uf⟩ := ob.facts
      have ul := ob.lt
      have q0' : _ = some (Value.int .i64 0) := uc 0
      have q1' : _ = some (Value.int .i64 0) := uc 1
      have q2' : _ = some (Value.slice none 0 0) := uc 2
      have q3' : _ = some (Value.slice none 0 0) := uc 3
      have hG4 := hG3.set4 0 rfl (.int .i64 f.op) (.int .i64 f.n) (.slice a3 f.inn.length c3) (.slice none 0 0)
      simp only [List.set_cons_zero] at hG4
      have hkl : f.kids.length = 0 := by rw [hkd]; rfl
      have hsz := size_leaf' hkd
      have hdp := deep_leaf hkd
      clear uc hG1 hG2 hG3
      go_wp2_with fail
      generalize ((((w3.setCell _ _).setCell _ _).setCell _ _).setCell _ _) = w9 at *
      obtain ⟨q, -⟩ := (hG4.box 0 rfl).facts
      have q0 : _ = some (Value.int .i64 f.op) := q 0
      have q1 : _ = some (Value.int .i64 f.n) := q 1
      have q2 : _ = some (Value.slice a3 f.inn.length c3) := q 2
      have q3 : _ = some (Value.slice none 0 0) := q 3
      refine bodyPost_ret (v := .agg #[.int .i64 f.op, .int .i64 f.n, .slice a3 f.inn.length c3, .slice none 0 0]) (by simp [results, Tryz.results38, go_sem, q0, q1, q2, q3]) rfl ?_
      exact ⟨f, a3, c3, none, 0, at2, by rw [fmV, hkl], mono_FmR _ _ _ _ hG4.ub (by have h := hF3; unfold fmC at h ⊢; rw [hkl] at h ⊢; exact h), hwf, ⟨⟨by rw [hsz]; exact szP_1 _, by omega⟩, Lib.hid (by rw [hdj.out]; exact g3.out)⟩, hG4.grown, by rw [hsz]; exact hG4.own, by omega, by omega⟩
    have b2 : decide (lf - 1 < 3) = false := by simpa using c2
    by_cases c3 : (l.length : Int) < at' + 1
    · have hdj : Hid (treeF l cl d at' lf = leafF l cl (at' + 1)) := Lib.hid (treeF_leaf (Or.inr (Or.inr (Or.inl c3))))
      have b3 : decide ((l.length : Int) < at' + 1) = true := by simpa using c3
      skip
      go_wp2_with fail
      (refine wp_region_I 25 (by kernel_rfl) (by kernel_rfl) ?_; simp only [List.toList_toArray, List.take_succ_cons, List.take_zero, List.drop_succ_cons, List.drop_zero])
      (repeat (first | (refine walkI_no rfl (by simp) rfl rfl rfl ?_ ?_; (focus (simp [undef]; done)); (try simp only [List.nil_append, List.cons_append])) | (refine wiA rfl (by simp) rfl ?_; (try simp only [List.nil_append, List.cons_append])) | (refine wyA rfl (by simp) rfl rfl rfl ?_; (try simp only [List.nil_append, List.cons_append]))))
      (refine walkI_nil ?_; simp only [List.nil_append, List.cons_append, fins, Is, forall_eq, Act.put, List.setIfInBounds_toArray, List.set_cons_zero, List.set_cons_succ])
      intro w2 hx2
      have hG2 := hG1.step (fun w0 _ m => m.ext hx2)
      have ho2 := ho1.keep hx2
      go_wp2_with fail
      refine (leaf_c l _ g (at' + 1) cl (lf - 1) w2 (hl1.trans hx2.ple) hr hg ho2 (by omega) (by omega) hc0 hc1).mono ?_
      rintro e w3 ⟨f, a3, c3, at2, rfl, hF, hwf, hkd, hgr, ho3, g1, g2, g3⟩
      replace g3 := Lib.hid g3
      have hG3 := hG2.call hgr ho3
      have hF3 := mono_FmR _ _ _ _ (up_mono (noH_le H1)) hF
      have ob := hG3.box 0 rfl
      obtain ⟨uc, uf⟩ := ob.facts
      have ul := ob.lt
      have q0' : _ = some (Value.int .i64 0) := uc 0
      have q1' : _ = some (Value.int .i64 0) := uc 1
      have q2' : _ = some (Value.slice none 0 0) := uc 2
      have q3' : _ = some (Value.slice none 0 0) := uc 3
      have hG4 := hG3.set4 0 rfl (.int .i64 f.op) (.int .i64 f.n) (.slice a3 f.inn.length c3) (.slice none 0 0)
      simp only [List.set_cons_zero] at hG4
      have hkl : f.kids.length = 0 := by rw [hkd]; rfl
      have hsz := size_leaf' hkd
      have hdp := deep_leaf hkd
      clear uc hG1 hG2 hG3
      go_wp2_with fail
      generalize ((((w3.setCell _ _).setCell _ _).setCell _ _).setCell _ _) = w9 at *
      obtain ⟨q, -⟩ := (hG4.box 0 rfl).facts
      have q0 : _ = some (Value.int .i64 f.op) := q 0
      have q1 : _ = some (Value.int .i64 f.n) := q 1
      have q2 : _ = some (Value.slice a3 f.inn.length c3) := q 2
      have q3 : _ = some (Value.slice none 0 0) := q 3
      refine bodyPost_ret (v := .agg #[.int .i64 f.op, .int .i64 f.n, .slice a3 f.inn.length c3, .slice none 0 0]) (by simp [results, Tryz.results38, go_sem, q0, q1, q2, q3]) rfl ?_
      exact ⟨f, a3, c3, none, 0, at2, by rw [fmV, hkl], mono_FmR _ _ _ _ hG4.ub (by have h := hF3; unfold fmC at h ⊢; rw [hkl] at h ⊢; exact h), hwf, ⟨⟨by rw [hsz]; exact szP_1 _, by omega⟩, Lib.hid (by rw [hdj.out]; exact g3.out)⟩, hG4.grown, by rw [hsz]; exact hG4.own, by omega, by omega⟩
    have b3 : decide ((l.length : Int) < at' + 1) = false := by simpa using c3
    by_cases c4 : k < 3
    · have hdj : Hid (treeF l cl d at' lf = leafF l cl (at' + 1)) := Lib.hid (treeF_leaf (Or.inr (Or.inr (Or.inr (by rw [← hkv.out]; exact c4)))))
      have b4 : decide (k < 3) = true := by simpa using c4
      skip
      go_wp2_with fail
      (refine wp_region_I 25 (by kernel_rfl) (by kernel_rfl) ?_; simp only [List.toList_toArray, List.take_succ_cons, List.take_zero, List.drop_succ_cons, List.drop_zero])
      (repeat (first | (refine walkI_no rfl (by simp) rfl rfl rfl ?_ ?_; (focus (simp [undef]; done)); (try simp only [List.nil_append, List.cons_append])) | (refine wiA rfl (by simp) rfl ?_; (try simp only [List.nil_append, List.cons_append])) | (refine wyA rfl (by simp) rfl rfl rfl ?_; (try simp only [List.nil_append, List.cons_append]))))
      (refine walkI_nil ?_; simp only [List.nil_append, List.cons_append, fins, Is, forall_eq, Act.put, List.setIfInBounds_toArray, List.set_cons_zero, List.set_cons_succ])
      intro w2 hx2
      have hG2 := hG1.step (fun w0 _ m => m.ext hx2)
      have ho2 := ho1.keep hx2
      go_wp2_with fail
      refine (leaf_c l _ g (at' + 1) cl (lf - 1) w2 (hl1.trans hx2.ple) hr hg ho2 (by omega) (by omega) hc0 hc1).mono ?_
      rintro e w3 ⟨f, a3, c3, at2, rfl, hF, hwf, hkd, hgr, ho3, g1, g2, g3⟩
      replace g3 := Lib.hid g3
      have hG3 := hG2.call hgr ho3
      have hF3 := mono_FmR _ _ _ _ (up_mono (noH_le H1)) hF
      have ob := hG3.box 0 rfl
      obtain ⟨uc, uf⟩ := ob.facts
      have ul := ob.lt
      have q0' : _ = some (Value.int .i64 0) := uc 0
      have q1' : _ = some (Value.int .i64 0) := uc 1
      have q2' : _ = some (Value.slice none 0 0) := uc 2
      have q3' : _ = some (Value.slice none 0 0) := uc 3
      have hG4 := hG3.set4 0 rfl (.int .i64 f.op) (.int .i64 f.n) (.slice a3 f.inn.length c3) (.slice none 0 0)
      simp only [List.set_cons_zero] at hG4
      have hkl : f.kids.length = 0 := by rw [hkd]; rfl
      have hsz := size_leaf' hkd
      have hdp := deep_leaf hkd
      clear uc hG1 hG2 hG3
      go_wp2_with fail
      generalize ((((w3.setCell _ _).setCell _ _).setCell _ _).setCell _ _) = w9 at *
      obtain ⟨q, -⟩ := (hG4.box 0 rfl).facts
      have q0 : _ = some (Value.int .i64 f.op) := q 0
      have q1 : _ = some (Value.int .i64 f.n) := q 1
      have q2 : _ = some (Value.slice a3 f.inn.length c3) := q 2
      have q3 : _ = some (Value.slice none 0 0) := q 3
      refine bodyPost_ret (v := .agg #[.int .i64 f.op, .int .i64 f.n, .slice a3 f.inn.length c3, .slice none 0 0]) (by simp [results, Tryz.results38, go_sem, q0, q1, q2, q3]) rfl ?_
      exact ⟨f, a3, c3, none, 0, at2, by rw [fmV, hkl], mono_FmR _ _ _ _ hG4.ub (by have h := hF3; unfold fmC at h ⊢; rw [hkl] at h ⊢; exact h), hwf, ⟨⟨by rw [hsz]; exact szP_1 _, by omega⟩, Lib.hid (by rw [hdj.out]; exact g3.out)⟩, hG4.grown, by rw [hsz]; exact hG4.own, by omega, by omega⟩
    have b4 : decide (k < 3) = false := by simpa using c4
    go_wp2_with fail
    (refine wp_region_I 25 (by kernel_rfl) (by kernel_rfl) ?_; simp only [List.toList_toArray, List.take_succ_cons, List.take_zero, List.drop_succ_cons, List.drop_zero])
    (repeat (first | (refine walkI_no rfl (by simp) rfl rfl rfl ?_ ?_; (focus (simp [undef]; done)); (try simp only [List.nil_append, List.cons_append])) | (refine wiA rfl (by simp) rfl ?_; (try simp only [List.nil_append, List.cons_append])) | (refine wyA rfl (by simp) rfl rfl rfl ?_; (try simp only [List.nil_append, List.cons_append]))))
    (refine walkI_nil ?_; simp only [List.nil_append, List.cons_append, fins, Is, forall_eq, Act.put, List.setIfInBounds_toArray, List.set_cons_zero, List.set_cons_succ])
    intro w2 hx2
    have hG2 := hG1.step (fun w0 _ m => m.ext hx2)
    have ho2 := ho1.keep hx2
    have hl2 := hl1.trans hx2.ple
    clear hG1 ho1 hl1 k0 k1 k3 hgl b1 b2 b3 b4 hx2
    obtain ⟨e, rfl⟩ : ∃ e, d = e + 1 := ⟨d - 1, by omega⟩
    by_cases k5 : k < 5
    · have b5 : decide (k < 5) = true := by simpa using k5
      go_wp2_with fail
      refine (ih.out e (by omega) (by omega) (at' + 1) (lf - 1) w2 hl2 ho2 (by omega) (by omega) (by omega) (by omega)).mono ?_
      rintro e' w3 ⟨f, a3, c3, a4, c4, at2, rfl, hF, hwf, ⟨⟨hs, hdp⟩, htr⟩, hgr, ho3, g1, g2⟩
      have hG3 := hG2.call hgr ho3
      have hF3 := mono_FmR _ _ _ _ (up_mono (noH_le H1)) hF
      generalize up H1 w2 w3 = H3 at *
      have ob := hG3.box 0 rfl
      obtain ⟨uc, uf⟩ := ob.facts
      have ul := ob.lt
      have q0' : _ = some (Value.int .i64 0) := uc 0
      have q1' : _ = some (Value.int .i64 0) := uc 1
      have q2' : _ = some (Value.slice none 0 0) := uc 2
      have q3' : _ = some (Value.slice none 0 0) := uc 3
      clear uc
      have hG4 := (hG3.set4 0 rfl (.int .i64 3) (.int .i64 0) (.slice none 0 0) (.slice (some ⟨w3.heap.size, 0, none⟩) 1 1)).step (fun w0 _ m => m.new' #[.int .i64 f.op, .int .i64 f.n, .slice a3 f.inn.length c3, .slice a4 f.kids.length c4] 30 (n := w3.heap.size) (by simp))
      simp only [List.set_cons_zero, List.cons_append, List.nil_append] at hG4
      have hG5 := hG4.step (fun w0 _ m => m.asOwn 1 rfl mono_FmR (sz := 4) (xs := [f]) (n := 1) (by simp) (by simp [maxLen]) rfl ⟨_, [], rfl, rfl, hF3, rfl⟩)
      simp only [List.set_cons_zero, List.set_cons_succ] at hG5
      obtain ⟨H6, hl6, hG6, hR6⟩ := hG5.freezeS 1 rfl
      simp only [List.set_cons_zero, List.set_cons_succ] at hG6
      clear hG3 hG4 hG5
      go_wp2_with fail
      generalize World.alloc _ _ = w9 at *
      obtain ⟨q, -⟩ := (hG6.box 0 rfl).facts
      have q0 : _ = some (Value.int .i64 3) := q 0
      have q1 : _ = some (Value.int .i64 0) := q 1
      have q2 : _ = some (Value.slice none 0 0) := q 2
      have q3 : _ = some (Value.slice (some ⟨w3.heap.size, 0, none⟩) 1 1) := q 3
      refine bodyPost_ret (v := .agg #[.int .i64 3, .int .i64 0, .slice none 0 0, .slice (some ⟨w3.heap.size, 0, none⟩) 1 1]) (by simp [results, Tryz.results38, go_sem, q0, q1, q2, q3]) rfl ?_
      refine ⟨.mk 3 0 [] [f], none, 0, some ⟨w3.heap.size, 0, none⟩, 1, at2, rfl, mono_FmR _ _ _ _ hG6.ub (FmR.of (by simp [Fm.op, I64]) (by simp [Fm.n, I64]) (SliceRep.nil _ _ _) hR6), by rw [wholeN_eq]; simp [Fm.kids, Fm.op, hwf, formed1_mk], ⟨⟨?_, ?_⟩, Lib.hid (treeF_3 hkv.out (by omega) (by omega) (by omega) (by omega) htr.out)⟩, hG6.grown, ?_, by omega, ?_⟩
      · rw [size_mk]; simp only [sumN]; unfold SzP at *; omega
      · rw [deep_mk]; simp only [maxN]; omega
      · rw [size_mk]; simp only [sumN]; have h := hG6.own; rwa [show lf - ((1 + (f.size + 0) : Nat) : Int) = lf - 1 - f.size by omega]
      · rw [size_mk]; simp only [sumN]; omega
    have b5 : decide (k < 5) = false := by simpa using k5
    by_cases k7 : k < 7
    · have b7 : decide (k < 7) = true := by simpa using k7
      go_wp2_with fail
      refine (ih.out e (by omega) (by omega) (at' + 1) (lf - 1) w2 hl2 ho2 (by omega) (by omega) (by omega) (by omega)).mono ?_
      rintro e' w3 ⟨f, a3, c3, a4, c4, at2, rfl, hF, hwf, ⟨⟨hs, hdp⟩, htr⟩, hgr, ho3, g1, g2⟩
      have hG3 := hG2.call hgr ho3
      have hF3 := mono_FmR _ _ _ _ (up_mono (noH_le H1)) hF
      generalize up H1 w2 w3 = H3 at *
      go_wp2_with fail
      refine (not7_c f a3 c3 a4 c4 w3 hG3.ple hF3).mono ?_
      rintro e' w4 ⟨bb, rfl, hx4, hF4⟩
      replace hG3 := hG3.step (fun w0 _ m => m.up hx4)
      have ob := hG3.box 0 rfl
      obtain ⟨uc, uf⟩ := ob.facts
      have ul := ob.lt
      have q0' : _ = some (Value.int .i64 0) := uc 0
      have q1' : _ = some (Value.int .i64 0) := uc 1
      have q2' : _ = some (Value.slice none 0 0) := uc 2
      have q3' : _ = some (Value.slice none 0 0) := uc 3
      clear uc
      have hG6 := hG3.set4 0 rfl (.int .i64 6) (.int .i64 0) (.slice none 0 0) (.slice (some ⟨bb, 0, none⟩) 1 1)
      simp only [List.set_cons_zero] at hG6
      clear hG3
      go_wp2_with fail
      generalize World.setCell _ _ _ = w9 at *
      obtain ⟨q, -⟩ := (hG6.box 0 rfl).facts
      have q0 : _ = some (Value.int .i64 6) := q 0
      have q1 : _ = some (Value.int .i64 0) := q 1
      have q2 : _ = some (Value.slice none 0 0) := q 2
      have q3 : _ = some (Value.slice (some ⟨bb, 0, none⟩) 1 1) := q 3
      refine bodyPost_ret (v := .agg #[.int .i64 6, .int .i64 0, .slice none 0 0, .slice (some ⟨bb, 0, none⟩) 1 1]) (by simp [results, Tryz.results38, go_sem, q0, q1, q2, q3]) rfl ?_
      refine ⟨.mk 6 0 [] [f], none, 0, some ⟨bb, 0, none⟩, 1, at2, rfl, mono_FmR _ _ _ _ hG6.ub hF4, by rw [wholeN_eq]; simp [Fm.kids, Fm.op, hwf, formed1_mk], ⟨⟨?_, ?_⟩, Lib.hid (treeF_6 hkv.out (by omega) (by omega) (by omega) (by omega) (by omega) htr.out)⟩, hG6.grown, ?_, by omega, ?_⟩
      · rw [size_mk]; simp only [sumN]; unfold SzP at *; omega
      · rw [deep_mk]; simp only [maxN]; omega
      · rw [size_mk]; simp only [sumN]; have h := hG6.own; rwa [show lf - ((1 + (f.size + 0) : Nat) : Int) = lf - 1 - f.size by omega]
      · rw [size_mk]; simp only [sumN]; omega
    have b7 : decide (k < 7) = false := by simpa using k7
    have hop : 4 ≤ 4 + k % 2 ∧ 4 + k % 2 ≤ 5 := by omega
    have hG3 := ((hG2.step (fun w0 _ m => (m.new #[.int .i64 (4 + k % 2), .int .i64 0, .slice none 0 0, .slice none 0 0] 30))).step (fun w0 _ m => m.nil mono_FmR 4 30)).step (fun w0 _ m => m.ext (Ext.new _ (.cells #[.int .i64 2, .int .i64 2, .int .i64 2, .int .i64 3, .int .i64 1, .int .i64 0] 3)))
    simp only [List.cons_append, List.nil_append] at hG3
    have hli : Own ((w2.alloc (.cells #[.int .i64 (4 + k % 2), .int .i64 0, .slice none 0 0, .slice none 0 0] 30)).alloc (.cells #[.int .i64 2, .int .i64 2, .int .i64 2, .int .i64 3, .int .i64 1, .int .i64 0] 3)) (w2.heap.size + 1) #[.int .i64 2, .int .i64 2, .int .i64 2, .int .i64 3, .int .i64 1, .int .i64 0] 3 := oE
    have hl3 := hl2.trans (Ext.ple (show Ext w2 ((w2.alloc (.cells #[.int .i64 (4 + k % 2), .int .i64 0, .slice none 0 0, .slice none 0 0] 30)).alloc (.cells #[.int .i64 2, .int .i64 2, .int .i64 2, .int .i64 3, .int .i64 1, .int .i64 0] 3)) from xE))
    have hgw := hG2.lt
    have hgw2 := hG2.size
    clear hG2 ho2 hl2
    go_wp2_with fail
    generalize hB : w2.heap.size = B at *
    generalize World.alloc _ _ = W3 at *
    refine (mnext_c l _ g (at' + 1) cl (lf - 1) 6 W3 hl3 hr hg hG3.own (by omega) (by omega) (by omega) (by omega)).mono ?_
    rintro e' w5 ⟨qq, rfl, hqv, hq0, hq1, hgr, ho5⟩
    replace hqv := Lib.hid hqv
    have hG5 := hG3.call hgr ho5
    have hl5 := hl3.grownG hgr hg
    replace hli := hli.grown hgr (by intro hh; cases hh; omega)
    clear hG3 hl3 hgr ho5
    obtain ⟨j, rfl⟩ : ∃ j : Nat, qq = j := ⟨qq.toNat, by omega⟩
    obtain ⟨nv, hnv, hnj, hcn⟩ : ∃ nv : Nat, nv ≤ 3 ∧ Hid (nv = [2, 2, 2, 3, 1, 0].getD j 0) ∧ w5.cell? ⟨B + 1, j, none⟩ = some (.int .i64 nv) := by
      rw [hli.facts.1 j]
      match j, hq1 with
      | 0, _ => exact ⟨2, by omega, Lib.hid rfl, rfl⟩
      | 1, _ => exact ⟨2, by omega, Lib.hid rfl, rfl⟩
      | 2, _ => exact ⟨2, by omega, Lib.hid rfl, rfl⟩
      | 3, _ => exact ⟨3, by omega, Lib.hid rfl, rfl⟩
      | 4, _ => exact ⟨1, by omega, Lib.hid rfl, rfl⟩
      | 5, _ => exact ⟨0, by omega, Lib.hid rfl, rfl⟩
    have hcl := cell_lt hcn
    have hj6 : j < 6 := by omega
    clear hli hq0 hq1
    go_wp2_with fail
    go_loopw [8] (fun i wr => ∃ (m : Nat) (kv : Value) (H : PH) (ks : List Fm) (atm : Int), m ≤ nv ∧ i = .int .i64 m ∧ ks.length = m ∧ MemG w g (mkA (.slice xa l.length xc) atm cl (lf - 1 - (sumN Fm.size ks : Nat))) 88 [box w.heap.size zeroFa 30, box B #[.int .i64 (4 + k % 2), .int .i64 0, .slice none 0 0, kv] 30, own mono_FmR 4 30 kv ks] H wr ∧
      KsP lf m (sumN Fm.size ks) ∧ (∀ f ∈ ks, wholeN cl f = true ∧ f.deep ≤ max 1 (e + 1)) ∧ at' + 1 + 1 ≤ atm ∧ atm ≤ at' + 1 + 1 + 4 * (sumN Fm.size ks : Nat) ∧ PLe Hl (ph wr) ∧ Hid (kidsG (treeF l cl e) (lf - 1) (at' + 1 + 1) m = (ks, atm))) (fun i _ => nv - (intOf i).toNat)
    case atStart => exact ⟨0, _, _, [], at' + 1 + 1, Nat.zero_le _, rfl, rfl, by simpa [sumN] using hG5, by unfold KsP; simp [sumN], by simp, by omega, by simp [sumN], hl5, Lib.hid rfl⟩
    case round =>
      obtain ⟨m, kv, H, ks, atm, hm, rfl, hkl, hGm, hKs, hall, ha0, ha1, hlm, hkg⟩ := hrel
      replace hkl := Lib.hid hkl
      obtain ⟨ka, kk, rfl, -⟩ := hGm.form 2 rfl
      have hb := ksP_bd hKs (by omega) h3
      by_cases hlt : m < nv
      · obtain ⟨kc, kf⟩ := (hGm.box 1 rfl).facts
        have k3 : _ = some (Value.slice ka ks.length kk) := kc 3
        have f3 := kf 3
        have hgl := (hGm.box 1 rfl).lt
        clear kc kf hG5 hcn
        go_wp2_with fail
        refine wp_region_any (by kernel_rfl) ?_
        change wpAny _ _ _ _ _ _ _ (World.drew _)
        replace hGm := hGm.step (fun w0 _ m => m.ext (Ext.rfl' wr).drew')
        replace hlm : PLe Hl (ph wr.drew) := hlm
        have hwe : IntKind.i64.wrap ((e : Int) + 1) = (e : Int) + 1 := by rw [IntKind.wrap_i64]; omega
        refine wpAny_take (i := 0) rfl tA tA tA (fun _ _ _ h => h) (Or.inl ⟨by rfl, yA⟩) ?_; try simp only [Act.put, List.setIfInBounds_toArray, List.set_cons_zero, List.set_cons_succ]
        refine wpAny_take (i := 2) rfl tA tA tA (fun _ _ _ h => h) (Or.inl ⟨by rfl, yA⟩) ?_; try simp only [Act.put, List.setIfInBounds_toArray, List.set_cons_zero, List.set_cons_succ]
        refine wpAny_take (i := 3) rfl tA tA tA (fun _ _ _ h => h) (Or.inl ⟨by rfl, yA⟩) ?_; try simp only [Act.put, List.setIfInBounds_toArray, List.set_cons_zero, List.set_cons_succ]
        refine wpAny_take (i := 4) rfl tA tA tA (fun _ _ _ h => h) (Or.inl ⟨by rfl, yA⟩) ?_; try simp only [Act.put, List.setIfInBounds_toArray, List.set_cons_zero, List.set_cons_succ]
        refine wpAny_ready (rs := [1, 5]) (by kernel_rfl) (by simp) ?_
        refine AllReady.cons rfl (fun K hK => ?_) (AllReady.cons rfl (fun K hK => ?_) AllReady.nil)
        · go_simp
          refine hK _ _ ?_
          clear hK K
          refine wpAny_ready (rs := [5]) (by kernel_rfl) (by simp) ?_; refine AllReady.cons rfl (fun K hK => ?_) AllReady.nil
          go_simp
          refine (ih.out e (by omega) (by omega) atm (lf - 1 - (sumN Fm.size ks : Nat)) _ hlm hGm.own (by omega) (by omega) (by omega) (by omega)).mono ?_
          rintro e' w4 ⟨f, a3, c3, a4, c4, at2, rfl, hF, hwf, ⟨⟨hs, hdp⟩, htr⟩, hgr, ho4, g1, g2⟩
          refine hK _ _ ?_
          clear hK K
          replace hlm := hlm.grownG hgr hg
          replace hGm := hGm.call hgr ho4
          have hF4 := mono_FmR _ _ _ _ (up_mono (noH_le H)) hF
          generalize up H _ w4 = H4 at hGm hF4
          obtain ⟨kc, kf⟩ := (hGm.box 1 rfl).facts
          have k3 : _ = some (Value.slice ka ks.length kk) := kc 3
          have f3 := kf 3
          have hgl := (hGm.box 1 rfl).lt
          clear kc kf hgr ho4 hF
          (refine wpAny_ready (rs := [6]) (by kernel_rfl) (by simp) ?_; refine AllReady.cons rfl (fun K hK => ?_) AllReady.nil; go_simp; refine hK _ _ ?_; clear hK K)
          have hGa := hGm.step (fun w0 _ m => m.ext (Ext.new w4 (.cells #[.int .i64 f.op, .int .i64 f.n, .slice a3 f.inn.length c3, .slice a4 f.kids.length c4] 30)))
          have hS := Src.lit1 (E := FmR) (H := H4) (w := w4.alloc (.cells #[.int .i64 f.op, .int .i64 f.n, .slice a3 f.inn.length c3, .slice a4 f.kids.length c4] 30)) (b := w4.heap.size) (sz := 4) hF4 rfl (fun j => by rw [(Own.new w4 #[.int .i64 f.op, .int .i64 f.n, .slice a3 f.inn.length c3, .slice a4 f.kids.length c4] 30).facts.1 j]; simp [fmC])
          obtain ⟨w0, z1, z2, z3, z4, z5⟩ := hGa
          refine wpAny_ready (rs := [7]) (by kernel_rfl) (by simp) ?_; refine AllReady.cons rfl (fun K hK => ?_) AllReady.nil
          refine oper_append_M (hm := mono_FmR) (v := .slice ka ks.length kk) (xs := ks) (ys := [f]) 2 _ _ 28 rfl Tryz.underlying28 infoFm rfl rfl rfl z4 rfl hS one_FmR (by have := hkl.out; simp; omega) (by have := hkl.out; simp; omega) ?_
          intro v' w6 hM6 hgr6
          refine hK _ _ ?_
          clear hK K
          have hG6 := MemG.re z1 z2 z3 z4 z5 hM6
          try simp only [List.set_cons_succ, List.set_cons_zero] at hG6 hM6
          obtain ⟨na, nc, rfl, -⟩ := hM6.form 2 rfl
          clear z1 z3 z4 z5 hM6 hS hGm
          obtain ⟨uc, uf⟩ := (hG6.box 1 rfl).facts
          have uf3 := uf 3
          have uc3 : _ = some (Value.slice ka ks.length kk) := uc 3
          have ul := (hG6.box 1 rfl).lt
          have hG7 := hG6.step (fun w0 _ m => m.set 1 rfl 3 (.slice na (ks ++ [f]).length nc))
          simp only [List.set_cons_succ, List.set_cons_zero, List.setIfInBounds_toArray] at hG7
          have hl7 := hl.grownG hG7.grown hg
          rw [show (ks ++ [f]).length = ks.length + 1 by simp] at hG7 hl7
          clear uc uf hG6
          refine wpAny_take (i := 8) rfl tA tA tA (fun _ _ _ h => h) (Or.inl ⟨by rfl, yA⟩) ?_; try simp only [Act.put, List.setIfInBounds_toArray, List.set_cons_zero, List.set_cons_succ]
          (refine wpAny_ready (rs := [9]) (by kernel_rfl) (by simp) ?_; refine AllReady.cons rfl (fun K hK => ?_) AllReady.nil; go_simp; refine hK _ _ ?_; clear hK K)
          refine wpAny_done (by kernel_rfl) ?_ _
          try simp only [List.getElem_toArray, List.getElem_cons_succ, List.getElem_cons_zero, Act.put, List.setIfInBounds_toArray, List.set_cons_zero, List.set_cons_succ]
          go_wp2_with fail
          go_roundw
          case rel =>
            have hsum : sumN Fm.size (ks ++ [f]) = sumN Fm.size ks + f.size := sumN_app ks f
            refine ⟨m + 1, .slice na (ks.length + 1) nc, H4, ks ++ [f], at2, by omega, by go_num, by simp [hkl.out], ?_, ?_, ?_, by omega, by omega, hl7, Lib.hid (kidsG_step hkg.out htr.out)⟩
            · rw [hsum]
              rwa [show lf - 1 - ((sumN Fm.size ks + f.size : Nat) : Int) = lf - 1 - (sumN Fm.size ks : Nat) - f.size by omega]
            · rw [hsum]; exact ksP_step hKs hs
            · intro x hx
              rcases List.mem_append.1 hx with hx | hx
              · exact hall x hx
              · rw [List.mem_singleton.1 hx]; exact ⟨hwf, hdp⟩
          case measure => simp [intOf]; omega
        · skip
          go_simp
          refine (ih.out e (by omega) (by omega) atm (lf - 1 - (sumN Fm.size ks : Nat)) _ hlm hGm.own (by omega) (by omega) (by omega) (by omega)).mono ?_
          rintro e' w4 ⟨f, a3, c3, a4, c4, at2, rfl, hF, hwf, ⟨⟨hs, hdp⟩, htr⟩, hgr, ho4, g1, g2⟩
          refine hK _ _ ?_
          clear hK K
          replace hlm := hlm.grownG hgr hg
          replace hGm := hGm.call hgr ho4
          have hF4 := mono_FmR _ _ _ _ (up_mono (noH_le H)) hF
          generalize up H _ w4 = H4 at hGm hF4
          obtain ⟨kc, kf⟩ := (hGm.box 1 rfl).facts
          have k3 : _ = some (Value.slice ka ks.length kk) := kc 3
          have f3 := kf 3
          have hgl := (hGm.box 1 rfl).lt
          clear kc kf hgr ho4 hF
          refine wpAny_ready (rs := [1, 6]) (by kernel_rfl) (by simp) ?_
          refine AllReady.cons rfl (fun K hK => ?_) (AllReady.cons rfl (fun K hK => ?_) AllReady.nil)
          · go_simp
            refine hK _ _ ?_
            clear hK K
            (refine wpAny_ready (rs := [6]) (by kernel_rfl) (by simp) ?_; refine AllReady.cons rfl (fun K hK => ?_) AllReady.nil; go_simp; refine hK _ _ ?_; clear hK K)
            have hGa := hGm.step (fun w0 _ m => m.ext (Ext.new w4 (.cells #[.int .i64 f.op, .int .i64 f.n, .slice a3 f.inn.length c3, .slice a4 f.kids.length c4] 30)))
            have hS := Src.lit1 (E := FmR) (H := H4) (w := w4.alloc (.cells #[.int .i64 f.op, .int .i64 f.n, .slice a3 f.inn.length c3, .slice a4 f.kids.length c4] 30)) (b := w4.heap.size) (sz := 4) hF4 rfl (fun j => by rw [(Own.new w4 #[.int .i64 f.op, .int .i64 f.n, .slice a3 f.inn.length c3, .slice a4 f.kids.length c4] 30).facts.1 j]; simp [fmC])
            obtain ⟨w0, z1, z2, z3, z4, z5⟩ := hGa
            refine wpAny_ready (rs := [7]) (by kernel_rfl) (by simp) ?_; refine AllReady.cons rfl (fun K hK => ?_) AllReady.nil
            refine oper_append_M (hm := mono_FmR) (v := .slice ka ks.length kk) (xs := ks) (ys := [f]) 2 _ _ 28 rfl Tryz.underlying28 infoFm rfl rfl rfl z4 rfl hS one_FmR (by have := hkl.out; simp; omega) (by have := hkl.out; simp; omega) ?_
            intro v' w6 hM6 hgr6
            refine hK _ _ ?_
            clear hK K
            have hG6 := MemG.re z1 z2 z3 z4 z5 hM6
            try simp only [List.set_cons_succ, List.set_cons_zero] at hG6 hM6
            obtain ⟨na, nc, rfl, -⟩ := hM6.form 2 rfl
            clear z1 z3 z4 z5 hM6 hS hGm
            obtain ⟨uc, uf⟩ := (hG6.box 1 rfl).facts
            have uf3 := uf 3
            have uc3 : _ = some (Value.slice ka ks.length kk) := uc 3
            have ul := (hG6.box 1 rfl).lt
            have hG7 := hG6.step (fun w0 _ m => m.set 1 rfl 3 (.slice na (ks ++ [f]).length nc))
            simp only [List.set_cons_succ, List.set_cons_zero, List.setIfInBounds_toArray] at hG7
            have hl7 := hl.grownG hG7.grown hg
            rw [show (ks ++ [f]).length = ks.length + 1 by simp] at hG7 hl7
            clear uc uf hG6
            refine wpAny_take (i := 8) rfl tA tA tA (fun _ _ _ h => h) (Or.inl ⟨by rfl, yA⟩) ?_; try simp only [Act.put, List.setIfInBounds_toArray, List.set_cons_zero, List.set_cons_succ]
            (refine wpAny_ready (rs := [9]) (by kernel_rfl) (by simp) ?_; refine AllReady.cons rfl (fun K hK => ?_) AllReady.nil; go_simp; refine hK _ _ ?_; clear hK K)
            refine wpAny_done (by kernel_rfl) ?_ _
            try simp only [List.getElem_toArray, List.getElem_cons_succ, List.getElem_cons_zero, Act.put, List.setIfInBounds_toArray, List.set_cons_zero, List.set_cons_succ]
            go_wp2_with fail
            go_roundw
            case rel =>
              have hsum : sumN Fm.size (ks ++ [f]) = sumN Fm.size ks + f.size := sumN_app ks f
              refine ⟨m + 1, .slice na (ks.length + 1) nc, H4, ks ++ [f], at2, by omega, by go_num, by simp [hkl.out], ?_, ?_, ?_, by omega, by omega, hl7, Lib.hid (kidsG_step hkg.out htr.out)⟩
              · rw [hsum]
                rwa [show lf - 1 - ((sumN Fm.size ks + f.size : Nat) : Int) = lf - 1 - (sumN Fm.size ks : Nat) - f.size by omega]
              · rw [hsum]; exact ksP_step hKs hs
              · intro x hx
                rcases List.mem_append.1 hx with hx | hx
                · exact hall x hx
                · rw [List.mem_singleton.1 hx]; exact ⟨hwf, hdp⟩
            case measure => simp [intOf]; omega
          · go_simp
            refine hK _ _ ?_
            clear hK K
            (refine wpAny_ready (rs := [1]) (by kernel_rfl) (by simp) ?_; refine AllReady.cons rfl (fun K hK => ?_) AllReady.nil; go_simp; refine hK _ _ ?_; clear hK K)
            have hGa := hGm.step (fun w0 _ m => m.ext (Ext.new w4 (.cells #[.int .i64 f.op, .int .i64 f.n, .slice a3 f.inn.length c3, .slice a4 f.kids.length c4] 30)))
            have hS := Src.lit1 (E := FmR) (H := H4) (w := w4.alloc (.cells #[.int .i64 f.op, .int .i64 f.n, .slice a3 f.inn.length c3, .slice a4 f.kids.length c4] 30)) (b := w4.heap.size) (sz := 4) hF4 rfl (fun j => by rw [(Own.new w4 #[.int .i64 f.op, .int .i64 f.n, .slice a3 f.inn.length c3, .slice a4 f.kids.length c4] 30).facts.1 j]; simp [fmC])
            obtain ⟨w0, z1, z2, z3, z4, z5⟩ := hGa
            refine wpAny_ready (rs := [7]) (by kernel_rfl) (by simp) ?_; refine AllReady.cons rfl (fun K hK => ?_) AllReady.nil
            refine oper_append_M (hm := mono_FmR) (v := .slice ka ks.length kk) (xs := ks) (ys := [f]) 2 _ _ 28 rfl Tryz.underlying28 infoFm rfl rfl rfl z4 rfl hS one_FmR (by have := hkl.out; simp; omega) (by have := hkl.out; simp; omega) ?_
            intro v' w6 hM6 hgr6
            refine hK _ _ ?_
            clear hK K
            have hG6 := MemG.re z1 z2 z3 z4 z5 hM6
            try simp only [List.set_cons_succ, List.set_cons_zero] at hG6 hM6
            obtain ⟨na, nc, rfl, -⟩ := hM6.form 2 rfl
            clear z1 z3 z4 z5 hM6 hS hGm
            obtain ⟨uc, uf⟩ := (hG6.box 1 rfl).facts
            have uf3 := uf 3
            have uc3 : _ = some (Value.slice ka ks.length kk) := uc 3
            have ul := (hG6.box 1 rfl).lt
            have hG7 := hG6.step (fun w0 _ m => m.set 1 rfl 3 (.slice na (ks ++ [f]).length nc))
            simp only [List.set_cons_succ, List.set_cons_zero, List.setIfInBounds_toArray] at hG7
            have hl7 := hl.grownG hG7.grown hg
            rw [show (ks ++ [f]).length = ks.length + 1 by simp] at hG7 hl7
            clear uc uf hG6
            refine wpAny_take (i := 8) rfl tA tA tA (fun _ _ _ h => h) (Or.inl ⟨by rfl, yA⟩) ?_; try simp only [Act.put, List.setIfInBounds_toArray, List.set_cons_zero, List.set_cons_succ]
            (refine wpAny_ready (rs := [9]) (by kernel_rfl) (by simp) ?_; refine AllReady.cons rfl (fun K hK => ?_) AllReady.nil; go_simp; refine hK _ _ ?_; clear hK K)
            refine wpAny_done (by kernel_rfl) ?_ _
            try simp only [List.getElem_toArray, List.getElem_cons_succ, List.getElem_cons_zero, Act.put, List.setIfInBounds_toArray, List.set_cons_zero, List.set_cons_succ]
            go_wp2_with fail
            go_roundw
            case rel =>
              have hsum : sumN Fm.size (ks ++ [f]) = sumN Fm.size ks + f.size := sumN_app ks f
              refine ⟨m + 1, .slice na (ks.length + 1) nc, H4, ks ++ [f], at2, by omega, by go_num, by simp [hkl.out], ?_, ?_, ?_, by omega, by omega, hl7, Lib.hid (kidsG_step hkg.out htr.out)⟩
              · rw [hsum]
                rwa [show lf - 1 - ((sumN Fm.size ks + f.size : Nat) : Int) = lf - 1 - (sumN Fm.size ks : Nat) - f.size by omega]
              · rw [hsum]; exact ksP_step hKs hs
              · intro x hx
                rcases List.mem_append.1 hx with hx | hx
                · exact hall x hx
                · rw [List.mem_singleton.1 hx]; exact ⟨hwf, hdp⟩
            case measure => simp [intOf]; omega
      · have hmn : m = nv := by omega
        obtain ⟨kc, kf⟩ := (hGm.box 1 rfl).facts
        have q0' : _ = some (Value.int .i64 (4 + k % 2)) := kc 0
        have q1' : _ = some (Value.int .i64 0) := kc 1
        have q2' : _ = some (Value.slice none 0 0) := kc 2
        have q3' : _ = some (Value.slice ka ks.length kk) := kc 3
        have hgl := (hGm.box 1 rfl).lt
        obtain ⟨uc, uf⟩ := (hGm.box 0 rfl).facts
        have u0' : _ = some (Value.int .i64 0) := uc 0
        have u1' : _ = some (Value.int .i64 0) := uc 1
        have u2' : _ = some (Value.slice none 0 0) := uc 2
        have u3' : _ = some (Value.slice none 0 0) := uc 3
        have ul := (hGm.box 0 rfl).lt
        clear kc kf uc hG5 hcn
        have hG8 := hGm.set4 0 rfl (.int .i64 (4 + k % 2)) (.int .i64 0) (.slice none 0 0) (.slice ka ks.length kk)
        simp only [List.set_cons_zero] at hG8
        obtain ⟨H9, hp9, hG9, hks⟩ := hG8.freezeS 2 rfl
        clear hG8
        go_wp2_with fail
        generalize ((((wr.setCell _ _).setCell _ _).setCell _ _).setCell _ _) = w9 at *
        obtain ⟨q, -⟩ := (hG9.box 0 rfl).facts
        have q0 : _ = some (Value.int .i64 (4 + k % 2)) := q 0
        have q1 : _ = some (Value.int .i64 0) := q 1
        have q2 : _ = some (Value.slice none 0 0) := q 2
        have q3 : _ = some (Value.slice ka ks.length kk) := q 3
        refine bodyPost_ret (v := .agg #[.int .i64 (4 + k % 2), .int .i64 0, .slice none 0 0, .slice ka ks.length kk]) (by simp [results, Tryz.results38, go_sem, q0, q1, q2, q3]) rfl ?_
        have hsz := size_mk (4 + k % 2) 0 [] ks
        have hdp := deep_mk (4 + k % 2) 0 [] ks
        have hmx : maxN Fm.deep ks ≤ max 1 (e + 1) := maxN_le fun x hx => (hall x hx).2
        exact ⟨.mk (4 + k % 2) 0 [] ks, none, 0, ka, kk, atm, rfl, mono_FmR _ _ _ _ hG9.ub (FmR.of (by simp [Fm.op, I64]; omega) (by simp [Fm.n, I64]) (SliceRep.nil _ _ _) hks), whole_ao hop (fun x hx => (hall x hx).1), ⟨⟨by rw [hsz]; exact szP_of hKs (by omega) (by omega), by omega⟩, Lib.hid (treeF_n hkv.out (by omega) (by omega) (by omega) (by omega) hqv.out hnj.out (hmn ▸ hkg.out))⟩, hG9.grown, by rw [hsz]; have h := hG9.own; rwa [show lf - 1 - ((sumN Fm.size ks : Nat) : Int) = lf - ((1 + sumN Fm.size ks : Nat) : Int) by omega] at h, by omega, by omega⟩
end Go.Proofs.YtabajghokhfmhaaGreat
namespace Go.Proofs.YtabajghokhfmhaaGreat
open Go.RowKit
structure Val where
  attr : Int
  n : Rat2
  deriving DecidableEq
inductive Thing where
  | mk (cls : List Int) (vals : List Val) (parts : List Thing)
def Thing.cls : Thing → List Int | .mk c _ _ => c
def Thing.vals : Thing → List Val | .mk _ v _ => v
def Thing.parts : Thing → List Thing | .mk _ _ p => p
end Go.Proofs.YtabajghokhfmhaaGreat
namespace Go.Proofs.YtabajghokhfmhaaGreat
open Go.RowKit
def getVal (l : List Val) (k : Int) : Option Rat2 := (l.find? (·.attr == k)).map (·.n)
end Go.Proofs.YtabajghokhfmhaaGreat
namespace Go.Proofs.YtabajghokhfmhaaGreat
open Go.RowKit
end Go.Proofs.YtabajghokhfmhaaGreat
namespace Go.Proofs.YtabajghokhfmhaaGreat
open Go.RowKit Go.Shelf
end Go.Proofs.YtabajghokhfmhaaGreat

namespace Go.Proofs.YtabajghokhfmhaaGreat
open Go.RowKit Go.Shelf
def hasL (l : List Itv) (r : Rat2) : Bool := decide (RatOk r) && l.any fun x => goodB x && hasB x r
end Go.Proofs.YtabajghokhfmhaaGreat
namespace Go.Proofs.YtabajghokhfmhaaGreat
open Go.RowKit
section
variable {w0 : World} {H0 : PH} {K : List (Nat × Array Value)} {H : PH} {w : World} {g : Nat} {v1 v2 v3 : Value} {c : List Int} {v : List Val} {p : List Thing}
end
end Go.Proofs.YtabajghokhfmhaaGreat
namespace Go.Proofs.YtabajghokhfmhaaGreat
open Go.RowKit Go.Shelf
theorem Mem.callB {w0 w w' : World} {H0 H : PH} {L : List Chunk} (h : Mem w0 H0 L H w) (i : Nat) {b : Nat} {c c' : Array Value} {T : TypeId} (hi : L[i]? = some (Proofs.YtabajghokhfmhaaGreat.box b c T)) (e : w.grownBy w' (some b)) (ho : Own w' b c' T) :
    Mem w0 H0 (L.set i (Proofs.YtabajghokhfmhaaGreat.box b c' T)) (Proofs.YtabajghokhfmhaaGreat.up H w w') w' := by
  have hlt : b < w.heap.size := (h.box i hi).lt
  have hge : w0.heap.size ≤ b := (h.fr i _ hi b rfl).1
  have hlt' := ho.lt
  have hb : ∀ k, b ≠ k → (w.heap.setIfInBounds b w'.heap[b])[k]? = w.heap[k]? := fun k hk => Array.getElem?_setIfInBounds_ne hk
  have h1 : Mem w0 H0 (L.set i (Proofs.YtabajghokhfmhaaGreat.box b c' T)) H { w with heap := w.heap.setIfInBounds b w'.heap[b] } := by
    refine h.put i hi (c' := Proofs.YtabajghokhfmhaaGreat.box b c' T) ?_ (fun k hk => .inl hk) ⟨h.ex.os, h.ex.tape, h.ex.output, by simpa using h.ex.size, fun k hk => ?_⟩ fun k hk hn => hb k (fun hh => hn (by rw [← hh]; rfl))
    · show Own _ b c' T
      unfold Own at *
      show (w.heap.setIfInBounds b w'.heap[b])[b]? = _
      rw [Array.getElem?_setIfInBounds_self_of_lt hlt, ← ho]; simp [hlt']
    · show (w.heap.setIfInBounds b w'.heap[b])[k]? = _
      rw [hb k (by omega)]; exact h.ex.block k hk
  have h2 := h1.up (w' := w') ⟨e.os, e.tape, e.output, by simpa using e.size, fun k hk => ?_⟩
  · have hu : Proofs.YtabajghokhfmhaaGreat.up H { w with heap := w.heap.setIfInBounds b w'.heap[b] } w' = Proofs.YtabajghokhfmhaaGreat.up H w w' := by
      unfold Proofs.YtabajghokhfmhaaGreat.up; simp
    rwa [hu] at h2
  · show w'.heap[k]? = (w.heap.setIfInBounds b w'.heap[b])[k]?
    by_cases hk' : b = k
    · subst hk'; rw [Array.getElem?_setIfInBounds_self_of_lt hlt]; simp [hlt']
    · rw [hb k hk']; exact e.block k (by simpa using hk) (fun hh => hk' (Option.some.inj hh).symm)
def SomeN (w : World) (cl lf : Int) (d : Nat) (e : Ending) (w' : World) : Prop :=
  ∃ f a3 c3 a4 c4, e = .returned (fmV f a3 c3 a4 c4) ∧ FmR (up noH w w') (fmC f a3 c3 a4 c4) f ∧ wholeN cl f = true ∧ (SzP lf f.size ∧ f.deep ≤ max 1 (d + 1)) ∧ Ext w w'
def SomeF (w : World) (l : List Int) (cl lf : Int) (d : Nat) (e : Ending) (w' : World) : Prop :=
  ∃ f a3 c3 a4 c4, e = .returned (fmV f a3 c3 a4 c4) ∧ FmR (up noH w w') (fmC f a3 c3 a4 c4) f ∧ wholeN cl f = true ∧ (SzP lf f.size ∧ f.deep ≤ max 1 (d + 1)) ∧ Ext w w' ∧ Hid ((treeF l cl d 0 lf).1 = f)
set_option maxRecDepth 100000 in
theorem some07F_c {Hl : PH} (l : List Int) (vl : Value) (cl lf : Int) (d : Nat) (w : World) (hl : PLe Hl (ph w)) (hr : IntsR Hl vl l) (hc0 : 0 < cl) (hc1 : cl ≤ 64) (hd : d ≤ 7) (h0 : 0 ≤ lf) (h1 : lf ≤ 100) :
    Calls Tryz.prog 10 #[vl, .int .i64 cl, .int .i64 lf, .int .i64 ((d : Int) + 1)] w (SomeF w l cl lf d) := by
  obtain ⟨xa, xc, rfl, hll, hr⟩ := hr.form
  have hM := ((Mem.start w Hl hl).new' zeroFa 30 (n := w.heap.size) (by simp)).new' (mkA (.slice xa l.length xc) 0 cl lf) 88 (n := w.heap.size + 1) (by simp)
  have hN := ((Mem.start w noH (noH_le _)).new' zeroFa 30 (n := w.heap.size) (by simp)).new' (mkA (.slice xa l.length xc) 0 cl lf) 88 (n := w.heap.size + 1) (by simp)
  simp only [List.cons_append, List.nil_append] at hM hN
  go_enter Tryz.func10, Tryz.ntmps10
  go_wp2_with fail
  change Calls _ _ _ ((w.alloc (.cells zeroFa 30)).alloc (.cells (mkA (.slice xa l.length xc) 0 cl lf) 88)) _
  generalize World.alloc _ _ = W at *
  refine (tree_c l _ (w.heap.size + 1) cl hr (hM.fr 1 _ rfl _ rfl).2 hc0 hc1 d hd 0 lf W hM.ple (hM.box 1 rfl) (by omega) (by omega) (by omega) h1).mono ?_
  rintro e w1 ⟨f, a3, c3, a4, c4, at2, rfl, hF, hwf, ⟨hP, htr⟩, hgr, ho1, g1, g2⟩
  have hM1 := hN.callB 1 rfl hgr ho1
  simp only [List.set_cons_succ, List.set_cons_zero] at hM1
  generalize up noH W w1 = H1 at *
  have ob := hM1.box 0 rfl
  obtain ⟨uc, uf⟩ := ob.facts
  have ul := ob.lt
  have q0' : _ = some (Value.int .i64 0) := uc 0
  have q1' : _ = some (Value.int .i64 0) := uc 1
  have q2' : _ = some (Value.slice none 0 0) := uc 2
  have q3' : _ = some (Value.slice none 0 0) := uc 3
  have hM2 := hM1.set4 0 rfl (.int .i64 f.op) (.int .i64 f.n) (.slice a3 f.inn.length c3) (.slice a4 f.kids.length c4)
  simp only [List.set_cons_zero] at hM2
  clear uc hM hN hM1 hgr ho1
  go_wp2_with fail
  generalize ((((w1.setCell _ _).setCell _ _).setCell _ _).setCell _ _) = w9 at *
  obtain ⟨q, -⟩ := (hM2.box 0 rfl).facts
  have q0 : _ = some (Value.int .i64 f.op) := q 0
  have q1 : _ = some (Value.int .i64 f.n) := q 1
  have q2 : _ = some (Value.slice a3 f.inn.length c3) := q 2
  have q3 : _ = some (Value.slice a4 f.kids.length c4) := q 3
  refine bodyPost_ret (v := .agg #[.int .i64 f.op, .int .i64 f.n, .slice a3 f.inn.length c3, .slice a4 f.kids.length c4]) (by simp [results, Tryz.results10, go_sem, q0, q1, q2, q3]) rfl ?_
  exact ⟨f, a3, c3, a4, c4, rfl, mono_FmR _ _ _ _ hM2.ub hF, hwf, hP, hM2.ex, Lib.hid (by rw [htr.out])⟩
theorem some07_n {Hl : PH} (l : List Int) (vl : Value) (cl lf : Int) (d : Nat) (w : World) (hl : PLe Hl (ph w)) (hr : IntsR Hl vl l) (hc0 : 0 < cl) (hc1 : cl ≤ 64) (hd : d ≤ 7) (h0 : 0 ≤ lf) (h1 : lf ≤ 100) :
    Calls Tryz.prog 10 #[vl, .int .i64 cl, .int .i64 lf, .int .i64 ((d : Int) + 1)] w (SomeN w cl lf d) :=
  (some07F_c l vl cl lf d w hl hr hc0 hc1 hd h0 h1).mono fun e w' ⟨f, a3, c3, a4, c4, e1, e2, e3, e4, e5, _⟩ => ⟨f, a3, c3, a4, c4, e1, e2, e3, e4, e5⟩
end Go.Proofs.YtabajghokhfmhaaGreat
namespace Go.Proofs.YtabajghokhfmhaaGreat
open Go.RowKit Go.Shelf
section
variable {α : Type} {E : PH → List Value → α → Prop} {sz : Nat} {h : PH} {b : Nat}
end
def clsF (n : Int) : Fm := .mk 1 n [] []
theorem clsF_R (H : PH) {n : Int} (hn : I64 n) : FmR H (fmC (clsF n) none 0 none 0) (clsF n) := FmR.of (by simp [clsF, Fm.op, I64]) (by simpa [clsF, Fm.n] using hn) (SliceRep.nil _ _ _) (SliceRep.nil _ _ _)
mutual
noncomputable def hold (ps : List (List Int)) : Fm → Thing → Bool
  | .mk op n inn kids, t =>
    if op = 1 then t.cls.any fun c => B (isTx ps c n)
    else if op = 2 then (match getVal t.vals n with | some r => hasL inn r | none => false)
    else if op = 3 then t.parts.any fun p => holdFst ps kids p
    else if op = 4 then holdAll ps kids t
    else if op = 5 then holdAny ps kids t
    else if op = 6 then !holdFst ps kids t
    else true
noncomputable def holdAll (ps : List (List Int)) : List Fm → Thing → Bool
  | [], _ => true
  | f :: l, t => hold ps f t && holdAll ps l t
noncomputable def holdAny (ps : List (List Int)) : List Fm → Thing → Bool
  | [], _ => false
  | f :: l, t => hold ps f t || holdAny ps l t
noncomputable def holdFst (ps : List (List Int)) : List Fm → Thing → Bool
  | [], _ => false
  | f :: _, t => hold ps f t
end
theorem containsFm_P {H : PH} (fid : Nat) (cap : Array Value) (vs : Value) (xs : List Fm) (hv : FmsR H vs xs) (p : Fm → Bool) (w : World) (hH : PLe H (ph w))
    (hfn : ∀ args w, (callFunc fid args).run Tryz.prog w = .ok (.enter fid args) w)
    (hf : ∀ x ∈ xs, ∀ wr cs, Ext w wr → FmR H cs x → Calls Tryz.prog fid (#[.agg cs.toArray] ++ cap) wr (RetV wr (.bool (p x)))) :
    Calls Tryz.prog 67 #[vs, .func (.func fid) #[] cap] w (RetV w (.bool (xs.any p))) := by
  refine (containsFunc_J fid cap vs xs hv (fun k wr => Ext w wr ∧ ∀ x ∈ xs.take k, p x = false) (fun wr => Ext w wr ∧ xs.any p = true) w hfn (fun k hk wr cs hR hE => ?_) (fun k wr hR => hH.trans hR.1.ple) ⟨Ext.rfl' _, by simp⟩).mono ?_
  · refine (hf _ (List.getElem_mem hk) wr cs hR.1 hE).mono ?_
    rintro e w1 ⟨rfl, hx⟩
    cases hp : p xs[k] with
    | true => exact .inr ⟨rfl, hR.1.then hx, List.any_eq_true.2 ⟨_, List.getElem_mem hk, hp⟩⟩
    | false =>
      refine .inl ⟨rfl, hR.1.then hx, fun x hxm => ?_⟩
      rw [List.take_succ_eq_append_getElem hk] at hxm
      rcases List.mem_append.1 hxm with h | h
      · exact hR.2 x h
      · rw [List.mem_singleton.1 h]; exact hp
  · rintro e w1 (⟨rfl, hx, h1⟩ | ⟨rfl, hx, h1⟩)
    · rw [List.take_length] at h1
      have : xs.any p = false := by
        rw [List.any_eq_false]; intro x hx; simp [h1 x hx]
      exact ⟨by rw [this], hx⟩
    · exact ⟨by rw [h1], hx⟩
end Go.Proofs.YtabajghokhfmhaaGreat
namespace Go.Proofs.YtabajghokhfmhaaGreat
open Go.RowKit Go.Shelf
end Go.Proofs.YtabajghokhfmhaaGreat
namespace Go.Proofs.YtabajghokhfmhaaGreat
open Go.RowKit Go.Shelf
end Go.Proofs.YtabajghokhfmhaaGreat
namespace Go.Proofs.YtabajghokhfmhaaGreat
open Go.RowKit
section
variable {ps : List (List Int)} {t : Thing}
end
end Go.Proofs.YtabajghokhfmhaaGreat
namespace Go.Proofs.YtabajghokhfmhaaGreat
open Go.RowKit Go.Shelf
def insF (f : Fm) : List Fm → List Fm
  | [] => [f]
  | x :: xs => if fcmpJ x f < 0 then x :: insF f xs else if x = f then x :: xs else f :: x :: xs
def ascF (l : List Fm) : Prop := l.Pairwise fun x y => fcmpJ x y < 0
theorem insF_mem {f y : Fm} : ∀ {l : List Fm}, y ∈ insF f l ↔ y = f ∨ y ∈ l
  | [] => by simp [insF]
  | x :: xs => by
    rw [insF]
    split
    · rw [List.mem_cons, insF_mem, List.mem_cons]
      constructor
      · rintro (h | h | h) <;> simp [h]
      · rintro (h | h | h) <;> simp [h]
    · split
      · rename_i h; subst h; simp
      · simp
theorem insF_asc {f : Fm} : ∀ {l : List Fm}, ascF l → ascF (insF f l)
  | [], _ => by simp [insF, ascF]
  | x :: xs, h => by
    have h1 : ∀ y ∈ xs, fcmpJ x y < 0 := (List.pairwise_cons.1 h).1
    have h2 : ascF xs := (List.pairwise_cons.1 h).2
    rw [insF]
    split
    · rename_i hx
      refine List.pairwise_cons.2 ⟨fun y hy => ?_, insF_asc h2⟩
      rcases insF_mem.1 hy with rfl | hy
      · exact hx
      · exact h1 y hy
    · split
      · exact h
      · rename_i hx hne
        have hlt : fcmpJ f x < 0 := by
          have e := fcmpJ_neg x f
          have n0 : fcmpJ x f ≠ 0 := fun e => hne (fcmpJ_0.1 e)
          omega
        refine List.pairwise_cons.2 ⟨fun y hy => ?_, h⟩
        rcases List.mem_cons.1 hy with rfl | hy
        · exact hlt
        · exact fcmpJ_lt hlt (by have := h1 y hy; omega)
theorem fold_mem {y : Fm} : ∀ {l acc : List Fm}, y ∈ l.foldl (fun out f => insF f out) acc ↔ y ∈ acc ∨ y ∈ l
  | [], acc => by simp
  | x :: xs, acc => by
    rw [List.foldl_cons, fold_mem, insF_mem, List.mem_cons]
    constructor
    · rintro ((h | h) | h) <;> simp [h]
    · rintro (h | h | h) <;> simp [h]
theorem fold_asc : ∀ {l acc : List Fm}, ascF acc → ascF (l.foldl (fun out f => insF f out) acc)
  | [], _, h => h
  | x :: xs, acc, h => by rw [List.foldl_cons]; exact fold_asc (insF_asc h)
theorem asc_uniq : ∀ {l m : List Fm}, ascF l → ascF m → (∀ x, x ∈ l ↔ x ∈ m) → l = m
  | [], [], _, _, _ => rfl
  | [], y :: m, _, _, h => by have := (h y).2 (by simp); simp at this
  | x :: l, [], _, _, h => by have := (h x).1 (by simp); simp at this
  | x :: l, y :: m, h1, h2, h => by
    obtain ⟨a1, a2⟩ := List.pairwise_cons.1 h1
    obtain ⟨b1, b2⟩ := List.pairwise_cons.1 h2
    have hxy : x = y := by
      rcases List.mem_cons.1 ((h x).1 (by simp)) with e | e
      · exact e
      · rcases List.mem_cons.1 ((h y).2 (by simp)) with e' | e'
        · exact e'.symm
        · have c1 := b1 x e
          have c2 := a1 y e'
          have := fcmpJ_neg x y
          omega
    subst hxy
    have irr : ∀ z : Fm, ¬ fcmpJ z z < 0 := fun z hz => by rw [fcmpJ_0.2 rfl] at hz; omega
    rw [asc_uniq a2 b2 fun z => ?_]
    have hz := h z
    rw [List.mem_cons, List.mem_cons] at hz
    constructor
    · intro hm
      rcases hz.1 (.inr hm) with e | e
      · subst e; exact absurd (a1 z hm) (irr z)
      · exact e
    · intro hm
      rcases hz.2 (.inr hm) with e | e
      · subst e; exact absurd (b1 z hm) (irr z)
      · exact e
-- sums
-- what is formed
-- what it means
section
variable {ps : List (List Int)}
end
abbrev ownFm (v : Value) (xs : List Fm) : Chunk := own mono_FmR 4 30 v xs
theorem fmsM_row {w0 W : World} {H0 H : PH} {LB : List Chunk} {oa : Option Addr} {N oc k : Nat} {xs : List Fm} {x : Fm} (hM : Mem w0 H0 (ownFm (.slice oa N oc) xs :: LB) H W) (hk : xs[k]? = some x) :
    ∃ g a3 c3 a4 c4, oa = some ⟨g, 0, none⟩ ∧ g < W.heap.size ∧ (∀ j u, (fmC x a3 c3 a4 c4)[j]? = some u → W.cell? ⟨g, k * 4 + j, none⟩ = some u) ∧ FmR H (fmC x a3 c3 a4 c4) x := by
  obtain ⟨hkl, hkx⟩ := List.getElem?_eq_some_iff.1 hk
  obtain ⟨g, cap, cs, hv, hcs, hc, hE, hg⟩ := hM.get 0 rfl k hkl
  rw [hkx] at hE
  obtain ⟨a3, c3, a4, c4, rfl, -⟩ := hE.form
  cases hv
  refine ⟨g, a3, c3, a4, c4, rfl, hg, fun j u hu => ?_, hE⟩
  obtain ⟨hj, he⟩ := List.getElem?_eq_some_iff.1 hu
  rw [hc j (by simpa [fmC] using hj), ← he]
  simp [List.getD_eq_getElem?_getD, hj]
theorem one_fmC (x : Fm) (a3 : Option Addr) (c3 : Nat) (a4 : Option Addr) (c4 : Nat) : ∀ u ∈ fmC x a3 c3 a4 c4, u.oneCell' = true := by
  intro u hu
  simp only [fmC, List.mem_cons, List.not_mem_nil, or_false] at hu
  rcases hu with rfl | rfl | rfl | rfl <;> rfl
def OwnFP (w0 : World) (H0 : PH) (LB : List Chunk) (H : PH) (ys : List Fm) (e : Ending) (w' : World) : Prop := ∃ v', e = .returned v' ∧ Mem w0 H0 (ownFm v' ys :: LB) H w'
theorem zeroFm1 (w : World) : (zeroValue 30).run Tryz.prog w = .ok zeroFv w := by
  obtain ⟨i, hi, hz0, hz1, hz2⟩ := info_parts infoFm
  simp [zeroValue, typeInfo, hi, hz0]
def fddP : Option Fm → List Fm → List Fm
  | _, [] => []
  | d, x :: r => if d = some x then fddP (some x) r else x :: fddP (some x) r
def flastD (d : Option Fm) (l : List Fm) : Option Fm := match l.getLast? with | some x => some x | none => d
theorem flastD_cons (d : Option Fm) (x : Fm) (l : List Fm) : flastD d (x :: l) = flastD (some x) l := by
  unfold flastD
  cases l with
  | nil => rfl
  | cons y r => rw [List.getLast?_cons_cons]; cases h : (y :: r).getLast? with
    | none => simp at h
    | some z => rfl
theorem fddP_snoc (x : Fm) : ∀ (l : List Fm) (d : Option Fm), fddP d (l ++ [x]) = fddP d l ++ if flastD d l = some x then [] else [x]
  | [], d => by
    show fddP d [x] = fddP d [] ++ _
    have e : flastD d [] = d := rfl
    rw [e]
    by_cases h : d = some x
    · rw [if_pos h]; show (if d = some x then fddP (some x) [] else x :: fddP (some x) []) = _; rw [if_pos h]; rfl
    · rw [if_neg h]; show (if d = some x then fddP (some x) [] else x :: fddP (some x) []) = _; rw [if_neg h]; rfl
  | y :: r, d => by
    rw [List.cons_append, fddP, fddP, flastD_cons, fddP_snoc x r]
    split
    · rfl
    · rfl
abbrev fdd (l : List Fm) : List Fm := fddP none l
theorem fdd_take {xs : List Fm} {j : Nat} (hj : j < xs.length) (h0 : 0 < j) : fdd (xs.take (j + 1)) = fdd (xs.take j) ++ if (xs[j - 1]'(by omega)) = xs[j] then [] else [xs[j]] := by
  show fddP none _ = fddP none _ ++ _
  rw [List.take_add_one, List.getElem?_eq_getElem hj, Option.toList_some, fddP_snoc]
  congr 1
  have : flastD none (xs.take j) = some (xs[j - 1]'(by omega)) := by
    unfold flastD
    rw [List.getLast?_eq_getElem?, List.length_take, Nat.min_eq_left (by omega), List.getElem?_take_of_lt (by omega), List.getElem?_eq_getElem (by omega)]
  rw [this]
  simp only [Option.some.injEq]
def FCmpAt (xs ys : List Fm) (i j : Nat) : Prop := ys.length = xs.length ∧ i < j ∧ j ≤ xs.length ∧ ys.take i = fdd (xs.take j) ∧ ys.drop (j - 1) = xs.drop (j - 1)
theorem FCmpAt.at {xs ys : List Fm} {i j : Nat} (h : FCmpAt xs ys i j) (hj : j < xs.length) : ys[j]? = some (xs[j]) ∧ ys[j - 1]? = some (xs[j - 1]'(by omega)) := by
  obtain ⟨h1, h2, -, -, h6⟩ := h
  have e0 := congrArg (fun l => l[0]?) h6
  have e1 := congrArg (fun l => l[1]?) h6
  simp only [List.getElem?_drop] at e0 e1
  rw [show j - 1 + 1 = j by omega] at e1
  rw [Nat.add_zero] at e0
  exact ⟨e1.trans (List.getElem?_eq_getElem hj), e0.trans (List.getElem?_eq_getElem (by omega))⟩
theorem FCmpAt.skip {xs ys : List Fm} {i j : Nat} (h : FCmpAt xs ys i j) (hj : j < xs.length) (hp : (xs[j - 1]'(by omega)) = xs[j]) : FCmpAt xs ys i (j + 1) := by
  obtain ⟨h1, h2, h3, h4, h6⟩ := h
  refine ⟨h1, by omega, by omega, ?_, ?_⟩
  · rw [fdd_take hj (by omega), if_pos hp, List.append_nil]; exact h4
  · have := congrArg (List.drop 1) h6
    rw [List.drop_drop, List.drop_drop] at this
    rw [show j + 1 - 1 = j - 1 + 1 by omega]; exact this
theorem FCmpAt.keep {xs ys : List Fm} {i j : Nat} (h : FCmpAt xs ys i j) (hj : j < xs.length) (hp : (xs[j - 1]'(by omega)) ≠ xs[j]) : FCmpAt xs (ys.set i xs[j]) (i + 1) (j + 1) := by
  obtain ⟨h1, h2, h3, h4, h6⟩ := h
  refine ⟨by simpa using h1, by omega, by omega, ?_, ?_⟩
  · rw [fdd_take hj (by omega), if_neg hp, ← h4, List.take_add_one, List.take_set_of_le (Nat.le_refl _), List.getElem?_set_self (by omega)]; rfl
  · have := congrArg (List.drop 1) h6
    rw [List.drop_drop, List.drop_drop, show j - 1 + 1 = j by omega] at this
    rw [show j + 1 - 1 = j by omega, List.drop_set_of_lt (by omega)]; exact this
theorem FCmpAt.start {xs : List Fm} {i : Nat} (h0 : 0 < i) (hi : i < xs.length) (hd : fdd (xs.take i) = xs.take i) (hp : (xs[i - 1]'(by omega)) = xs[i]) : FCmpAt xs xs i (i + 1) :=
  ⟨rfl, by omega, by omega, by rw [fdd_take hi h0, if_pos hp, List.append_nil, hd], rfl⟩
theorem fdd_go {xs : List Fm} {i : Nat} (h0 : 0 < i) (hi : i < xs.length) (hd : fdd (xs.take i) = xs.take i) (hp : (xs[i - 1]'(by omega)) ≠ xs[i]) : fdd (xs.take (i + 1)) = xs.take (i + 1) := by
  rw [fdd_take hi h0, if_neg hp, hd, List.take_add_one, List.getElem?_eq_getElem hi]; rfl
theorem FCmpAt.done {xs ys : List Fm} {i : Nat} (h : FCmpAt xs ys i xs.length) : ys.take i = fdd xs := by
  rw [h.2.2.2.1, List.take_length]
end Go.Proofs.YtabajghokhfmhaaGreat
namespace Go.Proofs.YtabajghokhfmhaaGreat
structure Ordr {α : Type} (c : α → α → Int) : Prop where
  asym : ∀ x y, c x y < 0 → ¬ c y x < 0
  neg : ∀ x y z, ¬ c x y < 0 → ¬ c y z < 0 → ¬ c x z < 0
section
variable {α : Type} {c : α → α → Int}
def lx (c : α → α → Int) (p q : α × Nat) : Prop := c p.1 q.1 < 0 ∨ (¬ c q.1 p.1 < 0 ∧ p.2 < q.2)
theorem lx_trans (hc : Ordr c) {p q r : α × Nat} (h : lx c p q) (h2 : lx c q r) : lx c p r := by
  rcases h with h | ⟨h, t⟩ <;> rcases h2 with h2 | ⟨h2, t2⟩
  · left; exact Decidable.byContradiction fun h3 => hc.neg _ _ _ h3 (hc.asym _ _ h2) h
  · left; exact Decidable.byContradiction fun h3 => hc.neg _ _ _ h3 h2 h
  · left; exact Decidable.byContradiction fun h3 => hc.neg _ _ _ h h3 h2
  · right; exact ⟨hc.neg _ _ _ h2 h, by omega⟩
theorem lx_asym (hc : Ordr c) {p q : α × Nat} (h : lx c p q) : ¬ lx c q p := by
  rintro h2
  rcases h with h | ⟨h, t⟩ <;> rcases h2 with h2 | ⟨h2, t2⟩
  · exact hc.asym _ _ h h2
  · exact h2 h
  · exact h h2
  · omega
theorem lx_later {p q : α × Nat} (h : p.2 < q.2) : lx c q p ↔ c q.1 p.1 < 0 := by
  unfold lx
  exact ⟨fun h2 => by rcases h2 with h2 | ⟨-, h2⟩; exact h2; omega, .inl⟩
theorem lx_not {p q : α × Nat} (h : p.2 < q.2) (h2 : ¬ c q.1 p.1 < 0) : lx c p q := .inr ⟨h2, h⟩
def InO (c : α → α → Int) (l : List (α × Nat)) : Prop := l.Pairwise (lx c)
def Bef (l m : List (α × Nat)) : Prop := ∀ x ∈ l, ∀ y ∈ m, x.2 < y.2
theorem Bef.sub {l m l' m' : List (α × Nat)} (h : Bef l m) (h1 : ∀ x ∈ l', x ∈ l) (h2 : ∀ y ∈ m', y ∈ m) : Bef l' m' := fun x hx y hy => h x (h1 x hx) y (h2 y hy)
theorem InO.app {l m : List (α × Nat)} (h : InO c l) (h2 : InO c m) (h3 : ∀ x ∈ l, ∀ y ∈ m, lx c x y) : InO c (l ++ m) := List.pairwise_append.2 ⟨h, h2, h3⟩
theorem InO.le (hc : Ordr c) {l : List (α × Nat)} (h : InO c l) {i j : Nat} (hj : j < l.length) (hij : i < j) : lx c l[i] l[j] := (List.pairwise_iff_getElem.1 h) i j (by omega) hj hij
theorem InO.uniq (hc : Ordr c) : ∀ {l m : List (α × Nat)}, InO c l → InO c m → l.Perm m → l = m
  | [], m, _, _, hp => (List.nil_perm.1 hp).symm
  | x :: l, [], _, _, hp => by have := hp.length_eq; simp at this
  | x :: l, y :: m, h, h2, hp => by
    have hxy : x = y := by
      have h3 : x ∈ y :: m := hp.mem_iff.1 (by simp)
      have h4 : y ∈ x :: l := hp.mem_iff.2 (by simp)
      rcases List.mem_cons.1 h3 with e | h3
      · exact e
      · rcases List.mem_cons.1 h4 with e | h4
        · exact e.symm
        · exact absurd ((List.pairwise_cons.1 h2).1 x h3) (lx_asym hc ((List.pairwise_cons.1 h).1 y h4))
    subst hxy
    rw [InO.uniq hc (List.pairwise_cons.1 h).2 (List.pairwise_cons.1 h2).2 (List.perm_cons x |>.1 hp)]
theorem InO.cross (hc : Ordr c) {A1 A2 B1 B2 : List (α × Nat)} (hA : InO c (A1 ++ A2)) (hB : InO c (B1 ++ B2))
    (h1 : ∀ x y, A1.getLast? = some x → B2.head? = some y → lx c x y) (h2 : ∀ x y, B1.getLast? = some x → A2.head? = some y → lx c x y) :
    ∀ x ∈ A1 ++ B1, ∀ y ∈ A2 ++ B2, lx c x y := by
  obtain ⟨a1, a2, a3⟩ := List.pairwise_append.1 hA
  obtain ⟨b1, b2, b3⟩ := List.pairwise_append.1 hB
  have last : ∀ {l : List (α × Nat)}, InO c l → ∀ x ∈ l, ∃ z, l.getLast? = some z ∧ (x = z ∨ lx c x z) := by
    intro l hl x hx
    obtain ⟨i, hi, rfl⟩ := List.getElem_of_mem hx
    refine ⟨l[l.length - 1], by rw [List.getLast?_eq_getElem?, List.getElem?_eq_getElem], ?_⟩
    rcases Nat.lt_or_ge i (l.length - 1) with h | h
    · exact .inr (hl.le hc (by omega) h)
    · left; congr 1; omega
  have first : ∀ {l : List (α × Nat)}, InO c l → ∀ x ∈ l, ∃ z, l.head? = some z ∧ (x = z ∨ lx c z x) := by
    intro l hl x hx
    obtain ⟨i, hi, rfl⟩ := List.getElem_of_mem hx
    refine ⟨l[0], by rw [List.head?_eq_getElem?, List.getElem?_eq_getElem], ?_⟩
    rcases Nat.eq_zero_or_pos i with h | h
    · left; simp only [h]
    · exact .inr (hl.le hc hi h)
  intro x hx y hy
  rcases List.mem_append.1 hx with hx | hx <;> rcases List.mem_append.1 hy with hy | hy
  · exact a3 x hx y hy
  · obtain ⟨u, hu, hu2⟩ := last a1 x hx
    obtain ⟨v, hv, hv2⟩ := first b2 y hy
    have h := h1 u v hu hv
    rcases hu2 with rfl | hu2 <;> rcases hv2 with rfl | hv2
    · exact h
    · exact lx_trans hc h hv2
    · exact lx_trans hc hu2 h
    · exact lx_trans hc (lx_trans hc hu2 h) hv2
  · obtain ⟨u, hu, hu2⟩ := last b1 x hx
    obtain ⟨v, hv, hv2⟩ := first a2 y hy
    have h := h2 u v hu hv
    rcases hu2 with rfl | hu2 <;> rcases hv2 with rfl | hv2
    · exact h
    · exact lx_trans hc h hv2
    · exact lx_trans hc hu2 h
    · exact lx_trans hc (lx_trans hc hu2 h) hv2
  · exact b3 x hx y hy
theorem InO.insert (hc : Ordr c) {L R : List (α × Nat)} {x : α × Nat} (h : InO c (L ++ R)) (h1 : ∀ y ∈ L, lx c y x) (h2 : ∀ y ∈ R, lx c x y) : InO c (L ++ x :: R) := by
  obtain ⟨a1, a2, a3⟩ := List.pairwise_append.1 h
  refine List.pairwise_append.2 ⟨a1, List.pairwise_cons.2 ⟨h2, a2⟩, fun u hu v hv => ?_⟩
  rcases List.mem_cons.1 hv with rfl | hv
  · exact h1 u hu
  · exact a3 u hu v hv
def insR (c : α → α → Int) (x : α) : List α → List α
  | [] => [x]
  | y :: l => if c x y < 0 then x :: y :: l else y :: insR c x l
def stS (c : α → α → Int) (xs : List α) : List α := xs.foldl (fun l x => insR c x l) []
def insT (c : α → α → Int) (x : α × Nat) : List (α × Nat) → List (α × Nat)
  | [] => [x]
  | y :: l => if c x.1 y.1 < 0 then x :: y :: l else y :: insT c x l
theorem insT_fst (x : α × Nat) : ∀ l : List (α × Nat), (insT c x l).map Prod.fst = insR c x.1 (l.map Prod.fst)
  | [] => rfl
  | y :: l => by
    rw [List.map_cons]
    unfold insT insR
    split
    · next h => rw [List.map_cons, List.map_cons]
    · next h => rw [List.map_cons, insT_fst x l]
theorem insT_perm (x : α × Nat) : ∀ l : List (α × Nat), (insT c x l).Perm (x :: l)
  | [] => List.Perm.refl _
  | y :: l => by
    unfold insT
    split
    · exact List.Perm.refl _
    · exact (List.Perm.cons y (insT_perm x l)).trans (List.Perm.swap x y l)
theorem insT_in (hc : Ordr c) (x : α × Nat) : ∀ l : List (α × Nat), InO c l → (∀ y ∈ l, y.2 < x.2) → InO c (insT c x l)
  | [], _, _ => List.pairwise_singleton _ _
  | y :: l, h, ht => by
    obtain ⟨h1, h2⟩ := List.pairwise_cons.1 h
    unfold insT
    split
    · next hlt => exact List.pairwise_cons.2 ⟨fun z hz => by
        rcases List.mem_cons.1 hz with rfl | hz
        · exact .inl hlt
        · exact lx_trans hc (.inl hlt) (h1 z hz), h⟩
    · next hlt =>
      refine List.pairwise_cons.2 ⟨fun z hz => ?_, insT_in hc x l h2 fun z hz => ht z (List.mem_cons_of_mem _ hz)⟩
      rcases List.mem_cons.1 ((insT_perm x l).mem_iff.1 hz) with rfl | hz
      · exact lx_not (ht y (by simp)) hlt
      · exact h1 z hz
def stT (c : α → α → Int) (ts : List (α × Nat)) (acc : List (α × Nat)) : List (α × Nat) := ts.foldl (fun l x => insT c x l) acc
theorem stT_fst : ∀ (ts acc : List (α × Nat)), (stT c ts acc).map Prod.fst = (ts.map Prod.fst).foldl (fun l x => insR c x l) (acc.map Prod.fst)
  | [], _ => rfl
  | x :: ts, acc => by
    show (stT c ts (insT c x acc)).map Prod.fst = _
    rw [stT_fst ts (insT c x acc), insT_fst]; rfl
theorem stT_in (hc : Ordr c) : ∀ (ts acc : List (α × Nat)), InO c acc → (acc ++ ts).Pairwise (fun p q => p.2 < q.2) ∨ (∀ p ∈ acc, ∀ q ∈ ts, p.2 < q.2) ∧ ts.Pairwise (fun p q => p.2 < q.2) → InO c (stT c ts acc) ∧ (stT c ts acc).Perm (acc ++ ts)
  | [], acc, h, _ => ⟨h, by rw [List.append_nil]; exact List.Perm.refl _⟩
  | x :: ts, acc, h, ht => by
    have ht : (∀ p ∈ acc, ∀ q ∈ x :: ts, p.2 < q.2) ∧ (x :: ts).Pairwise (fun p q => p.2 < q.2) := by
      rcases ht with ht | ht
      · obtain ⟨-, a2, a3⟩ := List.pairwise_append.1 ht
        exact ⟨a3, a2⟩
      · exact ht
    obtain ⟨t1, t2⟩ := ht
    obtain ⟨t3, t4⟩ := List.pairwise_cons.1 t2
    obtain ⟨k1, k2⟩ := stT_in hc ts (insT c x acc) (insT_in hc x acc h fun y hy => t1 y hy x (by simp)) (.inr ⟨fun p hp q hq => by
      rcases List.mem_cons.1 ((insT_perm x acc).mem_iff.1 hp) with rfl | hp
      · exact t3 q hq
      · exact t1 p hp q (List.mem_cons_of_mem _ hq), t4⟩)
    refine ⟨k1, k2.trans ?_⟩
    exact ((insT_perm x acc).append_right ts).trans (List.perm_middle (a := x) (l₁ := acc) (l₂ := ts)).symm
def tag (xs : List α) : List (α × Nat) := xs.zipIdx
theorem tag_fst (xs : List α) : (tag xs).map Prod.fst = xs := by unfold tag; exact List.zipIdx_map_fst 0 xs
theorem tag_up (xs : List α) : (tag xs).Pairwise (fun p q => p.2 < q.2) := by
  rw [List.pairwise_iff_getElem]
  intro i j hi hj h
  simp only [tag, List.getElem_zipIdx]; omega
theorem stS_of (hc : Ordr c) {xs : List α} {ts : List (α × Nat)} (h : InO c ts) (hp : ts.Perm (tag xs)) : ts.map Prod.fst = stS c xs := by
  obtain ⟨k1, k2⟩ := stT_in hc (tag xs) [] List.Pairwise.nil (.inl (tag_up xs))
  have := InO.uniq hc h k1 (hp.trans (by simpa using k2.symm))
  rw [this, stT_fst, tag_fst]; rfl
theorem swap_mid {β : Type} (A B C : List β) (x y : β) : ((A ++ x :: B ++ y :: C).set A.length y).set (A.length + 1 + B.length) x = A ++ y :: B ++ x :: C := by
  rw [List.append_assoc, List.set_append_right _ _ (Nat.le_refl _), Nat.sub_self, List.cons_append, List.set_cons_zero, List.set_append_right _ _ (by omega)]
  rw [show A.length + 1 + B.length - A.length = B.length + 1 by omega, List.set_cons_succ, List.set_append_right _ _ (Nat.le_refl _), Nat.sub_self, List.set_cons_zero]
  simp
theorem swap_mid' {β : Type} (A B C : List β) (x y : β) : ((A ++ x :: B ++ y :: C).set (A.length + 1 + B.length) x).set A.length y = A ++ y :: B ++ x :: C := by
  rw [List.set_comm _ _ (by omega), swap_mid]
end
end Go.Proofs.YtabajghokhfmhaaGreat
namespace Go.Proofs.YtabajghokhfmhaaGreat
open Go.RowKit Go.Shelf
theorem Mem.row {α : Type} {E : PH → List Value → α → Prop} {hm : Mono E} {sz : Nat} {T : TypeId} {w0 w : World} {H0 H : PH} {L : List Chunk} {oa : Option Addr} {n cap k i : Nat} {xs : List α} {x : α} (h : Mem w0 H0 L H w) (hi : L[i]? = some (own hm sz T (.slice oa n cap) xs)) (hk : xs[k]? = some x) :
    ∃ g cs, oa = some ⟨g, 0, none⟩ ∧ n = xs.length ∧ g < w.heap.size ∧ cs.length = sz ∧ (∀ j u, cs[j]? = some u → w.cell? ⟨g, k * sz + j, none⟩ = some u) ∧ E H cs x := by
  obtain ⟨hkl, hkx⟩ := List.getElem?_eq_some_iff.1 hk
  obtain ⟨g, cap', cs, hv, hcs, hc, hE, hg⟩ := h.get i hi k hkl
  rw [hkx] at hE
  cases hv
  refine ⟨g, cs, rfl, rfl, hg, hcs, fun j u hu => ?_, hE⟩
  obtain ⟨hj, he⟩ := List.getElem?_eq_some_iff.1 hu
  rw [hc j (by omega), ← he]
  simp [List.getD_eq_getElem?_getD, hj]
section
variable {P : Program} {α : Type} {E : PH → List Value → α → Prop} {hm : Mono E} {sz : Nat} {T : TypeId} {w0 w : World} {H0 H : PH} {L : List Chunk} {xs : List α}
theorem oper_store_R {o : Oper} {a : Act} {K : Act → World → Prop} {Q : Exit → Act → World → Prop} (ty : TypeId) (x y : Operand) (ho : o.op = .store ty x y)
    {g n cap : Nat} (k : Nat) (hx : a.eval x = .pointer (some ⟨g, k * sz, none⟩)) {cs : List Value} (hy : a.eval y = .agg cs.toArray) {x' : α} (h : Mem w0 H0 L H w) (i : Nat) (hi : L[i]? = some (own hm sz T (.slice (some ⟨g, 0, none⟩) n cap) xs)) (hk : k < xs.length)
    (hE : E H cs x') (hcs : cs.length = sz) (hone : ∀ u ∈ cs, u.oneCell' = true) (hinfo : (P.info? ty).map (·.size) = some sz)
    (hn : ∀ w', Mem w0 H0 (L.set i (own hm sz T (.slice (some ⟨g, 0, none⟩) n cap) (xs.set k x'))) H w' → K (a.put o.dst undef) w') : o.wp P a w K Q := by
  obtain ⟨cur, hg, hc1, hc2, rfl⟩ := h.cur i hi
  have hkn : k * sz + sz ≤ cap * sz := by
    have := Nat.mul_le_mul_right sz (show k + 1 ≤ cap by omega); rw [Nat.add_mul] at this; omega
  have hst := run_storeCells_at (P := P) g (k * sz) T cs 0 cur w hg (by omega) hone
  simp only [Nat.add_zero] at hst
  rw [hcs] at hst
  have hv : (storeVar ty ⟨g, k * sz, none⟩ (.agg cs.toArray)).run P w = .ok () (w.setRow g (cur.toList.take (k * sz) ++ cs ++ cur.toList.drop (k * sz + sz)).toArray) := by
    cases hq : P.info? ty with
    | none => simp [hq] at hinfo
    | some j =>
      have hs : cs.length = j.size := by simp [hq] at hinfo; omega
      simp [storeVar, sizeOf, typeInfo, hq, Value.cells, hs, hst]
  unfold Oper.wp execOp
  simp only [ho, hx, hy, Instr.storeAt, Instr.sureAddr, Sem.run_bind, Sem.run_pure, Result.andThen_ok, hv]
  exact (hn _ (h.putRow i hi rfl k hk hE hcs hg))
end
def HCmp {α : Type} (E : PH → List Value → α → Prop) (H : PH) (c : α → α → Int) (fid : Nat) : Prop :=
  ∀ w' cs ds x y, PLe H (ph w') → E H cs x → E H ds y → Calls Tryz.prog fid #[.agg cs.toArray, .agg ds.toArray] w' (RetV w' (.int .i64 (c x y)))
theorem swap_next {β : Type} (A C : List β) (x y : β) : ((A ++ y :: x :: C).set (A.length + 1) y).set A.length x = A ++ x :: y :: C := by
  have := swap_mid' A [] C y x
  simp only [List.length_nil, Nat.add_zero, List.append_assoc, List.cons_append, List.nil_append] at this
  exact this
theorem get_mid {β : Type} (A B C : List β) (r : Nat) (h : r < B.length) (i : Nat) (hi : i = A.length + r) : (A ++ B ++ C)[i]? = some B[r] := by
  subst hi
  rw [List.append_assoc, List.getElem?_append_right (by omega), Nat.add_sub_cancel_left, List.getElem?_append_left h, List.getElem?_eq_getElem h]
def UnitP (Q : World → Prop) (e : Ending) (w' : World) : Prop := e = .returned (.tuple #[]) ∧ Q w'
section
variable {P : Program} {ops : Array Oper} {Q : Exit → Act → World → Prop} {md : Region.Mode} {fuel : Nat} {listed : Array Bool} {a : Act} {w : World} {i : Nat} {o : Oper} {rs : List Nat}
theorem AllReady.un (ho : ops[i]? = some o) (hg : o.guard = none)
    (h : ∀ K' : Act → World → Prop, (∀ a w, wpAny P md ops Q fuel (listed.setIfInBounds i true) a w → K' a w) → Oper.wp P o a w K' Q)
    (hs : AllReady P md ops Q fuel listed a w rs) : AllReady P md ops Q fuel listed a w (i :: rs) :=
  AllReady.cons ho (fun K' hK => by
    rw [if_pos (by simp only [Region.wanted, hg])]
    exact h K' hK) hs
theorem AllReady.load (ho : ops[i]? = some o) (hg : o.guard = none) (ty : TypeId) (x : Operand) (hop : o.op = .load ty x)
    (b m : Nat) (hx : a.eval x = .pointer (some ⟨b, m, none⟩)) (cs : List Value) (d : TypeDesc) (hc : ∀ j u, cs[j]? = some u → w.cell? ⟨b, m + j, none⟩ = some u)
    (hu : P.underlying ty = some d) (hd : (match d with | .struct _ | .array _ _ => true | _ => false) = true) (hi : (P.info? ty).map (·.size) = some cs.length)
    (h : wpAny P md ops Q fuel (listed.setIfInBounds i true) (a.put o.dst (.agg cs.toArray)) w)
    (hs : AllReady P md ops Q fuel listed a w rs) : AllReady P md ops Q fuel listed a w (i :: rs) :=
  AllReady.un ho hg (fun K' hK => oper_load_mid ty x hop b m hx cs d hc hu hd hi (hK _ _ h)) hs
theorem AllReady.store {α : Type} {E : PH → List Value → α → Prop} {hm : Mono E} {sz : Nat} {T : TypeId} {w0 : World} {H0 H : PH} {L : List Chunk} {xs : List α} (ho : ops[i]? = some o) (hg : o.guard = none)
    (ty : TypeId) (x y : Operand) (hop : o.op = .store ty x y) {g n cap : Nat} (k : Nat) (hx : a.eval x = .pointer (some ⟨g, k * sz, none⟩)) {cs : List Value} (hy : a.eval y = .agg cs.toArray) {x' : α} (hM : Mem w0 H0 L H w) (j : Nat) (hi : L[j]? = some (own hm sz T (.slice (some ⟨g, 0, none⟩) n cap) xs)) (hk : k < xs.length)
    (hE : E H cs x') (hcs : cs.length = sz) (hone : ∀ u ∈ cs, u.oneCell' = true) (hinfo : (P.info? ty).map (·.size) = some sz)
    (h : ∀ w', Mem w0 H0 (L.set j (own hm sz T (.slice (some ⟨g, 0, none⟩) n cap) (xs.set k x'))) H w' → wpAny P md ops Q fuel (listed.setIfInBounds i true) (a.put o.dst undef) w')
    (hs : AllReady P md ops Q fuel listed a w rs) : AllReady P md ops Q fuel listed a w (i :: rs) :=
  AllReady.un ho hg (fun K' hK => oper_store_R ty x y hop k hx hy hM j hi hk hE hcs hone hinfo fun w' hM' => hK _ _ (h w' hM')) hs
end
theorem Mem.row1 {α : Type} {E : PH → List Value → α → Prop} {hm : Mono E} {T : TypeId} {w0 w : World} {H0 H : PH} {L : List Chunk} {oa : Option Addr} {n cap k i : Nat} {xs : List α} {x : α} (h : Mem w0 H0 L H w) (hi : L[i]? = some (own hm 1 T (.slice oa n cap) xs)) (hk : xs[k]? = some x) :
    ∃ g cs, oa = some ⟨g, 0, none⟩ ∧ n = xs.length ∧ g < w.heap.size ∧ cs.length = 1 ∧ (∀ j u, cs[j]? = some u → w.cell? ⟨g, k + j, none⟩ = some u) ∧ E H cs x := by
  obtain ⟨g, cs, h1, h2, h3, h4, h5, h6⟩ := h.row hi hk
  exact ⟨g, cs, h1, h2, h3, h4, fun j u hu => by have := h5 j u hu; rwa [Nat.mul_one] at this, h6⟩
def v1 (cs : List Value) : Value := cs.headD undef
def HCmp1 {α : Type} (E : PH → List Value → α → Prop) (H : PH) (c : α → α → Int) (fid : Nat) : Prop :=
  ∀ w' cs ds x y, PLe H (ph w') → E H cs x → E H ds y → Calls Tryz.prog fid #[v1 cs, v1 ds] w' (RetV w' (.int .i64 (c x y)))
theorem oper_load_one {P : Program} {o : Oper} {a : Act} {w : World} {K : Act → World → Prop} {Q : Exit → Act → World → Prop} (ty : TypeId) (x : Operand) (ho : o.op = .load ty x)
    (b m : Nat) (hx : a.eval x = .pointer (some ⟨b, m, none⟩)) (cs : List Value) (d : TypeDesc) (hc : ∀ j u, cs[j]? = some u → w.cell? ⟨b, m + j, none⟩ = some u)
    (hu : P.underlying ty = some d) (hd : (match d with | .struct _ | .array _ _ => true | _ => false) = false) (hi : cs.length = 1)
    (h : K (a.put o.dst (v1 cs)) w) : o.wp P a w K Q := by
  obtain ⟨u, rfl⟩ := List.length_eq_one_iff.1 hi
  have hcu : w.cell? ⟨b, m, none⟩ = some u := by simpa using hc 0 u rfl
  have hv : (loadVar ty ⟨b, m, none⟩).run P w = .ok u w := by
    have hagg : (isAgg ty).run P w = .ok false w := by
      unfold isAgg
      rw [Sem.run_bind, run_underlying hu w]
      cases d <;> simp_all
    rw [loadVar, Sem.run_bind, hagg]
    simp only [Result.andThen_ok, Bool.false_eq_true, if_false]
    rw [run_load, hcu]
  unfold Oper.wp execOp
  simp only [ho, hx, Instr.loadAt, Instr.sureAddr, Sem.run_bind, Sem.run_pure, Result.andThen_ok, hv]
  exact h
section
variable {P : Program} {ops : Array Oper} {Q : Exit → Act → World → Prop} {md : Region.Mode} {fuel : Nat} {listed : Array Bool} {a : Act} {w : World} {i : Nat} {o : Oper} {rs : List Nat}
theorem AllReady.load1 (ho : ops[i]? = some o) (hg : o.guard = none) (ty : TypeId) (x : Operand) (hop : o.op = .load ty x)
    (b m : Nat) (hx : a.eval x = .pointer (some ⟨b, m, none⟩)) (cs : List Value) (d : TypeDesc) (hc : ∀ j u, cs[j]? = some u → w.cell? ⟨b, m + j, none⟩ = some u)
    (hu : P.underlying ty = some d) (hd : (match d with | .struct _ | .array _ _ => true | _ => false) = false) (hi : cs.length = 1)
    (h : wpAny P md ops Q fuel (listed.setIfInBounds i true) (a.put o.dst (v1 cs)) w)
    (hs : AllReady P md ops Q fuel listed a w rs) : AllReady P md ops Q fuel listed a w (i :: rs) :=
  AllReady.un ho hg (fun K' hK => oper_load_one ty x hop b m hx cs d hc hu hd hi (hK _ _ h)) hs
end
section
variable {P : Program} {α : Type} {E : PH → List Value → α → Prop} {hm : Mono E} {T : TypeId} {w0 w : World} {H0 H : PH} {L : List Chunk} {xs : List α}
theorem oper_store_1 {o : Oper} {a : Act} {K : Act → World → Prop} {Q : Exit → Act → World → Prop} (ty : TypeId) (x y : Operand) (ho : o.op = .store ty x y)
    {g n cap : Nat} (k : Nat) (hx : a.eval x = .pointer (some ⟨g, k, none⟩)) {cs : List Value} (hy : a.eval y = v1 cs) {x' : α} (h : Mem w0 H0 L H w) (i : Nat) (hi : L[i]? = some (own hm 1 T (.slice (some ⟨g, 0, none⟩) n cap) xs)) (hk : k < xs.length)
    (hE : E H cs x') (hcs : cs.length = 1) (hone : ∀ u ∈ cs, u.oneCell' = true) (hinfo : (P.info? ty).map (·.size) = some 1)
    (hn : ∀ w', Mem w0 H0 (L.set i (own hm 1 T (.slice (some ⟨g, 0, none⟩) n cap) (xs.set k x'))) H w' → K (a.put o.dst undef) w') : o.wp P a w K Q := by
  obtain ⟨u, rfl⟩ := List.length_eq_one_iff.1 hcs
  have hu1 : u.oneCell' = true := hone u (by simp)
  have huc : u.cells = [u].toArray := by cases u <;> first | rfl | (simp [Value.oneCell'] at hu1)
  obtain ⟨cur, hg, hc1, hc2, rfl⟩ := h.cur i hi
  have hst := run_storeCells_at (P := P) g k T [u] 0 cur w hg (by simp; omega) hone
  simp only [Nat.add_zero] at hst
  have hv : (storeVar ty ⟨g, k, none⟩ u).run P w = .ok () (w.setRow g (cur.toList.take k ++ [u] ++ cur.toList.drop (k + 1)).toArray) := by
    cases hq : P.info? ty with
    | none => simp [hq] at hinfo
    | some j =>
      have hs : j.size = 1 := by simpa [hq] using hinfo
      simp only [List.length_singleton] at hst
      simp [storeVar, sizeOf, typeInfo, hq, huc, hs, hst]
  have hput := h.putRow i hi rfl k hk hE rfl hg
  rw [Nat.mul_one] at hput
  unfold Oper.wp execOp
  simp only [ho, hx, Instr.storeAt, Instr.sureAddr, Sem.run_bind, Sem.run_pure, Result.andThen_ok]
  rw [show a.eval y = u from hy, hv]
  exact hn _ hput
end
section
variable {P : Program} {ops : Array Oper} {Q : Exit → Act → World → Prop} {md : Region.Mode} {fuel : Nat} {listed : Array Bool} {a : Act} {w : World} {i : Nat} {o : Oper} {rs : List Nat}
theorem AllReady.store1 {α : Type} {E : PH → List Value → α → Prop} {hm : Mono E} {T : TypeId} {w0 : World} {H0 H : PH} {L : List Chunk} {xs : List α} (ho : ops[i]? = some o) (hg : o.guard = none)
    (ty : TypeId) (x y : Operand) (hop : o.op = .store ty x y) {g n cap : Nat} (k : Nat) (hx : a.eval x = .pointer (some ⟨g, k, none⟩)) {cs : List Value} (hy : a.eval y = v1 cs) {x' : α} (hM : Mem w0 H0 L H w) (j : Nat) (hi : L[j]? = some (own hm 1 T (.slice (some ⟨g, 0, none⟩) n cap) xs)) (hk : k < xs.length)
    (hE : E H cs x') (hcs : cs.length = 1) (hone : ∀ u ∈ cs, u.oneCell' = true) (hinfo : (P.info? ty).map (·.size) = some 1)
    (h : ∀ w', Mem w0 H0 (L.set j (own hm 1 T (.slice (some ⟨g, 0, none⟩) n cap) (xs.set k x'))) H w' → wpAny P md ops Q fuel (listed.setIfInBounds i true) (a.put o.dst undef) w')
    (hs : AllReady P md ops Q fuel listed a w rs) : AllReady P md ops Q fuel listed a w (i :: rs) :=
  AllReady.un ho hg (fun K' hK => oper_store_1 ty x y hop k hx hy hM j hi hk hE hcs hone hinfo fun w' hM' => hK _ _ (h w' hM')) hs
end
end Go.Proofs.YtabajghokhfmhaaGreat
