/- package law: the default rules; what the examples say; what more acts change.; priorartref01.SameInts.; the examples of the section on the law. -/
import Derived.Test.YtcmdekhhclgdcaaGreatDoorLLa
import Derived.Test.YtcmdekhhclgdcaaGreatDoorLCh
import Derived.Test.YtcmdekhhclgdcaaGreatDoorOwnS
import Derived.Test.YtcmdekhhclgdcaaGreatDoorCalmA
import Derived.Test.YtcmdekhhclgdcaaGreatDoorCivA
import Derived.Test.YtcmdekhhclgdcaaGreatDoorGenA
namespace Go.Proofs.YtcmdekhhclgdcaaGreatDoor
open Go.RowKit Go.Shelf
set_option linter.unusedSimpArgs false
set_option linter.unusedVariables false
theorem rulF_ok : ∀ (l : List (Cal × List Int)), (∀ x ∈ l, calE x.1 = 0 ∧ x.2.length = 19 ∧ rngF 0 x.2 = true) → rulF l = 0
  | [], _ => rfl
  | x :: r, h => by
    obtain ⟨h1, h2, h3⟩ := h x List.mem_cons_self
    rw [rulF, if_neg (by simpa using h1), if_neg (by omega), if_neg (by simp [h3])]
    exact rulF_ok r fun y hy => h y (List.mem_cons_of_mem _ hy)
theorem lawE_def : lawE defR = 0 := by
  unfold lawE
  rw [if_neg (by unfold defR; simp [defC_len, defBs_len])]
  refine rulF_ok _ fun x hx => ?_
  unfold defR defC defBs at hx
  rw [List.zip_map'] at hx
  obtain ⟨k, hk, rfl⟩ := List.mem_map.1 hx
  rw [List.mem_range] at hk
  refine ⟨calE_def (by omega), rfl, ?_⟩
  unfold defB
  simp [rngF, inR, inB, loR, hiR]; omega
theorem lchk_def {o p d : Int} (ho : 0 ≤ o ∧ o < 12) (hp : 0 ≤ p ∧ p < 19) (hd : 0 ≤ d ∧ d ≤ 131072) : lchkE defR o p d = 0 := by
  unfold lchkE
  rw [lawE_def, if_neg (by simp), if_neg (by omega), if_neg (by omega)]
theorem lval_def {o p d : Int} (xs : List Ac) (ho : 0 ≤ o ∧ o < 12) (hp : 0 ≤ p ∧ p < 19) (hd : 0 ≤ d ∧ d ≤ 131072) : lvalE defR o p d xs = (valR o p.toNat d xs (baseV defR o.toNat p.toNat), 0) := by
  unfold lvalE
  rw [if_neg (by rw [lchk_def ho hp hd]; simp)]
theorem defC_at {o : Nat} (ho : o < 12) : defR.1.getD o ([], []) = defCal o := by
  unfold defR defC
  rw [List.getD_eq_getElem?_getD, List.getElem?_map, List.getElem?_range ho]; rfl
theorem baseV_2 {o : Nat} (ho : o < 12) : baseV defR o 2 = 4 := by
  unfold baseV defR defBs
  simp only []
  rw [show ((List.range 12).map fun k : Nat => defB (k : Int)).getD o [] = defB (o : Int) by rw [List.getD_eq_getElem?_getD, List.getElem?_map, List.getElem?_range ho]; rfl]; rfl
theorem llast_def {o f d : Int} (xs : List Ac) (ho : 0 ≤ o ∧ o < 12) (hd : 0 ≤ d ∧ d ≤ 131072) : llastE defR o f 2 d xs = endE (defCal o) xs o f d (valR o 2 d xs 4) := by
  unfold llastE
  rw [lval_def xs ho (by omega) hd, if_neg (by simp), if_neg (by omega), if_neg (by omega), defC_at (by omega)]
  show endE (defCal (o.toNat : Int)) xs o f d (valR o 2 d xs (baseV defR o.toNat 2)) = _
  rw [baseV_2 (by omega), show ((o.toNat : Nat) : Int) = o by omega]
/-- acts of other kinds change no end -/
theorem endE_rule {c : Cal} {xs ys : List Ac} {office file d n : Int} (h : ∀ x ∈ ys, x.kind ≠ 9 ∧ x.kind ≠ 20) : endE c (xs ++ ys) office file d n = endE c xs office file d n := by
  have h1 : brokB file (xs ++ ys) = brokB file xs := by
    funext x
    unfold brokB
    rw [List.any_append, show ys.any (brkB file x) = false by
      rw [List.any_eq_false]; intro a ha; have := (h a ha).1; unfold brkB; simp [this], Bool.or_false]
  have h2 : opB c (xs ++ ys) office = opB c xs office := by
    funext x
    unfold opB
    rw [List.any_append, show ys.any (shutB office x) = false by
      rw [List.any_eq_false]; intro a ha; have := (h a ha).2; unfold shutB; simp [this], Bool.or_false]
  have h3 : tchk file (xs ++ ys) = tchk file xs := by
    unfold tchk
    rw [List.any_append, show ys.any (badB file) = false by
      rw [List.any_eq_false]; intro a ha; have := (h a ha).1; unfold badB; simp [this], Bool.or_false]
  unfold endE nextE
  rw [h1, h2, h3]
theorem add_50_4 : addV 50 4 = (170, 0) := by
  have h : IsDate 50 1900 2 20 := ⟨by omega, by omega, by omega, by omega, by unfold lenM; omega, by rw [bef1900]; rfl⟩
  have e : addD (dateV 50) 4 = 170 := by
    rw [dateV_eq h]
    unfold addD numV
    simp only [bef1900]
    rfl
  unfold addV
  rw [if_neg (by omega), if_neg (by omega), e]
  rfl
set_option maxRecDepth 100000 in
theorem end_50 : endE (defCal 2) [] 2 0 50 4 = (170, 0) := by
  have hc : checkE (defCal 2) 2 0 = 0 := checkE_fine (calE_def (by omega)) (by omega) (by omega)
  unfold endE
  rw [hc, tchk_0', add_50_4]
  simp only [ne_eq, not_true, if_false]
  have e : endF (brokB 0 []) 131074 (50 + 1) 170 = 170 := by
    show endF (brokB 0 []) (131073 + 1) (50 + 1) 170 = 170
    exact endF_stop (.inl (by rfl))
  rw [e, if_neg (by omega), nextE_fine (calE_def (by omega)) (by omega) (by omega)]
  show nextF _ (4095 + 1) 170 = _
  unfold nextF
  rw [if_neg (by omega), if_pos]
  have h : IsDate 170 1900 6 20 := ⟨by omega, by omega, by omega, by omega, by unfold lenM; omega, by rw [bef1900]; rfl⟩
  unfold opB
  rw [dateV_eq h]
  decide
abbrev aL : Ac := ⟨21, 100, 0, 0, 2, 0, 0, 2, 6⟩
theorem val_99 : lvalE defR 2 2 99 [aL] = (4, 0) := by
  rw [lval_def _ (by omega) (by omega) (by omega)]
  show (valR 2 2 99 [aL] (baseV defR 2 2), (0 : Int)) = _
  rw [baseV_2 (by omega)]
  rfl
theorem val_100 : lvalE defR 2 2 100 [aL] = (6, 0) := by
  rw [lval_def _ (by omega) (by omega) (by omega)]
  show (valR 2 2 100 [aL] (baseV defR 2 2), (0 : Int)) = _
  rw [baseV_2 (by omega)]
  rfl
theorem chg_100 {l : List Ac} (h : RulOk 2 2 [aL] l) : chF 4 l = [100] := by
  rw [← chE_chF h]
  show chE 2 2 [aL] 4 (131072 + 1 + 1) (-1) 4 = [100]
  have e1 : nxtF 2 2 (-1) 200000 [aL] = 100 := rfl
  have e2 : valR 2 2 100 [aL] 4 = 6 := rfl
  have e3 : nxtF 2 2 100 200000 [aL] = 200000 := rfl
  rw [chE, e1, if_neg (by omega), e2, if_neg (by omega), chE, e3, if_pos rfl]
theorem last_1 : llastE defR 2 0 2 50 [aL] = (170, 0) := by
  rw [llast_def _ (by omega) (by omega), show valR 2 2 50 [aL] 4 = 4 from rfl]
  have := endE_rule (c := defCal 2) (xs := []) (ys := [aL]) (office := 2) (file := 0) (d := 50) (n := 4) (by intro x hx; rw [List.mem_singleton.1 hx]; decide)
  rw [List.nil_append] at this
  rw [this]; exact end_50
theorem last_0 : llastE defR 2 0 2 50 [] = (170, 0) := by
  rw [llast_def _ (by omega) (by omega), show valR 2 2 50 [] 4 = 4 from rfl]; exact end_50
end Go.Proofs.YtcmdekhhclgdcaaGreatDoor
namespace Go.Proofs.YtcmdekhhclgdcaaGreatDoor
open Go.RowKit
set_option linter.unusedSimpArgs false
set_option linter.unusedVariables false
set_option maxHeartbeats 400000 in
theorem sameInts_c (va vb : Value) (l m : List Int) (w : World) (ha : IntsR (ph w) va l) (hb : IntsR (ph w) vb m) :
    Calls Tryz.prog 15 #[va, vb] w (RetV w (.bool (B (l = m)))) := by
  obtain ⟨a, c, rfl, hlen, ha⟩ := ha.form
  obtain ⟨a', c', rfl, hlen', hb⟩ := hb.form
  by_cases hl : l.length = m.length
  · have HL := Lib.hid hl
    have hlb : ((l.length : Int) == (m.length : Int)) = true := by simp [hl]
    clear hl
    go_enter Tryz.func15, Tryz.ntmps15
    go_wp2_with fail
    go_loopw [5] (fun i wr => ∃ k : Nat, k ≤ l.length ∧ i = .int .i64 k ∧ Hid (l.take k = m.take k) ∧ Ext w wr) (fun i _ => l.length - (intOf i).toNat)
    case atStart => exact ⟨0, Nat.zero_le _, rfl, Lib.hid (by simp), (by repeat (first | (with_reducible assumption) | (with_reducible exact Ext.rfl' _) | (with_reducible exact Ext.new _ _) | (with_reducible refine Ext.alloc' ?_ _) | (with_reducible refine Ext.drew' ?_) | (with_reducible refine Ext.drewN' ?_ _) | (with_reducible refine Ext.set' ?_ ?_ _; rotate_left; (focus (first | omega | (simp; done) | (simp; omega)))) | (with_reducible refine Ext.then (b := ?_) ?_ ?_; rotate_left; rotate_left; (with_reducible assumption))))⟩
    case round =>
      obtain ⟨k, hk, rfl, ht, hx⟩ := hrel
      by_cases hlt : k < l.length
      · have hlm : k < m.length := by have := HL.out; omega
        obtain ⟨b, o, rfl, h0, i0, hbl⟩ := IntsR.at (ha.mono mono_IntR hx.ple) k hlt
        obtain ⟨b', o', rfl, h0', i0', hbl'⟩ := IntsR.at (hb.mono mono_IntR hx.ple) k hlm
        generalize hx1 : l[k] = x at *
        generalize hx2 : m[k] = y at *
        replace hx1 := Lib.hid hx1
        replace hx2 := Lib.hid hx2
        clear ha hb
        go_wp2_with fail
        (refine wp_region_calm (S := fun w' => Ext _ w') (by kernel_rfl) (by kernel_rfl) (Ext.rfl' _).drew' ?_; (try simp only [List.toList_toArray]); (repeat (first | (refine walkF_skip ?_ ?_; (focus rfl); (try simp only [Act.put, List.setIfInBounds_toArray, List.set_cons_zero, List.set_cons_succ])) | (refine walkF_step (v := ?_) rfl ?_ ?_ ?_; rotate_left; (focus rfl); (focus (intro w' hS A hA K hK; (simp only [agrees, Op.operands, Call.operands, Act.eval, Array.getD_eq_getD_getElem?, List.getElem?_toArray, List.getElem?_cons_succ, List.getElem?_cons_zero, Option.getD_some, and_true, true_and, List.append_toArray, List.nil_append, List.cons_append, List.toList_toArray, Array.toList_append] at hA); first | fail | (obtain ⟨hSc, hSf, hSs⟩ := hS.cells; go_simp; exact hK _ hS))); (try simp only [Act.put, List.setIfInBounds_toArray, List.set_cons_zero, List.set_cons_succ])))); refine walkF_nil ?_)
        intro w2 hw2
        by_cases hxy : x = y
        · subst hxy
          go_wp2_with fail
          all_goals first
            | (exfalso; simp_all; done)
            | (go_roundw
               case rel => exact ⟨k + 1, by omega, by go_num, Lib.hid (by rw [take_snoc l k hlt, take_snoc m k hlm, ht.out, hx1.out, hx2.out]), (by repeat (first | (with_reducible assumption) | (with_reducible exact Ext.rfl' _) | (with_reducible exact Ext.new _ _) | (with_reducible refine Ext.alloc' ?_ _) | (with_reducible refine Ext.drew' ?_) | (with_reducible refine Ext.drewN' ?_ _) | (with_reducible refine Ext.set' ?_ ?_ _; rotate_left; (focus (first | omega | (simp; done) | (simp; omega)))) | (with_reducible refine Ext.then (b := ?_) ?_ ?_; rotate_left; rotate_left; (with_reducible assumption))))⟩
               case measure => simp [intOf]; omega)
        · have hn : (x == y) = false := by
            rw [beq_eq_false_iff_ne]; exact hxy
          have hn2 : (x != y) = true := by rw [bne_iff_ne]; exact hxy
          replace hxy := Lib.hid hxy
          go_wp2_with fail
          all_goals first
            | (exfalso; simp_all; done)
            | (go_ret
               refine ⟨ret_f (fun h => ?_), (by repeat (first | (with_reducible assumption) | (with_reducible exact Ext.rfl' _) | (with_reducible exact Ext.new _ _) | (with_reducible refine Ext.alloc' ?_ _) | (with_reducible refine Ext.drew' ?_) | (with_reducible refine Ext.drewN' ?_ _) | (with_reducible refine Ext.set' ?_ ?_ _; rotate_left; (focus (first | omega | (simp; done) | (simp; omega)))) | (with_reducible refine Ext.then (b := ?_) ?_ ?_; rotate_left; rotate_left; (with_reducible assumption))))⟩
               subst h
               exact hxy.out (hx1.out.symm.trans hx2.out))
      · have hkl : k = l.length := by omega
        clear ha hb
        go_wp2_with fail
        go_ret
        refine ⟨ret_t ?_, (by repeat (first | (with_reducible assumption) | (with_reducible exact Ext.rfl' _) | (with_reducible exact Ext.new _ _) | (with_reducible refine Ext.alloc' ?_ _) | (with_reducible refine Ext.drew' ?_) | (with_reducible refine Ext.drewN' ?_ _) | (with_reducible refine Ext.set' ?_ ?_ _; rotate_left; (focus (first | omega | (simp; done) | (simp; omega)))) | (with_reducible refine Ext.then (b := ?_) ?_ ?_; rotate_left; rotate_left; (with_reducible assumption))))⟩
        have h1 := ht.out
        rw [List.take_of_length_le (by omega), List.take_of_length_le (by have := HL.out; omega)] at h1
        exact h1
  · have HL : Hid (¬ l = m) := fun h => hl (by rw [h])
    have hlb : ((l.length : Int) == (m.length : Int)) = false := by rw [beq_eq_false_iff_ne]; omega
    clear hl
    go_enter Tryz.func15, Tryz.ntmps15
    go_wp2_with fail
    go_ret
    exact ⟨ret_f HL.out, (by repeat (first | (with_reducible assumption) | (with_reducible exact Ext.rfl' _) | (with_reducible exact Ext.new _ _) | (with_reducible refine Ext.alloc' ?_ _) | (with_reducible refine Ext.drew' ?_) | (with_reducible refine Ext.drewN' ?_ _) | (with_reducible refine Ext.set' ?_ ?_ _; rotate_left; (focus (first | omega | (simp; done) | (simp; omega)))) | (with_reducible refine Ext.then (b := ?_) ?_ ?_; rotate_left; rotate_left; (with_reducible assumption))))⟩
end Go.Proofs.YtcmdekhhclgdcaaGreatDoor
namespace Go.Proofs.YtcmdekhhclgdcaaGreatDoor
open Go.RowKit Go.Shelf
set_option linter.unusedSimpArgs false
set_option linter.unusedVariables false
theorem one_rep (w : World) (X : Ac) (hX : X.I) : ActsR (ph (w.alloc (.cells (actC X).toArray 67))) (.slice (some ⟨w.heap.size, 0, none⟩) 1 1) [X] := by
  have h : OwnS 0 noH (w.alloc (.cells (actC X).toArray 67)) ActR 19 67 (.slice (some ⟨w.heap.size, 0, none⟩) 1 1) [X] :=
    OwnS.ofNew (xs := [X]) (Nat.zero_le _) (Proofs.YtcmdekhhclgdcaaGreatDoor.Own.new w (actC X).toArray 67) rfl (by decide) rfl ⟨actC X, [], by simp, rfl, ⟨rfl, hX⟩, rfl⟩
  exact h.rep mono_ActR (noH_le _)
theorem RulR.form {h : PH} {v : Value} {r : Rul} (hr : RulR h v r) : ∃ a n c a' n' c', v = .agg #[.slice a n c, .slice a' n' c'] := by
  obtain ⟨x, y, rfl, h1, h2⟩ := hr
  obtain ⟨a, c, rfl, -, -⟩ := h1.form
  obtain ⟨a', c', rfl, -, -⟩ := h2.form
  exact ⟨_, _, _, _, _, _, rfl⟩
set_option maxRecDepth 100000 in
set_option maxHeartbeats 4000000 in
theorem lives17_c (w : World) (hV : VL (ph w)) (hR : VR (ph w)) : Calls Tryz.prog 16 #[] w (RetV w (.bool true)) := by
  have h1 := fun v va w hr hA hV hR => lValue_c defR 2 2 99 v va [aL] w hr hA (by simp) hV hR
  have h2 := fun v va w hr hA hV hR => lValue_c defR 2 2 100 v va [aL] w hr hA (by simp) hV hR
  have h3 := fun v va w hr hA hV hR => lChanges_c defR 2 2 v va [aL] w hr hA (by simp) hV hR
  have h4 := fun v va w hr hA hV hR => lLast_c defR 2 0 2 50 v va [aL] w hr hA (by simp) hV hR
  have h5 := fun v w hr hV hR => lLast_c defR 2 0 2 50 v (.slice none 0 0) [] w hr (SliceRep.nil _ _ _) (by simp) hV hR
  rw [val_99] at h1
  rw [val_100] at h2
  rw [last_1] at h4
  rw [last_0] at h5
  unfold ChgP at h3
  rw [lchk_def (by omega) (by omega) (by omega)] at h3
  dsimp only [two] at h1 h2 h4 h5
  have hI1 : aL.I := by unfold Ac.I I64; dsimp only; omega
  go_enter Tryz.func16, Tryz.ntmps16
  go_wp2_with fail
  refine (lawDefault_c w).mono ?_
  rintro e w1 ⟨v, rfl, hx1, hr⟩
  obtain ⟨a0, n0, k0, a1, n1, k1, rfl⟩ := hr.form
  go_upto_region 2 with (fail)
  go_upto_region 3 with (first | (refine wpList_build_act rfl _ rfl (aL) (by kernel_rfl) ?_) | (refine wpList_slice_act rfl _ rfl (aL) rfl ?_))
  have hO := (Proofs.YtcmdekhhclgdcaaGreatDoor.Own.new w1 #[.slice a0 n0 k0, .slice a1 n1 k1] 38).alloc (.cells (actC aL).toArray 67)
  have hA := one_rep (w1.alloc (.cells #[.slice a0 n0 k0, .slice a1 n1 k1] 38)) aL hI1
  rw [show (w1.alloc (.cells #[.slice a0 n0 k0, .slice a1 n1 k1] 38)).heap.size = w1.heap.size + 1 by simp] at hA
  have hxW : Ext w1 ((w1.alloc (.cells #[.slice a0 n0 k0, .slice a1 n1 k1] 38)).alloc (.cells (actC aL).toArray 67)) := (Ext.new _ _).then (Ext.new _ _)
  have hr1 := hr.mono hxW.ple
  have hx0 := hx1.then hxW
  have hV1 := hV.mono hx0.ple
  have hR1 := hR.mono hx0.ple
  generalize (w1.alloc _).alloc _ = W at *
  have c0 : _ = some (Value.slice a0 n0 k0) := hO.facts.1 0
  have c1 : _ = some (Value.slice a1 n1 k1) := hO.facts.1 1
  have l1 := hO.lt
  clear hO hxW hr hx1 hV hR
  replace h1 := Lib.hid h1
  replace h2 := Lib.hid h2
  replace h3 := Lib.hid h3
  replace h4 := Lib.hid h4
  replace h5 := Lib.hid h5
  go_wp2_with fail
  refine RetV_at (h1.out _ _ _ hr1 hA hV1 hR1) ?_
  intro w2 hx2
  obtain ⟨p1, p2, p3⟩ := hx2.cells
  have l2 : w1.heap.size < w2.heap.size := by omega
  go_wp2_with fail
  refine RetV_at (h2.out _ _ _ (hr1.mono hx2.ple) (hA.mono mono_ActR hx2.ple) (hV1.mono hx2.ple) (hR1.mono hx2.ple)) ?_
  intro w3 hx3'
  have hx3 := hx2.then hx3'
  clear p1 p2 p3
  obtain ⟨p1, p2, p3⟩ := hx3.cells
  have l3 : w1.heap.size < w3.heap.size := by omega
  go_wp2_with fail
  refine (h3.out _ _ _ (hr1.mono hx3.ple) (hA.mono mono_ActR hx3.ple) (hV1.mono hx3.ple) (hR1.mono hx3.ple)).mono ?_
  rintro e w4 ⟨vc, cs, rfl, hx4', hcs, -, hok⟩
  obtain ⟨l, hl, hce⟩ := hok trivial
  rw [show baseV defR (2 : Int).toNat (2 : Int).toNat = 4 from baseV_2 (by omega), chg_100 hl] at hce
  subst hce
  obtain ⟨ca, cc, rfl, -, -⟩ := id hcs.form
  rw [show [(100 : Int)].length = 1 from rfl] at hcs
  try simp only [show [(100 : Int)].length = 1 from rfl]
  have hx4 := hx3.then hx4'
  clear p1 p2 p3 hok hl
  obtain ⟨p1, p2, p3⟩ := hx4.cells
  have l4 : w1.heap.size < w4.heap.size := by omega
  go_wp2_with fail
  refine RetV_at (h4.out _ _ _ (hr1.mono hx4.ple) (hA.mono mono_ActR hx4.ple) (hV1.mono hx4.ple) (hR1.mono hx4.ple)) ?_
  intro w5 hx5'
  have hx5 := hx4.then hx5'
  clear p1 p2 p3
  obtain ⟨p1, p2, p3⟩ := hx5.cells
  have l5 : w1.heap.size < w5.heap.size := by omega
  go_wp2_with fail
  refine RetV_at (h5.out _ _ (hr1.mono hx5.ple) (hV1.mono hx5.ple) (hR1.mono hx5.ple)) ?_
  intro w6 hx6'
  have hx6 := hx5.then hx6'
  have hcs6 := hcs.mono mono_IntR (hx5'.then hx6').ple
  clear p1 p2 p3
  have hx7 := Ext.new w6 (.cells #[.int .i64 100] 3)
  have hlit : IntsR (up noH w6 _) (.slice (some ⟨w6.heap.size, 0, none⟩) 1 1) [100] := ints_own (zs := [100]) hx7 (Nat.le_refl _) (Proofs.YtcmdekhhclgdcaaGreatDoor.Own.new w6 #[.int .i64 100] 3) (by unfold I64; simp) (by simp)
  have hsm := sameInts_c _ _ [100] [100] _ (hcs6.mono mono_IntR hx7.ple) (hlit.mono mono_IntR (up_ple (noH_le _) hx7))
  rw [B_t rfl] at hsm
  clear h1 h2 h3 h4 h5 hlit
  go_upto_region 8 with (fail)
  go_wp2_with fail
  refine RetV_at hsm ?_
  intro w8 hx8
  go_wp2_with fail
  go_ret
  exact ⟨rfl, ((hx0.then hx6).then hx7).then hx8⟩
end Go.Proofs.YtcmdekhhclgdcaaGreatDoor
