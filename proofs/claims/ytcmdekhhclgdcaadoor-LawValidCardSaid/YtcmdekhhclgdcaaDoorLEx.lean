/- package law: the default rules; what the examples say; what more acts change. -/
import Derived.Test.YtcmdekhhclgdcaaDoorLLa
import Derived.Test.YtcmdekhhclgdcaaDoorLCh
namespace Go.Proofs.YtcmdekhhclgdcaaDoor
open Go.RowKit Go.Shelf
set_option linter.unusedSimpArgs false
set_option linter.unusedVariables false
theorem rulF_ok : ∀ (l : List (Cal × List Int)), (∀ x ∈ l, calE x.1 = 0 ∧ x.2.length = 19 ∧ rngF 0 x.2 = true) → rulF l = 0
  | [], _ => rfl
  | x :: r, h => by
    obtain ⟨h1, h2, h3⟩ := h x List.mem_cons_self
    rw [rulF, if_neg (by simpa using h1), if_neg (by omega), if_neg (by simp [h3])]
    exact rulF_ok r fun y hy => h y (List.mem_cons_of_mem _ hy)
theorem lawE_def : lawE defR = 0 := by
  unfold lawE
  rw [if_neg (by unfold defR; simp [defC_len, defBs_len])]
  refine rulF_ok _ fun x hx => ?_
  unfold defR defC defBs at hx
  rw [List.zip_map'] at hx
  obtain ⟨k, hk, rfl⟩ := List.mem_map.1 hx
  rw [List.mem_range] at hk
  refine ⟨calE_def (by omega), rfl, ?_⟩
  unfold defB
  simp [rngF, inR, inB, loR, hiR]; omega
theorem lchk_def {o p d : Int} (ho : 0 ≤ o ∧ o < 12) (hp : 0 ≤ p ∧ p < 19) (hd : 0 ≤ d ∧ d ≤ 131072) : lchkE defR o p d = 0 := by
  unfold lchkE
  rw [lawE_def, if_neg (by simp), if_neg (by omega), if_neg (by omega)]
theorem lval_def {o p d : Int} (xs : List Ac) (ho : 0 ≤ o ∧ o < 12) (hp : 0 ≤ p ∧ p < 19) (hd : 0 ≤ d ∧ d ≤ 131072) : lvalE defR o p d xs = (valR o p.toNat d xs (baseV defR o.toNat p.toNat), 0) := by
  unfold lvalE
  rw [if_neg (by rw [lchk_def ho hp hd]; simp)]
theorem defC_at {o : Nat} (ho : o < 12) : defR.1.getD o ([], []) = defCal o := by
  unfold defR defC
  rw [List.getD_eq_getElem?_getD, List.getElem?_map, List.getElem?_range ho]; rfl
theorem baseV_2 {o : Nat} (ho : o < 12) : baseV defR o 2 = 4 := by
  unfold baseV defR defBs
  simp only []
  rw [show ((List.range 12).map fun k : Nat => defB (k : Int)).getD o [] = defB (o : Int) by rw [List.getD_eq_getElem?_getD, List.getElem?_map, List.getElem?_range ho]; rfl]; rfl
theorem llast_def {o f d : Int} (xs : List Ac) (ho : 0 ≤ o ∧ o < 12) (hd : 0 ≤ d ∧ d ≤ 131072) : llastE defR o f 2 d xs = endE (defCal o) xs o f d (valR o 2 d xs 4) := by
  unfold llastE
  rw [lval_def xs ho (by omega) hd, if_neg (by simp), if_neg (by omega), if_neg (by omega), defC_at (by omega)]
  show endE (defCal (o.toNat : Int)) xs o f d (valR o 2 d xs (baseV defR o.toNat 2)) = _
  rw [baseV_2 (by omega), show ((o.toNat : Nat) : Int) = o by omega]
/-- acts of other kinds change no end -/
theorem endE_rule {c : Cal} {xs ys : List Ac} {office file d n : Int} (h : ∀ x ∈ ys, x.kind ≠ 9 ∧ x.kind ≠ 20) : endE c (xs ++ ys) office file d n = endE c xs office file d n := by
  have h1 : brokB file (xs ++ ys) = brokB file xs := by
    funext x
    unfold brokB
    rw [List.any_append, show ys.any (brkB file x) = false by
      rw [List.any_eq_false]; intro a ha; have := (h a ha).1; unfold brkB; simp [this], Bool.or_false]
  have h2 : opB c (xs ++ ys) office = opB c xs office := by
    funext x
    unfold opB
    rw [List.any_append, show ys.any (shutB office x) = false by
      rw [List.any_eq_false]; intro a ha; have := (h a ha).2; unfold shutB; simp [this], Bool.or_false]
  have h3 : tchk file (xs ++ ys) = tchk file xs := by
    unfold tchk
    rw [List.any_append, show ys.any (badB file) = false by
      rw [List.any_eq_false]; intro a ha; have := (h a ha).1; unfold badB; simp [this], Bool.or_false]
  unfold endE nextE
  rw [h1, h2, h3]
theorem add_50_4 : addV 50 4 = (170, 0) := by
  have h : IsDate 50 1900 2 20 := ⟨by omega, by omega, by omega, by omega, by unfold lenM; omega, by rw [bef1900]; rfl⟩
  have e : addD (dateV 50) 4 = 170 := by
    rw [dateV_eq h]
    unfold addD numV
    simp only [bef1900]
    rfl
  unfold addV
  rw [if_neg (by omega), if_neg (by omega), e]
  rfl
set_option maxRecDepth 100000 in
theorem end_50 : endE (defCal 2) [] 2 0 50 4 = (170, 0) := by
  have hc : checkE (defCal 2) 2 0 = 0 := checkE_fine (calE_def (by omega)) (by omega) (by omega)
  unfold endE
  rw [hc, tchk_0', add_50_4]
  simp only [ne_eq, not_true, if_false]
  have e : endF (brokB 0 []) 131074 (50 + 1) 170 = 170 := by
    show endF (brokB 0 []) (131073 + 1) (50 + 1) 170 = 170
    exact endF_stop (.inl (by rfl))
  rw [e, if_neg (by omega), nextE_fine (calE_def (by omega)) (by omega) (by omega)]
  show nextF _ (4095 + 1) 170 = _
  unfold nextF
  rw [if_neg (by omega), if_pos]
  have h : IsDate 170 1900 6 20 := ⟨by omega, by omega, by omega, by omega, by unfold lenM; omega, by rw [bef1900]; rfl⟩
  unfold opB
  rw [dateV_eq h]
  decide
abbrev aL : Ac := ⟨21, 100, 0, 0, 2, 0, 0, 2, 6⟩
theorem val_99 : lvalE defR 2 2 99 [aL] = (4, 0) := by
  rw [lval_def _ (by omega) (by omega) (by omega)]
  show (valR 2 2 99 [aL] (baseV defR 2 2), (0 : Int)) = _
  rw [baseV_2 (by omega)]
  rfl
theorem val_100 : lvalE defR 2 2 100 [aL] = (6, 0) := by
  rw [lval_def _ (by omega) (by omega) (by omega)]
  show (valR 2 2 100 [aL] (baseV defR 2 2), (0 : Int)) = _
  rw [baseV_2 (by omega)]
  rfl
theorem chg_100 {l : List Ac} (h : RulOk 2 2 [aL] l) : chF 4 l = [100] := by
  rw [← chE_chF h]
  show chE 2 2 [aL] 4 (131072 + 1 + 1) (-1) 4 = [100]
  have e1 : nxtF 2 2 (-1) 200000 [aL] = 100 := rfl
  have e2 : valR 2 2 100 [aL] 4 = 6 := rfl
  have e3 : nxtF 2 2 100 200000 [aL] = 200000 := rfl
  rw [chE, e1, if_neg (by omega), e2, if_neg (by omega), chE, e3, if_pos rfl]
theorem last_1 : llastE defR 2 0 2 50 [aL] = (170, 0) := by
  rw [llast_def _ (by omega) (by omega), show valR 2 2 50 [aL] 4 = 4 from rfl]
  have := endE_rule (c := defCal 2) (xs := []) (ys := [aL]) (office := 2) (file := 0) (d := 50) (n := 4) (by intro x hx; rw [List.mem_singleton.1 hx]; decide)
  rw [List.nil_append] at this
  rw [this]; exact end_50
theorem last_0 : llastE defR 2 0 2 50 [] = (170, 0) := by
  rw [llast_def _ (by omega) (by omega), show valR 2 2 50 [] 4 = 4 from rfl]; exact end_50
end Go.Proofs.YtcmdekhhclgdcaaDoor
