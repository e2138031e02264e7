/- the law SpanAlgebra: the walk. -/
import Derived.Deep.CutBlock
import Derived.Test.YtmbkefgmiehdiaaSpLv
import Derived.Test.YtmbkefgmiehdiaaSpZA
namespace Go.Proofs.Ytmbkefgmiehdiaa
open Go.RowKit Go.Shelf
set_option linter.unusedSimpArgs false
set_option linter.unusedVariables false
theorem norm_set {raw : List Itv} (hg : ∀ x ∈ raw, goodB x = true) (hl : raw.length ≤ 32) : setE (normS raw).1 = 0 ∧ (normS raw).1.length ≤ raw.length := by
  have h1 := fst_len hg
  have h2 : normS raw = (combF fstK [raw], 0) := by
    unfold normS fewE
    rw [if_neg (by rw [Bool.not_eq_true, List.any_eq_false]; intro x hx; simp [hg x hx]), if_neg (by omega)]
  rw [h2]
  exact ⟨setE_of_can (combF_can (flat1 hg)) (by show (combF fstK [raw]).length ≤ 32; omega), h1⟩
theorem alg_pack {A B C : List Itv} (sA : setE A = 0) (sB : setE B = 0) (sC : setE C = 0) (lA : A.length ≤ 4) (lB : B.length ≤ 4) (lC : C.length ≤ 4) :
    ∃ AB L BC NA NB NO M ON, Hid (twoS orK A B = (AB,0)) ∧ Hid (twoS orK B A = (AB,0)) ∧ Hid (twoS orK AB C = (L,0)) ∧ Hid (twoS orK B C = (BC,0)) ∧ Hid (twoS orK A BC = (L,0)) ∧ Hid (notS A = (NA,0)) ∧ Hid (notS B = (NB,0)) ∧ Hid (notS NA = (A,0)) ∧ Hid (notS AB = (NO,0)) ∧ Hid (twoS andK NA NB = (NO,0)) ∧ Hid (twoS andK A B = (M,0)) ∧ Hid (twoS andK B A = (M,0)) ∧ Hid (twoS andK A NB = (ON,0)) ∧ Hid (withS A B = (decide (ON.length = 0), 0)) := by
  obtain ⟨e1, s1, l1⟩ := two_or sA sB (by omega)
  obtain ⟨e2, -, -⟩ := two_or sB sA (by omega)
  rw [alg_or sA sB lA lB] at e2
  obtain ⟨e3, -, -⟩ := two_or s1 sC (by omega)
  obtain ⟨e4, s4, l4⟩ := two_or sB sC (by omega)
  obtain ⟨e5, -, -⟩ := two_or sA s4 (by omega)
  rw [← alg_assoc sA sB sC lA lB lC] at e5
  obtain ⟨e6, s6, l6⟩ := one_not sA (by omega)
  obtain ⟨e7, s7, l7⟩ := one_not sB (by omega)
  obtain ⟨e8, -, -⟩ := one_not s6 (by omega)
  rw [alg_not sA lA] at e8
  obtain ⟨e9, -, -⟩ := one_not s1 (by omega)
  obtain ⟨e10, -, -⟩ := two_and s6 s7 (by omega)
  rw [← alg_morgan sA sB lA lB] at e10
  obtain ⟨e11, -, -⟩ := two_and sA sB (by omega)
  obtain ⟨e12, -, -⟩ := two_and sB sA (by omega)
  rw [alg_and sA sB lA lB] at e12
  obtain ⟨e13, -, -⟩ := two_and sA s7 (by omega)
  exact ⟨_, _, _, _, _, _, _, _, Lib.hid e1, Lib.hid e2, Lib.hid e3, Lib.hid e4, Lib.hid e5, Lib.hid e6, Lib.hid e7, Lib.hid e8, Lib.hid e9, Lib.hid e10, Lib.hid e11, Lib.hid e12, Lib.hid e13, Lib.hid (alg_within sA sB lA lB)⟩
def ItvRet (R : List Itv) (w : World) (e : Ending) (w' : World) : Prop := ∃ v, e = .returned (.tuple #[v, .int .i64 0]) ∧ Ext w w' ∧ ItvsR (ph w') v R
theorem setRes_0 {w : World} {r : List Itv × Int} {R : List Itv} {e : Ending} {w' : World} (h : SetRes w r e w') (he : r = (R, 0)) : ItvRet R w e w' := by subst he; exact h
theorem union_e {va vb : Value} {A B R : List Itv} {w : World} (ha : ItvsR (ph w) va A) (hb : ItvsR (ph w) vb B) (he : twoS orK A B = (R, 0)) : Calls Try.prog 17 #[va, vb] w (ItvRet R w) := (union_c va vb A B w ha hb).mono fun e w' h => setRes_0 h he
theorem meet_e {va vb : Value} {A B R : List Itv} {w : World} (ha : ItvsR (ph w) va A) (hb : ItvsR (ph w) vb B) (he : twoS andK A B = (R, 0)) : Calls Try.prog 18 #[va, vb] w (ItvRet R w) := (meet_c va vb A B w ha hb).mono fun e w' h => setRes_0 h he
theorem not_e {va : Value} {A R : List Itv} {w : World} (ha : ItvsR (ph w) va A) (he : notS A = (R, 0)) : Calls Try.prog 14 #[va] w (ItvRet R w) := (not_c va A w ha).mono fun e w' h => setRes_0 h he
theorem equal_t {vx vy : Value} {X : List Itv} {w : World} (hx : ItvsR (ph w) vx X) (hy : ItvsR (ph w) vy X) : Calls Try.prog 26 #[vx, vy] w (RetV w (.bool true)) := by
  have := equal_c vx vy X X w hx hy
  rwa [show decide (X = X) = true by simp] at this
theorem within_e {va vb : Value} {A B : List Itv} {q : Bool} {w : World} (ha : ItvsR (ph w) va A) (hb : ItvsR (ph w) vb B) (he : withS A B = (q, 0)) : Calls Try.prog 19 #[va, vb] w (RetV w (.tuple #[.bool q, .int .i64 0])) := by
  have := within_c va vb A B w ha hb
  rwa [he] at this
set_option maxRecDepth 100000 in
set_option maxHeartbeats 16000000 in
theorem spanAlgebra_c (va vb vc : Value) (la lb lc : List Int) (w : World) (ha : IntsR (ph w) va la) (hb : IntsR (ph w) vb lb) (hc : IntsR (ph w) vc lc) :
    Calls Try.prog 5 #[va, vb, vc] w (RetV w (.bool true)) := by
  have hsa := Lib.hid (fun w (ha : IntsR (ph w) va la) => set_c va la 4 w ha (by omega))
  have hsb := Lib.hid (fun w (hb : IntsR (ph w) vb lb) => set_c vb lb 4 w hb (by omega))
  have hsc := Lib.hid (fun w (hc : IntsR (ph w) vc lc) => set_c vc lc 4 w hc (by omega))
  go_enter Try.func5, Try.ntmps5
  go_wp2_with fail
  refine (hsa.out _ ha).mono ?_
  rintro e w1 ⟨vA, rawA, rfl, hx1, hA, gA, lA⟩
  have hx := hx1
  obtain ⟨sA, mA⟩ := norm_set gA (by omega)
  replace mA := Nat.le_trans mA lA
  clear lA gA hx1
  generalize (normS rawA).1 = A at *
  obtain ⟨pA, qA, rfl, -, hA⟩ := hA.form
  go_wp2_with fail
  refine (hsb.out _ (hb.mono mono_IntR hx.ple)).mono ?_
  rintro e w2 ⟨vB, rawB, rfl, hx2, hB, gB, lB⟩
  replace hx := hx.then hx2
  replace hA := hA.mono mono_ItvR hx2.ple
  obtain ⟨sB, mB⟩ := norm_set gB (by omega)
  replace mB := Nat.le_trans mB lB
  clear lB gB hx2
  generalize (normS rawB).1 = B at *
  obtain ⟨pB, qB, rfl, -, hB⟩ := hB.form
  go_wp2_with fail
  refine (hsc.out _ (hc.mono mono_IntR hx.ple)).mono ?_
  rintro e w3 ⟨vC, rawC, rfl, hx3, hC, gC, lC⟩
  replace hx := hx.then hx3
  replace hA := hA.mono mono_ItvR hx3.ple
  replace hB := hB.mono mono_ItvR hx3.ple
  obtain ⟨sC, mC⟩ := norm_set gC (by omega)
  replace mC := Nat.le_trans mC lC
  clear lC gC hx3
  generalize (normS rawC).1 = C at *
  obtain ⟨pC, qC, rfl, -, hC⟩ := hC.form
  clear ha hb hc hsa hsb hsc
  obtain ⟨AB, L, BC, NA, NB, NO, M, ON, e1, e2, e3, e4, e5, e6, e7, e8, e9, e10, e11, e12, e13, e14⟩ := alg_pack sA sB sC mA mB mC
  clear sA sB sC mA mB mC
  go_wp2_with fail
  refine (union_e hA hB e1.out).mono ?_
  rintro e w4 ⟨vAB, rfl, hx4, hAB⟩
  obtain ⟨pAB, qAB, rfl, -, hAB⟩ := hAB.form
  replace hx := hx.then hx4
  replace hA := hA.mono mono_ItvR hx4.ple
  replace hB := hB.mono mono_ItvR hx4.ple
  replace hC := hC.mono mono_ItvR hx4.ple
  clear hx4 e1
  go_wp2_with fail
  refine (union_e hB hA e2.out).mono ?_
  rintro e w5 ⟨vBA, rfl, hx5, hBA⟩
  obtain ⟨pBA, qBA, rfl, -, hBA⟩ := hBA.form
  replace hx := hx.then hx5
  replace hA := hA.mono mono_ItvR hx5.ple
  replace hB := hB.mono mono_ItvR hx5.ple
  replace hC := hC.mono mono_ItvR hx5.ple
  replace hAB := hAB.mono mono_ItvR hx5.ple
  clear hx5 e2
  go_wp2_with fail
  refine (union_e hAB hC e3.out).mono ?_
  rintro e w6 ⟨vLE, rfl, hx6, hLE⟩
  obtain ⟨pLE, qLE, rfl, -, hLE⟩ := hLE.form
  replace hx := hx.then hx6
  replace hA := hA.mono mono_ItvR hx6.ple
  replace hB := hB.mono mono_ItvR hx6.ple
  replace hC := hC.mono mono_ItvR hx6.ple
  replace hAB := hAB.mono mono_ItvR hx6.ple
  replace hBA := hBA.mono mono_ItvR hx6.ple
  clear hx6 e3
  go_wp2_with fail
  refine (union_e hB hC e4.out).mono ?_
  rintro e w7 ⟨vBC, rfl, hx7, hBC⟩
  obtain ⟨pBC, qBC, rfl, -, hBC⟩ := hBC.form
  replace hx := hx.then hx7
  replace hA := hA.mono mono_ItvR hx7.ple
  replace hB := hB.mono mono_ItvR hx7.ple
  replace hC := hC.mono mono_ItvR hx7.ple
  replace hAB := hAB.mono mono_ItvR hx7.ple
  replace hBA := hBA.mono mono_ItvR hx7.ple
  replace hLE := hLE.mono mono_ItvR hx7.ple
  clear hx7 e4
  go_wp2_with fail
  refine (union_e hA hBC e5.out).mono ?_
  rintro e w8 ⟨vRI, rfl, hx8, hRI⟩
  obtain ⟨pRI, qRI, rfl, -, hRI⟩ := hRI.form
  replace hx := hx.then hx8
  replace hA := hA.mono mono_ItvR hx8.ple
  replace hB := hB.mono mono_ItvR hx8.ple
  replace hC := hC.mono mono_ItvR hx8.ple
  replace hAB := hAB.mono mono_ItvR hx8.ple
  replace hBA := hBA.mono mono_ItvR hx8.ple
  replace hLE := hLE.mono mono_ItvR hx8.ple
  replace hBC := hBC.mono mono_ItvR hx8.ple
  clear hx8 e5
  go_wp2_with fail
  refine RetV_at (equal_t hAB hBA) ?_
  intro w9 hx9
  replace hx := hx.then hx9
  replace hA := hA.mono mono_ItvR hx9.ple
  replace hB := hB.mono mono_ItvR hx9.ple
  replace hC := hC.mono mono_ItvR hx9.ple
  replace hAB := hAB.mono mono_ItvR hx9.ple
  replace hBA := hBA.mono mono_ItvR hx9.ple
  replace hLE := hLE.mono mono_ItvR hx9.ple
  replace hBC := hBC.mono mono_ItvR hx9.ple
  replace hRI := hRI.mono mono_ItvR hx9.ple
  clear hx9
  clear hBA
  go_wp2_with fail
  refine RetV_at (equal_t hLE hRI) ?_
  intro w10 hx10
  replace hx := hx.then hx10
  replace hA := hA.mono mono_ItvR hx10.ple
  replace hB := hB.mono mono_ItvR hx10.ple
  replace hC := hC.mono mono_ItvR hx10.ple
  replace hAB := hAB.mono mono_ItvR hx10.ple
  replace hLE := hLE.mono mono_ItvR hx10.ple
  replace hBC := hBC.mono mono_ItvR hx10.ple
  replace hRI := hRI.mono mono_ItvR hx10.ple
  clear hx10
  clear hLE hRI hBC hC
  go_wp2_with fail
  refine (not_e hA e6.out).mono ?_
  rintro e w11 ⟨vNA, rfl, hx11, hNA⟩
  obtain ⟨pNA, qNA, rfl, -, hNA⟩ := hNA.form
  replace hx := hx.then hx11
  replace hA := hA.mono mono_ItvR hx11.ple
  replace hB := hB.mono mono_ItvR hx11.ple
  replace hAB := hAB.mono mono_ItvR hx11.ple
  clear hx11 e6
  go_wp2_with fail
  refine (not_e hB e7.out).mono ?_
  rintro e w12 ⟨vNB, rfl, hx12, hNB⟩
  obtain ⟨pNB, qNB, rfl, -, hNB⟩ := hNB.form
  replace hx := hx.then hx12
  replace hA := hA.mono mono_ItvR hx12.ple
  replace hB := hB.mono mono_ItvR hx12.ple
  replace hAB := hAB.mono mono_ItvR hx12.ple
  replace hNA := hNA.mono mono_ItvR hx12.ple
  clear hx12 e7
  go_wp2_with fail
  refine (not_e hNA e8.out).mono ?_
  rintro e w13 ⟨vBK, rfl, hx13, hBK⟩
  obtain ⟨pBK, qBK, rfl, -, hBK⟩ := hBK.form
  replace hx := hx.then hx13
  replace hA := hA.mono mono_ItvR hx13.ple
  replace hB := hB.mono mono_ItvR hx13.ple
  replace hAB := hAB.mono mono_ItvR hx13.ple
  replace hNA := hNA.mono mono_ItvR hx13.ple
  replace hNB := hNB.mono mono_ItvR hx13.ple
  clear hx13 e8
  go_wp2_with fail
  refine (not_e hAB e9.out).mono ?_
  rintro e w14 ⟨vNO, rfl, hx14, hNO⟩
  obtain ⟨pNO, qNO, rfl, -, hNO⟩ := hNO.form
  replace hx := hx.then hx14
  replace hA := hA.mono mono_ItvR hx14.ple
  replace hB := hB.mono mono_ItvR hx14.ple
  replace hAB := hAB.mono mono_ItvR hx14.ple
  replace hNA := hNA.mono mono_ItvR hx14.ple
  replace hNB := hNB.mono mono_ItvR hx14.ple
  replace hBK := hBK.mono mono_ItvR hx14.ple
  clear hx14 e9
  go_wp2_with fail
  refine (meet_e hNA hNB e10.out).mono ?_
  rintro e w15 ⟨vBO, rfl, hx15, hBO⟩
  obtain ⟨pBO, qBO, rfl, -, hBO⟩ := hBO.form
  replace hx := hx.then hx15
  replace hA := hA.mono mono_ItvR hx15.ple
  replace hB := hB.mono mono_ItvR hx15.ple
  replace hAB := hAB.mono mono_ItvR hx15.ple
  replace hNA := hNA.mono mono_ItvR hx15.ple
  replace hNB := hNB.mono mono_ItvR hx15.ple
  replace hBK := hBK.mono mono_ItvR hx15.ple
  replace hNO := hNO.mono mono_ItvR hx15.ple
  clear hx15 e10
  go_wp2_with fail
  refine (meet_e hA hB e11.out).mono ?_
  rintro e w16 ⟨vM, rfl, hx16, hM⟩
  obtain ⟨pM, qM, rfl, -, hM⟩ := hM.form
  replace hx := hx.then hx16
  replace hA := hA.mono mono_ItvR hx16.ple
  replace hB := hB.mono mono_ItvR hx16.ple
  replace hAB := hAB.mono mono_ItvR hx16.ple
  replace hNA := hNA.mono mono_ItvR hx16.ple
  replace hNB := hNB.mono mono_ItvR hx16.ple
  replace hBK := hBK.mono mono_ItvR hx16.ple
  replace hNO := hNO.mono mono_ItvR hx16.ple
  replace hBO := hBO.mono mono_ItvR hx16.ple
  clear hx16 e11
  go_wp2_with fail
  refine (meet_e hB hA e12.out).mono ?_
  rintro e w17 ⟨vW, rfl, hx17, hW⟩
  obtain ⟨pW, qW, rfl, -, hW⟩ := hW.form
  replace hx := hx.then hx17
  replace hA := hA.mono mono_ItvR hx17.ple
  replace hB := hB.mono mono_ItvR hx17.ple
  replace hAB := hAB.mono mono_ItvR hx17.ple
  replace hNA := hNA.mono mono_ItvR hx17.ple
  replace hNB := hNB.mono mono_ItvR hx17.ple
  replace hBK := hBK.mono mono_ItvR hx17.ple
  replace hNO := hNO.mono mono_ItvR hx17.ple
  replace hBO := hBO.mono mono_ItvR hx17.ple
  replace hM := hM.mono mono_ItvR hx17.ple
  clear hx17 e12
  go_wp2_with fail
  refine (meet_e hA hNB e13.out).mono ?_
  rintro e w18 ⟨vON, rfl, hx18, hON⟩
  obtain ⟨pON, qON, rfl, -, hON⟩ := hON.form
  replace hx := hx.then hx18
  replace hA := hA.mono mono_ItvR hx18.ple
  replace hB := hB.mono mono_ItvR hx18.ple
  replace hAB := hAB.mono mono_ItvR hx18.ple
  replace hNA := hNA.mono mono_ItvR hx18.ple
  replace hNB := hNB.mono mono_ItvR hx18.ple
  replace hBK := hBK.mono mono_ItvR hx18.ple
  replace hNO := hNO.mono mono_ItvR hx18.ple
  replace hBO := hBO.mono mono_ItvR hx18.ple
  replace hM := hM.mono mono_ItvR hx18.ple
  replace hW := hW.mono mono_ItvR hx18.ple
  clear hx18 e13
  go_wp2_with fail
  refine RetV_at (within_e hA hB e14.out) ?_
  intro w19 hx19
  replace hx := hx.then hx19
  replace hA := hA.mono mono_ItvR hx19.ple
  replace hB := hB.mono mono_ItvR hx19.ple
  replace hAB := hAB.mono mono_ItvR hx19.ple
  replace hNA := hNA.mono mono_ItvR hx19.ple
  replace hNB := hNB.mono mono_ItvR hx19.ple
  replace hBK := hBK.mono mono_ItvR hx19.ple
  replace hNO := hNO.mono mono_ItvR hx19.ple
  replace hBO := hBO.mono mono_ItvR hx19.ple
  replace hM := hM.mono mono_ItvR hx19.ple
  replace hW := hW.mono mono_ItvR hx19.ple
  replace hON := hON.mono mono_ItvR hx19.ple
  clear hx19
  clear hON hNA hNB hAB hB
  generalize ON.length = kk at *
  obtain ⟨qq, hq⟩ : ∃ q, decide (kk = 0) = q := ⟨_, rfl⟩
  have hq2 : ((kk : Int) == 0) = qq := by rw [← hq, Bool.eq_iff_iff]; simp
  clear e14
  go_wp2_with fail
  refine RetV_at (equal_t hBK hA) ?_
  intro w20 hx20
  replace hx := hx.then hx20
  replace hA := hA.mono mono_ItvR hx20.ple
  replace hBK := hBK.mono mono_ItvR hx20.ple
  replace hNO := hNO.mono mono_ItvR hx20.ple
  replace hBO := hBO.mono mono_ItvR hx20.ple
  replace hM := hM.mono mono_ItvR hx20.ple
  replace hW := hW.mono mono_ItvR hx20.ple
  clear hx20
  clear hBK hA
  go_wp2_with fail
  refine RetV_at (equal_t hNO hBO) ?_
  intro w21 hx21
  replace hx := hx.then hx21
  replace hNO := hNO.mono mono_ItvR hx21.ple
  replace hBO := hBO.mono mono_ItvR hx21.ple
  replace hM := hM.mono mono_ItvR hx21.ple
  replace hW := hW.mono mono_ItvR hx21.ple
  clear hx21
  clear hNO hBO
  go_wp2_with fail
  refine RetV_at (equal_t hM hW) ?_
  intro w22 hx22
  replace hx := hx.then hx22
  replace hM := hM.mono mono_ItvR hx22.ple
  replace hW := hW.mono mono_ItvR hx22.ple
  clear hx22
  clear hM hW
  go_wp2_with fail
  refine RetV_at (lives_c _) ?_
  intro w23 hx23
  replace hx := hx.then hx23
  go_wp2_with fail
  go_ret
  exact ⟨rfl, hx⟩
theorem spanAlgebraLaw (va vb vc : Value) (la lb lc : List Int) (w : World) (ha : IntsR (ph w) va la) (hb : IntsR (ph w) vb lb) (hc : IntsR (ph w) vc lc) (_ : la.length ≤ 140737488355328) (_ : lb.length ≤ 140737488355328) (_ : lc.length ≤ 140737488355328) :
    Calls Try.prog 5 #[va, vb, vc] w (RetV w (.bool true)) := spanAlgebra_c va vb vc la lb lc w ha hb hc
end Go.Proofs.Ytmbkefgmiehdiaa
