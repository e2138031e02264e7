/- package law: Last. -/
import Derived.Test.YtcmdekhhclgdcaaGreatDoorLVl
namespace Go.Proofs.YtcmdekhhclgdcaaGreatDoor
open Go.RowKit Go.Shelf
set_option linter.unusedSimpArgs false
set_option linter.unusedVariables false
theorem lvalE_ok {r : Rul} {o p d m : Int} {xs : List Ac} (h : lvalE r o p d xs = (m, 0)) : lchkE r o p d = 0 ∧ m = valR o p.toNat d xs (baseV r o.toNat p.toNat) ∧ inR p.toNat m = true := by
  unfold lvalE at h
  split at h
  · rename_i h1
    injection h with h2 h3
    exact absurd h3 h1
  · rename_i h1
    injection h with h2 h3
    have h0 : lchkE r o p d = 0 := by simpa using h1
    obtain ⟨hl, ho, hp, hd⟩ := lchk_0 h0
    obtain ⟨q1, q2, q3, q4, q5⟩ := lawE_at hl (o := o.toNat) (by omega)
    obtain ⟨q6, q7⟩ := q5 p.toNat (by omega)
    refine ⟨h0, h2.symm, ?_⟩
    rw [← h2]
    exact valR_in (by rw [q7]; exact q6)
/-- the last day of a term, and the error -/
noncomputable def llastE (r : Rul) (o f p d : Int) (xs : List Ac) : Int × Int :=
  if (lvalE r o p d xs).2 ≠ 0 then (0, (lvalE r o p d xs).2) else if 7 < p then (0, 1) else endE (r.1.getD o.toNat ([], [])) xs o f d (if p = 7 then (lvalE r o p d xs).1 * 12 else (lvalE r o p d xs).1)
set_option maxRecDepth 100000 in
set_option maxHeartbeats 2000000 in
theorem lLast_c (r : Rul) (o f p d : Int) (v va : Value) (xs : List Ac) (w : World) (hr : RulR (ph w) v r) (hA : ActsR (ph w) va xs) (hlen : xs.length ≤ 100000) (hV : VL (ph w)) (hR : VR (ph w)) :
    Calls Tryz.prog 17 #[v, .int .i64 o, .int .i64 f, .int .i64 p, .int .i64 d, va] w (RetV w (two (llastE r o f p d xs).1 (llastE r o f p d xs).2)) := by
  have hvl := fun w hr hA hV hR => lValue_c r o p d v va xs w hr hA hlen hV hR
  have hEE : Hid (llastE r o f p d xs = if (lvalE r o p d xs).2 ≠ 0 then (0, (lvalE r o p d xs).2) else if 7 < p then (0, 1) else endE (r.1.getD o.toNat ([], [])) xs o f d (if p = 7 then (lvalE r o p d xs).1 * 12 else (lvalE r o p d xs).1)) := rfl
  have hok := fun (m : Int) (h : lvalE r o p d xs = (m, 0)) => lvalE_ok h
  obtain ⟨a, b, rfl, hC, hB⟩ := id hr
  obtain ⟨ca, cc, rfl, clen, -⟩ := id hC.form
  obtain ⟨ba, bc, rfl, blen, -⟩ := hB.form
  obtain ⟨xa, xc, rfl, -, -⟩ := id hA.form
  have hx := Ext.new w (.cells #[.slice ca r.1.length cc, .slice ba r.2.length bc] 38)
  have hO := Proofs.YtcmdekhhclgdcaaGreatDoor.Own.new w #[.slice ca r.1.length cc, .slice ba r.2.length bc] 38
  generalize lvalE r o p d xs = q at *
  obtain ⟨m, le⟩ := q
  dsimp only [two] at hvl hEE ⊢
  by_cases h0 : le = 0
  · subst h0
    obtain ⟨k1, -, k3⟩ := hok m rfl
    by_cases h7 : 7 < p
    · have hE : Hid (llastE r o f p d xs = (0, 1)) := by show _ = _; rw [hEE.out, if_neg (by simp), if_pos h7]
      clear hok hEE k1 k3
      go_enter Tryz.func17, Tryz.ntmps17
      go_wp2_with fail
      refine RetV_at (hvl _ (hr.mono hx.ple) (hA.mono mono_ActR hx.ple) (hV.mono hx.ple) (hR.mono hx.ple)) ?_
      intro w2 hx2
      go_wp2_with fail
      go_ret2
      rw [hE.out]
      exact ⟨rfl, hx.then hx2⟩
    · have hE : Hid (llastE r o f p d xs = endE (r.1.getD o.toNat ([], [])) xs o f d (if p = 7 then m * 12 else m)) := by show _ = _; rw [hEE.out, if_neg (by simp), if_neg h7]
      obtain ⟨hl, ho, hp, hd⟩ := lchk_0 k1
      obtain ⟨o, rfl⟩ : ∃ n : Nat, o = n := ⟨o.toNat, by omega⟩
      simp only [Int.toNat_natCast] at hE
      obtain ⟨hl1, hl2⟩ := lawE_len hl
      have h1 : o < r.1.length := by omega
      have hgd : r.1.getD o ([], []) = r.1[o] := by rw [List.getD_eq_getElem?_getD, List.getElem?_eq_getElem h1, Option.getD_some]
      rw [hgd] at hE
      obtain ⟨kb, ko, p1, n1, q1, p2, n2, q2, rfl, g1, g2, gl, hcr⟩ := CalE.at hC o h1
      have hen := fun w hr hA hV => end_c (r.1[o]'h1) xs o f d (if p = 7 then m * 12 else m) (.agg #[.slice p1 n1 q1, .slice p2 n2 q2]) (.slice xa xs.length xc) w hr hA hlen hV
      generalize r.1[o] = cal at *
      rw [hl1] at hO hx hvl
      rw [hl1] at hr
      try simp only [hl1]
      have ho12 : (o : Int) < 12 := by omega
      have hm : 0 ≤ m ∧ m ≤ 1099511627776 := by
        unfold inR inB at k3; simp only [Bool.and_eq_true, decide_eq_true_eq] at k3
        unfold loR hiR at k3
        constructor
        · have := k3.1; split at this <;> omega
        · have := k3.2; split at this <;> (try split at this) <;> (try split at this) <;> omega
      have h7' : ¬ 7 < p := h7
      clear hok hEE k1 k3 hl hl1 hl2 hgd hC hB clen blen h1
      replace hvl := Lib.hid hvl
      by_cases hp7 : p = 7
      · have hpb : (p == 7) = true := by simpa using hp7
        rw [if_pos hp7] at hE
        simp only [if_pos hp7] at hen
        generalize endE cal xs o f d (m * 12) = rr at *
        obtain ⟨r1, r2⟩ := rr
        dsimp only [two] at hen
        replace hen := Lib.hid hen
        clear hp7
        have hwm : IntKind.i64.wrap (m * 12) = m * 12 := by rw [IntKind.wrap_i64]; omega
        go_enter Tryz.func17, Tryz.ntmps17
        go_wp2_with fail
        refine RetV_at (hvl.out _ (hr.mono hx.ple) (hA.mono mono_ActR hx.ple) (hV.mono hx.ple) (hR.mono hx.ple)) ?_
        intro w2 hx2
        have hxx := hx.then hx2
        replace g1 := hxx.cell1 g1
        replace g2 := hxx.cell1 g2
        have c0 : _ = some (Value.slice (some ⟨kb, ko, none⟩) 12 cc) := (hO.keep hx2).facts.1 0
        have l1 := (hO.keep hx2).lt
        have l2 : kb < w2.heap.size := Nat.lt_of_lt_of_le gl hxx.size
        go_wp2_with fail
        refine RetV_at (hen.out _ (hcr.mono hxx.ple) (hA.mono mono_ActR hxx.ple) (hV.mono hxx.ple)) ?_
        intro w3 hx3
        go_wp2_with fail
        go_ret2
        rw [hE.out]
        exact ⟨rfl, hxx.then hx3⟩
      · have hpb : (p == 7) = false := by simpa using hp7
        rw [if_neg hp7] at hE
        simp only [if_neg hp7] at hen
        generalize endE cal xs o f d m = rr at *
        obtain ⟨r1, r2⟩ := rr
        dsimp only [two] at hen
        replace hen := Lib.hid hen
        clear hp7
        go_enter Tryz.func17, Tryz.ntmps17
        go_wp2_with fail
        refine RetV_at (hvl.out _ (hr.mono hx.ple) (hA.mono mono_ActR hx.ple) (hV.mono hx.ple) (hR.mono hx.ple)) ?_
        intro w2 hx2
        have hxx := hx.then hx2
        replace g1 := hxx.cell1 g1
        replace g2 := hxx.cell1 g2
        have c0 : _ = some (Value.slice (some ⟨kb, ko, none⟩) 12 cc) := (hO.keep hx2).facts.1 0
        have l1 := (hO.keep hx2).lt
        have l2 : kb < w2.heap.size := Nat.lt_of_lt_of_le gl hxx.size
        go_wp2_with fail
        refine RetV_at (hen.out _ (hcr.mono hxx.ple) (hA.mono mono_ActR hxx.ple) (hV.mono hxx.ple)) ?_
        intro w3 hx3
        go_wp2_with fail
        go_ret2
        rw [hE.out]
        exact ⟨rfl, hxx.then hx3⟩
  · have hE : Hid (llastE r o f p d xs = (0, le)) := by show _ = _; rw [hEE.out, if_pos h0]
    have hb : (le != 0) = true := by rw [bne_iff_ne]; exact h0
    clear h0 hok hEE
    go_enter Tryz.func17, Tryz.ntmps17
    go_wp2_with fail
    refine RetV_at (hvl _ (hr.mono hx.ple) (hA.mono mono_ActR hx.ple) (hV.mono hx.ple) (hR.mono hx.ple)) ?_
    intro w2 hx2
    go_wp2_with fail
    go_ret2
    rw [hE.out]
    exact ⟨rfl, hx.then hx2⟩
end Go.Proofs.YtcmdekhhclgdcaaGreatDoor
