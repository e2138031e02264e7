/- LawTerms: the walk. -/
import Derived.Test.YtcmdekhhclgdcaaDoorLLi
import Derived.Test.YtcmdekhhclgdcaaDoorLAc
namespace Go.Proofs.YtcmdekhhclgdcaaDoor
open Go.RowKit Go.Shelf
set_option linter.unusedSimpArgs false
set_option linter.unusedVariables false
theorem valR_late {o : Int} {p : Nat} {d base : Int} {xs : List Ac} {X : Ac} (hX : ¬ X.day ≤ d) : valR o p d (xs ++ [X]) base = valR o p d xs base :=
  valR_eq (ys := xs) (valR_P ..) fun b hr hd => by
    constructor
    · intro h
      rcases List.mem_append.1 h with h | h
      · exact h
      · rw [List.mem_singleton.1 h] at hd; exact absurd hd hX
    · exact fun h => List.mem_append_left _ h
theorem valR_new {o : Int} {p : Nat} {d base : Int} {xs : List Ac} {X : Ac} (hX : rulB o p X = true) (hd : X.day ≤ d) (ht : ∀ b ∈ xs, rulB o p b = true → b.day ≤ d → ¬ lat b X) : valR o p d (xs ++ [X]) base = X.amount :=
  valR_eq (ys := xs ++ [X]) (.inr ⟨X, by simp, hX, hd, rfl, fun b hb hr hbd => by
    rcases List.mem_append.1 hb with hb | hb
    · exact ht b hb hr hbd
    · rw [List.mem_singleton.1 hb]; unfold lat; omega⟩) fun _ _ _ => Iff.rfl
theorem endE_more {c : Cal} {xs : List Ac} {o f d n n' r r' : Int} (hc : calE c = 0) (ho : 0 ≤ o ∧ o ≤ 11) (d0 : 0 ≤ d) (d1 : d < 120000) (n0 : 0 ≤ n) (hn : n ≤ n') (n1 : n' ≤ 120) (h : endE c xs o f d n = (r, 0)) (h' : endE c xs o f d n' = (r', 0)) : r ≤ r' :=
  endE_mono hc ho (addV_fine d0 n0 (by omega) (by omega)) (addV_fine d0 (by omega) (by omega) (by omega)) (addD_mono d0 (Int.le_refl _) hn) (fun _ h => h) (fun _ h => h) h h'
theorem inR_2 {n : Int} : inR 2 n = true ↔ 0 ≤ n ∧ n ≤ 120 := by
  unfold inR inB loR hiR; simp
/-- the laws of the section, told of endE -/
theorem termsLaw {xs : List Ac} {o : Nat} {d y mo : Int} (ho : o < 2) (d0 : 0 ≤ d) (d1 : d < 120000) (y0 : 0 ≤ y) (hf : ∀ x ∈ xs, FileOk x) (hm : valR o 2 d xs 4 = mo) :
    (0 ≤ mo ∧ mo ≤ 120) ∧ llastE defR o 1 2 d xs = endE (defCal o) xs o 1 d mo ∧
    llastE defR o 1 2 d (xs ++ [⟨21, d + 1, 1073741824, 0, o, 0, 0, 2, 119⟩]) = endE (defCal o) xs o 1 d mo ∧
    llastE defR o 1 2 d (xs ++ [⟨21, d, 1073741824, 0, o, 0, 0, 2, min 120 (mo + y)⟩]) = endE (defCal o) xs o 1 d (min 120 (mo + y)) := by
  have hin : inR 2 mo = true := by rw [← hm]; exact valR_in (inR_2.2 (by omega))
  have hmo := inR_2.1 hin
  refine ⟨hmo, ?_, ?_, ?_⟩
  · rw [llast_def _ (by omega) (by omega), hm]
  · rw [llast_def _ (by omega) (by omega), valR_late (by dsimp only; omega), hm, endE_rule (by intro x hx; rw [List.mem_singleton.1 hx]; exact ⟨show (21 : Int) ≠ 9 by decide, show (21 : Int) ≠ 20 by decide⟩)]
  · have hr : rulB o 2 ⟨21, d, 1073741824, 0, o, 0, 0, 2, min 120 (mo + y)⟩ = true := by
      unfold rulB
      have h1 : inB d 0 131072 = true := inB_t (by omega)
      have h2 : inR 2 (min 120 (mo + y)) = true := inR_2.2 (by omega)
      simp [h1, h2]
    rw [llast_def _ (by omega) (by omega), valR_new hr (Int.le_refl _) (fun b hb hr hbd => by
      have := hf b hb
      unfold FileOk at this
      dsimp only at hbd
      unfold lat; dsimp only; omega), endE_rule (by intro x hx; rw [List.mem_singleton.1 hx]; exact ⟨show (21 : Int) ≠ 9 by decide, show (21 : Int) ≠ 20 by decide⟩)]
set_option maxRecDepth 100000 in
set_option maxHeartbeats 40000000 in
theorem lawTerms_c (m : List Int) (vm : Value) (day office more : Int) (w : World) (hm : IntsR (ph w) vm m) (hd : I64 day) (ho : I64 office) (hmr : I64 more) (hV : VL (ph w)) (hR : VR (ph w)) :
    Calls Tryd.prog 12 #[vm, .int .i64 day, .int .i64 office, .int .i64 more] w (RetV w (.bool true)) := by
  have har := fun w => around_c day 120000 w hd (by omega) (by omega)
  obtain ⟨d0, d1⟩ := aroundV_range (m := 120000) hd (by omega)
  generalize aroundV day 120000 = d at *
  have har2 := fun w => around_c office 2 w ho (by omega) (by omega)
  obtain ⟨o0, o1⟩ := aroundV_range (m := 2) ho (by omega)
  generalize aroundV office 2 = o at *
  have har3 := fun w => around_c more 30 w hmr (by omega) (by omega)
  obtain ⟨y0, y1⟩ := aroundV_range (m := 30) hmr (by omega)
  generalize aroundV more 30 = y at *
  obtain ⟨o, rfl⟩ : ∃ n : Nat, o = n := ⟨o.toNat, by omega⟩
  have hac := fun w hm => acts17_c m vm d 10 w hm d0 (by omega) (by omega)
  obtain ⟨ma, mc, rfl, mlen, hm⟩ := hm.form
  go_enter Tryd.func12, Tryd.ntmps12
  go_wp2_with fail
  refine RetV_at (har _) ?_
  intro w2 hx2
  go_wp2_with fail
  refine (hac _ (hm.mono mono_IntR hx2.ple)).mono ?_
  rintro e w3 ⟨va, xs, rfl, hx3', hxl, hfo, hA⟩
  have hx3 := hx2.then hx3'
  have hxlen : xs.length ≤ 90000 := by omega
  replace hA : ActsR (ph w3) va xs := hA.rep mono_ActR (noH_le _)
  obtain ⟨aa, ac, rfl, -, -⟩ := id hA.form
  clear hac har hxl hx3' hx2 hm
  go_wp2_with fail
  refine RetV_at (har2 _) ?_
  intro w4 hx4'
  have hx4 := hx3.then hx4'
  replace hA := hA.mono mono_ActR hx4'.ple
  clear har2 hx3 hx4'
  go_wp2_with fail
  refine (lawDefault_c _).mono ?_
  rintro e w7 ⟨v, rfl, hx7', hr⟩
  have hx7 := hx4.then hx7'
  replace hA := hA.mono mono_ActR hx7'.ple
  clear hx4 hx7'
  obtain ⟨a, b, rfl, hC, hB⟩ := id hr
  obtain ⟨ca, cc, rfl, -, -⟩ := id hC.form
  obtain ⟨ba, bc, rfl, -, -⟩ := hB.form
  have h1 : o < defR.1.length := by rw [(lawE_len lawE_def).1]; omega
  have hgd : defR.1[o] = defCal o := by rw [← defC_at (o := o) (by omega), List.getD_eq_getElem?_getD, List.getElem?_eq_getElem h1, Option.getD_some]
  obtain ⟨kb, ko, p1, n1, q1, p2, n2, q2, rfl, g1, g2, gl, hcr⟩ := CalE.at hC o h1
  rw [hgd] at hcr
  have hl1 : defR.1.length = 12 := (lawE_len lawE_def).1
  have hl2 : defR.2.length = 12 := (lawE_len lawE_def).2
  rw [hl1, hl2] at hr
  try simp only [hl1, hl2]
  have ho12 : (o : Int) < 12 := by omega
  clear h1 hgd hl1 hl2 hC hB
  have hO := Proofs.YtcmdekhhclgdcaaDoor.Own.new w7 #[.slice (some ⟨kb, ko, none⟩) 12 cc, .slice ba 12 bc] 83
  have hxn := Ext.new w7 (.cells #[.slice (some ⟨kb, ko, none⟩) 12 cc, .slice ba 12 bc] 83)
  have hx8 := hx7.then hxn
  replace hA := hA.mono mono_ActR hxn.ple
  replace hr := hr.mono hxn.ple
  replace hcr := hcr.mono hxn.ple
  replace g1 := hxn.cell1 g1
  replace g2 := hxn.cell1 g2
  replace hV := hV.mono hx8.ple
  replace hR := hR.mono hx8.ple
  have gl8 : kb < (w7.alloc (.cells #[.slice (some ⟨kb, ko, none⟩) 12 cc, .slice ba 12 bc] 83)).heap.size := by have := hxn.size; omega
  clear gl hxn hx7
  go_upto_region 5 with (fail)
  generalize hW7 : w7.alloc _ = W7 at *
  have c0 : _ = some (Value.slice (some ⟨kb, ko, none⟩) 12 cc) := hO.facts.1 0
  have c1 : _ = some (Value.slice ba 12 bc) := hO.facts.1 1
  have l1 := hO.lt
  clear hO hW7
  generalize w7.heap.size = bx at *
  obtain ⟨mo, hmo⟩ : ∃ mo, valR o 2 d xs 4 = mo := ⟨_, rfl⟩
  have hvl := fun w hr hA hV hR => lValue_c defR o 2 d (.agg #[.slice (some ⟨kb, ko, none⟩) 12 cc, .slice ba 12 bc]) (.slice aa xs.length ac) xs w hr hA (by omega) hV hR
  rw [lval_def xs (by omega) (by omega) (by omega), show ((o : Int)).toNat = o from Int.toNat_natCast o, show ((2 : Int)).toNat = 2 from rfl, baseV_2 (by omega), hmo] at hvl
  dsimp only [two] at hvl
  obtain ⟨⟨mo0, mo1⟩, t1, t2, t3⟩ := termsLaw (y := y) (by omega) d0 d1 y0 hfo.out hmo
  have hla := fun w hr hA hV hR => lLast_c defR o 1 2 d (.agg #[.slice (some ⟨kb, ko, none⟩) 12 cc, .slice ba 12 bc]) (.slice aa xs.length ac) xs w hr hA (by omega) hV hR
  rw [t1] at hla
  have hen := fun w hr hA hV => end_c (defCal o) xs o 1 d mo (.agg #[.slice p1 n1 q1, .slice p2 n2 q2]) (.slice aa xs.length ac) w hr hA (by omega) hV
  have hI1 : Ac.I ⟨21, d + 1, 1073741824, 0, o, 0, 0, 2, 119⟩ := by unfold Ac.I I64; dsimp only; omega
  have hI2 : Ac.I ⟨21, d, 1073741824, 0, o, 0, 0, 2, min 120 (mo + y)⟩ := by unfold Ac.I I64; dsimp only; omega
  have hlb := fun va w hr hA hV hR => lLast_c defR o 1 2 d (.agg #[.slice (some ⟨kb, ko, none⟩) 12 cc, .slice ba 12 bc]) va (xs ++ [⟨21, d + 1, 1073741824, 0, o, 0, 0, 2, 119⟩]) w hr hA (by simp; omega) hV hR
  rw [t2] at hlb
  have hlc := fun va w hr hA hV hR => lLast_c defR o 1 2 d (.agg #[.slice (some ⟨kb, ko, none⟩) 12 cc, .slice ba 12 bc]) va (xs ++ [⟨21, d, 1073741824, 0, o, 0, 0, 2, min 120 (mo + y)⟩]) w hr hA (by simp; omega) hV hR
  rw [t3] at hlc
  have hmon : ∀ r r', endE (defCal o) xs o 1 d mo = (r, 0) → endE (defCal o) xs o 1 d (min 120 (mo + y)) = (r', 0) → r ≤ r' := fun r r' h h' => endE_more (calE_def (by omega)) (by omega) d0 d1 mo0 (by omega) (by omega) h h'
  generalize endE (defCal o) xs o 1 d mo = e1 at *
  generalize endE (defCal o) xs o 1 d (min 120 (mo + y)) = e2 at *
  obtain ⟨e1, f1⟩ := e1
  obtain ⟨e2, f2⟩ := e2
  dsimp only [two] at hla hen hlb hlc
  replace hvl := Lib.hid hvl
  replace hla := Lib.hid hla
  replace hen := Lib.hid hen
  replace hlb := Lib.hid hlb
  replace hlc := Lib.hid hlc
  replace hmon := Lib.hid hmon
  clear t1 t2 t3 hmo
  go_wp2_with fail
  refine RetV_at (hvl.out _ hr hA hV hR) ?_
  intro w9 hx9
  replace c0 := hx9.cell1 c0
  replace c1 := hx9.cell1 c1
  replace g1 := hx9.cell1 g1
  replace g2 := hx9.cell1 g2
  have l9 : bx < w9.heap.size := by have := hx9.size; omega
  have gl9 : kb < w9.heap.size := by have := hx9.size; omega
  replace hr := hr.mono hx9.ple
  replace hcr := hcr.mono hx9.ple
  replace hA := hA.mono mono_ActR hx9.ple
  replace hV := hV.mono hx9.ple
  replace hR := hR.mono hx9.ple
  replace hx8 := hx8.then hx9
  clear hvl l1 gl8 hx9
  go_wp2_with fail
  refine RetV_at (hla.out _ hr hA hV hR) ?_
  intro wa hxa
  replace c0 := hxa.cell1 c0
  replace c1 := hxa.cell1 c1
  replace g1 := hxa.cell1 g1
  replace g2 := hxa.cell1 g2
  have la : bx < wa.heap.size := by have := hxa.size; omega
  have gla : kb < wa.heap.size := by have := hxa.size; omega
  replace hr := hr.mono hxa.ple
  replace hcr := hcr.mono hxa.ple
  replace hA := hA.mono mono_ActR hxa.ple
  replace hV := hV.mono hxa.ple
  replace hR := hR.mono hxa.ple
  replace hx8 := hx8.then hxa
  clear hla l9 gl9 hxa
  go_wp2_with fail
  refine RetV_at (hen.out _ hcr hA hV) ?_
  intro wb hxb
  replace c0 := hxb.cell1 c0
  replace c1 := hxb.cell1 c1
  have lb : bx < wb.heap.size := by have := hxb.size; omega
  replace hr := hr.mono hxb.ple
  replace hA := hA.mono mono_ActR hxb.ple
  replace hV := hV.mono hxb.ple
  replace hR := hR.mono hxb.ple
  replace hx8 := hx8.then hxb
  clear hen la gla hxb hcr g1 g2
  have hMa := ((Mem.start wb noH (noH_le _)).new #[] 63).asOwn (xs := ([] : List Ac)) (E := ActR) (sz := 19) 0 rfl mono_ActR (n := 0) (by simp) (by decide) rfl rfl
  simp only [List.nil_append, List.set_cons_zero] at hMa
  have hSa := (Src.ofRep (w := wb.alloc (.cells #[] 63)) (hA.mono mono_ActR (Ext.new _ _).ple) (PLe.refl _)).free (H' := noH) fun _ _ h => h
  go_upto_region 10 with (fail)
  go_wp2_with (first | (at_builtin; refine wpList_append_M 0 rfl _ _ 24 rfl Tryd.underlying24 infoAct rfl rfl rfl hMa rfl hSa one_ActR (by simp; omega) (by simp; omega) ?c5))
  case c5 =>
    intro v1 wc hM1
    try simp only [List.nil_append, List.set_cons_zero] at hM1
    obtain ⟨na, nc, rfl, -⟩ := hM1.form 0 rfl
    have hM2 := hM1.allocN (.cells (actC ⟨21, d + 1, 1073741824, 0, o, 0, 0, 2, 119⟩).toArray 63)
    have hS1 := Src.lit1 (w := wc.alloc (.cells (actC ⟨21, d + 1, 1073741824, 0, o, 0, 0, 2, 119⟩).toArray 63)) (b := wc.heap.size) (sz := 19) (E := ActR) (H := noH) (x := ⟨21, d + 1, 1073741824, 0, o, 0, 0, 2, 119⟩) (cs := actC ⟨21, d + 1, 1073741824, 0, o, 0, 0, 2, 119⟩) ⟨rfl, hI1⟩ rfl (fun j => by rw [(Proofs.YtcmdekhhclgdcaaDoor.Own.new wc (actC ⟨21, d + 1, 1073741824, 0, o, 0, 0, 2, 119⟩).toArray 63).facts.1 j]; simp)
    go_upto_region 11 with (first | (refine wpList_build_act rfl _ rfl (⟨21, d + 1, 1073741824, 0, o, 0, 0, 2, 119⟩) (by kernel_rfl) ?_) | (refine wpList_slice_act rfl _ rfl (⟨21, d + 1, 1073741824, 0, o, 0, 0, 2, 119⟩) rfl ?_) | (at_builtin; refine wpList_append_M 0 rfl _ _ 24 rfl Tryd.underlying24 infoAct rfl rfl rfl hM2 rfl hS1 one_ActR (by simp; omega) (by simp; omega) ?d5))
    case d5 =>
      intro v2 wd hM3
      try simp only [List.set_cons_zero] at hM3
      have hA1 := hM3.rep 0 rfl
      have hxd := hM3.ex
      obtain ⟨nb, nd, rfl, -⟩ := hM3.form 0 rfl
      simp only [List.length_append, List.length_cons, List.length_nil, Nat.zero_add] at hA1
      replace c0 := hxd.cell1 c0
      replace c1 := hxd.cell1 c1
      have ld : bx < _ := Nat.lt_of_lt_of_le lb hxd.size
      replace hr := hr.mono hxd.ple
      replace hA := hA.mono mono_ActR hxd.ple
      replace hV := hV.mono hxd.ple
      replace hR := hR.mono hxd.ple
      replace hx8 := hx8.then hxd
      clear hMa hSa hM1 hM2 hM3 hS1 hI1 lb
      go_wp2_with fail
      refine RetV_at (hlb.out _ _ hr hA1 hV hR) ?_
      intro we hxe
      replace c0 := hxe.cell1 c0
      replace c1 := hxe.cell1 c1
      have le : bx < _ := Nat.lt_of_lt_of_le ld hxe.size
      replace hr := hr.mono hxe.ple
      replace hA := hA.mono mono_ActR hxe.ple
      replace hV := hV.mono hxe.ple
      replace hR := hR.mono hxe.ple
      replace hx8 := hx8.then hxe
      clear hlb hA1 ld hxe hxd
      have hMb := ((Mem.start we noH (noH_le _)).new #[] 63).asOwn (xs := ([] : List Ac)) (E := ActR) (sz := 19) 0 rfl mono_ActR (n := 0) (by simp) (by decide) rfl rfl
      simp only [List.nil_append, List.set_cons_zero] at hMb
      have hSb := (Src.ofRep (w := we.alloc (.cells #[] 63)) (hA.mono mono_ActR (Ext.new _ _).ple) (PLe.refl _)).free (H' := noH) fun _ _ h => h
      go_upto_region 12 with (fail)
      go_wp2_with (first | (at_builtin; refine wpList_append_M 0 rfl _ _ 24 rfl Tryd.underlying24 infoAct rfl rfl rfl hMb rfl hSb one_ActR (by simp; omega) (by simp; omega) ?c6))
      case c6 =>
        intro v3 wf hM5
        try simp only [List.nil_append, List.set_cons_zero] at hM5
        obtain ⟨nf, ng, rfl, -⟩ := hM5.form 0 rfl
        go_wp2_with fail
        refine RetV_at (har3 _) ?_
        intro wg hxg
        have hM6 := hM5.ext hxg
        have hwm : IntKind.i64.wrap (mo + y) = mo + y := by rw [IntKind.wrap_i64]; omega
        have hM7 := hM6.allocN (.cells (actC ⟨21, d, 1073741824, 0, o, 0, 0, 2, min 120 (mo + y)⟩).toArray 63)
        have hS2 := Src.lit1 (w := wg.alloc (.cells (actC ⟨21, d, 1073741824, 0, o, 0, 0, 2, min 120 (mo + y)⟩).toArray 63)) (b := wg.heap.size) (sz := 19) (E := ActR) (H := noH) (x := ⟨21, d, 1073741824, 0, o, 0, 0, 2, min 120 (mo + y)⟩) (cs := actC ⟨21, d, 1073741824, 0, o, 0, 0, 2, min 120 (mo + y)⟩) ⟨rfl, hI2⟩ rfl (fun j => by rw [(Proofs.YtcmdekhhclgdcaaDoor.Own.new wg (actC ⟨21, d, 1073741824, 0, o, 0, 0, 2, min 120 (mo + y)⟩).toArray 63).facts.1 j]; simp)
        go_upto_region 13 with (first | (refine wpList_build_act rfl _ rfl (⟨21, d, 1073741824, 0, o, 0, 0, 2, min 120 (mo + y)⟩) (by kernel_rfl) ?_) | (refine wpList_slice_act rfl _ rfl (⟨21, d, 1073741824, 0, o, 0, 0, 2, min 120 (mo + y)⟩) rfl ?_) | (at_builtin; refine wpList_append_M 0 rfl _ _ 24 rfl Tryd.underlying24 infoAct rfl rfl rfl hM7 rfl hS2 one_ActR (by simp; omega) (by simp; omega) ?d6))
        case d6 =>
          intro v4 wh hM8
          try simp only [List.set_cons_zero] at hM8
          have hA2 := hM8.rep 0 rfl
          have hxh := hM8.ex
          obtain ⟨nh, ni, rfl, -⟩ := hM8.form 0 rfl
          simp only [List.length_append, List.length_cons, List.length_nil, Nat.zero_add] at hA2
          replace c0 := hxh.cell1 c0
          replace c1 := hxh.cell1 c1
          have lh : bx < _ := Nat.lt_of_lt_of_le le hxh.size
          replace hr := hr.mono hxh.ple
          replace hA := hA.mono mono_ActR hxh.ple
          replace hV := hV.mono hxh.ple
          replace hR := hR.mono hxh.ple
          replace hx8 := hx8.then hxh
          clear hMb hSb hM5 hM6 hM7 hM8 hS2 hI2 le hwm hxg har3
          go_wp2_with fail
          refine RetV_at (hlc.out _ _ hr hA2 hV hR) ?_
          intro wi hxi
          replace c0 := hxi.cell1 c0
          replace c1 := hxi.cell1 c1
          have li : bx < _ := Nat.lt_of_lt_of_le lh hxi.size
          replace hr := hr.mono hxi.ple
          replace hA := hA.mono mono_ActR hxi.ple
          replace hV := hV.mono hxi.ple
          replace hR := hR.mono hxi.ple
          replace hx8 := hx8.then hxi
          clear hlc hA2 lh hxi hxh
          have b1 : (f1 != f1) = false := by simp
          have b2 : (e1 != e1) = false := by simp
          have hlv := lives17_c wi hV hR
          by_cases h1 : f1 = 0
          · subst h1
            by_cases h2 : f2 = 0
            · subst h2
              have h3 := hmon.out e1 e2 rfl rfl
              have hb3 : decide (e1 ≤ e2) = true := by simpa using h3
              clear hmon
              go_wp2_with fail
              refine RetV_at hlv ?_
              intro wj hxj
              go_wp2_with fail
              go_ret
              exact ⟨rfl, hx8.then hxj⟩
            · have hb2 : (f2 != 0) = true := by rw [bne_iff_ne]; exact h2
              clear hmon h2
              go_wp2_with fail
              refine RetV_at hlv ?_
              intro wj hxj
              go_wp2_with fail
              go_ret
              exact ⟨rfl, hx8.then hxj⟩
          · have hb1 : (f1 != 0) = true := by rw [bne_iff_ne]; exact h1
            clear hmon h1
            go_wp2_with fail
            refine RetV_at hlv ?_
            intro wj hxj
            go_wp2_with fail
            go_ret
            exact ⟨rfl, hx8.then hxj⟩
theorem lawTermsLaw (vm : Value) (m : List Int) (day office more : Int) (w : World) (hm : IntsR (ph w) vm m) (_ : m.length ≤ 140737488355328) (hd : I64 day) (ho : I64 office) (hmr : I64 more) (hV : VL (ph w)) (hR : VR (ph w)) :
    Calls Tryd.prog 12 #[vm, .int .i64 day, .int .i64 office, .int .i64 more] w (RetV w (.bool true)) :=
  lawTerms_c m vm day office more w hm hd ho hmr hV hR
end Go.Proofs.YtcmdekhhclgdcaaDoor
