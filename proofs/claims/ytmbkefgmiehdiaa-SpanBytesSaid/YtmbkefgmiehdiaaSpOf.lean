/- the reference of package span: Of. -/
import Derived.Deep.CutBlock
import Derived.Test.YtmbkefgmiehdiaaSpCv
namespace Go.Proofs.Ytmbkefgmiehdiaa
open Go.RowKit Go.Shelf
set_option linter.unusedSimpArgs false
set_option linter.unusedVariables false
/-- the cells with their marks, and the end -/
def zipZ (ps : List Rat2) (bs : List Bool) : List (En × Bool) := (starts ps).zip bs ++ [(topE, false)]
theorem zipZ_len {ps : List Rat2} {bs : List Bool} (h : bs.length = 2 * ps.length + 1) : (zipZ ps bs).length = 2 * ps.length + 2 := by
  unfold zipZ; rw [List.length_append, List.length_zip, starts_len, h]; simp
theorem zipZ_at {ps : List Rat2} {bs : List Bool} (h : bs.length = 2 * ps.length + 1) {c : Nat} (hc : c < 2 * ps.length + 1) {e : En} (he : (starts ps)[c]? = some e) : (zipZ ps bs).drop c = (e, bs[c]'(by omega)) :: (zipZ ps bs).drop (c + 1) := by
  have hl : c < (zipZ ps bs).length := by rw [zipZ_len h]; omega
  have h2 : c < ((starts ps).zip bs).length := by rw [List.length_zip, starts_len, h]; omega
  have hg : (zipZ ps bs)[c]? = some (e, bs[c]'(by omega)) := by
    unfold zipZ
    rw [List.getElem?_append_left h2, List.getElem?_zip_eq_some]
    exact ⟨he, List.getElem?_eq_getElem _⟩
  obtain ⟨h5, h6⟩ := List.getElem?_eq_some_iff.1 hg
  rw [List.drop_eq_getElem_cons hl, h6]
theorem zipZ_end {ps : List Rat2} {bs : List Bool} (h : bs.length = 2 * ps.length + 1) : (zipZ ps bs).drop (2 * ps.length + 1) = [(topE, false)] := by
  unfold zipZ
  rw [List.drop_left' (by rw [List.length_zip, starts_len, h]; simp)]
/-- the end of cell c -/
def endC (ps : List Rat2) (c : Nat) : En := ((starts ps)[c + 1]?).getD topE
theorem zipZ_next {ps : List Rat2} {bs : List Bool} (h : bs.length = 2 * ps.length + 1) {c : Nat} (hc : c < 2 * ps.length + 1) (hn : ∀ h2 : c + 1 < 2 * ps.length + 1, bs[c + 1]'(by omega) = false) : ∃ r, (zipZ ps bs).drop (c + 1) = (endC ps c, false) :: r := by
  by_cases h2 : c + 1 < 2 * ps.length + 1
  · obtain ⟨e, he⟩ : ∃ e, (starts ps)[c + 1]? = some e := ⟨_, List.getElem?_eq_getElem (by rw [starts_len]; exact h2)⟩
    rw [zipZ_at h h2 he, hn h2]
    unfold endC
    rw [he]
    exact ⟨_, rfl⟩
  · have : c + 1 = 2 * ps.length + 1 := by omega
    rw [this, zipZ_end h]
    unfold endC
    rw [List.getElem?_eq_none (by rw [starts_len]; omega)]
    exact ⟨[], rfl⟩
theorem starts_at {ps : List Rat2} {c : Nat} (h0 : 0 < c) (hc : c < 2 * ps.length + 1) : (starts ps)[c]? = some ⟨0, ps[(c - 1) / 2]'(by omega), c % 2 == 0⟩ := by
  rcases Nat.mod_two_eq_zero_or_one c with h | h
  · obtain ⟨i, rfl⟩ : ∃ i, c = 2 * i + 2 := ⟨(c - 2) / 2, by omega⟩
    have hi : i < ps.length := by omega
    rw [starts_even hi]
    have e1 : (2 * i + 2 - 1) / 2 = i := by omega
    have e2 : ((2 * i + 2) % 2 == 0) = true := by rw [h]; rfl
    simp only [e1, e2]
  · obtain ⟨i, rfl⟩ : ∃ i, c = 2 * i + 1 := ⟨(c - 1) / 2, by omega⟩
    have hi : i < ps.length := by omega
    rw [starts_odd hi]
    have e1 : (2 * i + 1 - 1) / 2 = i := by omega
    have e2 : ((2 * i + 1) % 2 == 0) = false := by rw [h]; rfl
    simp only [e1, e2]
theorem endC_at {ps : List Rat2} {c : Nat} (hc : c < 2 * ps.length) : endC ps c = ⟨0, ps[c / 2]'(by omega), !(c % 2 == 0)⟩ := by
  unfold endC
  rw [starts_at (by omega) (by omega)]
  have e2 : ((c + 1) % 2 == 0) = !(c % 2 == 0) := by
    rcases Nat.mod_two_eq_zero_or_one c with h | h
    · have : (c + 1) % 2 = 1 := by omega
      rw [this, h]; rfl
    · have : (c + 1) % 2 = 0 := by omega
      rw [this, h]; rfl
  simp only [Option.getD_some, Nat.add_sub_cancel, e2]
theorem endC_top {ps : List Rat2} {c : Nat} (hc : c = 2 * ps.length) : endC ps c = topE := by
  unfold endC
  rw [List.getElem?_eq_none (by rw [starts_len]; omega)]; rfl
/-- an interval whose upper limit is still to come -/
def halfI (st : En) : Itv := ⟨if st.far ≠ 0 then ⟨0, 0⟩ else st.at', ⟨0, 0⟩, if st.far ≠ 0 then false else st.aft, false, decide (st.far ≠ 0), false⟩
def cellsI (x : Itv) : Array Value := #[.int .i64 x.lo.num, .int .i64 x.lo.den, .int .i64 x.hi.num, .int .i64 x.hi.den, .bool x.loO, .bool x.hiO, .bool x.loI, .bool x.hiI]
theorem evenI (c : Nat) : ((c : Int) % 2 == 0) = (c % 2 == 0) := by
  rw [Bool.eq_iff_iff]; simp; omega
set_option maxRecDepth 100000 in
set_option maxHeartbeats 8000000 in
theorem rof_c (vp vb : Value) (ps : List Rat2) (bs : List Bool) (w : World) (hr : RatsR (ph w) vp ps) (hb : BoolsR (ph w) vb bs) (hl : bs.length = 2 * ps.length + 1) (hlen : ps.length ≤ 100000) :
    Calls Try.prog 44 #[vp, vb] w (SetRes w (fewE (pairs (runZ none (zipZ ps bs))))) := by
  obtain ⟨n, hn⟩ : ∃ n, ps.length = n := ⟨_, rfl⟩
  obtain ⟨Z, hZ⟩ : ∃ Z, Z = zipZ ps bs := ⟨_, rfl⟩
  have hZl : Z.length = 2 * n + 2 := by rw [hZ, zipZ_len hl, hn]
  have hrl := runZ_len Z none
  have hz1 : Hid (∀ c (h : c < 2 * n + 1) (e : En), (starts ps)[c]? = some e → Z.drop c = (e, bs[c]'(by omega)) :: Z.drop (c + 1)) := Lib.hid fun c h e he => by rw [hZ]; exact zipZ_at hl (by omega) he
  have hz2 : Hid (∀ c (h : c < 2 * n + 1), (∀ h2 : c + 1 < 2 * n + 1, bs[c + 1]'(by omega) = false) → ∃ r, Z.drop (c + 1) = (endC ps c, false) :: r) := Lib.hid fun c h h2 => by rw [hZ]; exact zipZ_next hl (by omega) (fun h3 => h2 (by omega))
  have hz3 : Hid (Z.drop (2 * n + 1) = [(topE, false)]) := Lib.hid (by rw [hZ, ← hn]; exact zipZ_end hl)
  have hsa : Hid (∀ c (h0 : 0 < c) (h : c < 2 * n + 1), (starts ps)[c]? = some ⟨0, ps[(c - 1) / 2]'(by omega), c % 2 == 0⟩) := Lib.hid fun c h0 h => starts_at h0 (by omega)
  have hs0 : Hid ((starts ps)[0]? = some botE) := Lib.hid rfl
  have hea : Hid (∀ c (h : c < 2 * n), endC ps c = ⟨0, ps[c / 2]'(by omega), !(c % 2 == 0)⟩) := Lib.hid fun c h => endC_at (by omega)
  have het : Hid (∀ c, c = 2 * n → endC ps c = topE) := Lib.hid fun c h => endC_top (by omega)
  rw [← hZ]
  replace hZ := Lib.hid hZ
  obtain ⟨pa, pc, rfl, -, hr⟩ := hr.form
  obtain ⟨ba, bc, rfl, -, hb⟩ := hb.form
  have hrow := fun (w' : World) (hx : Ext w w') (k : Nat) (h : k < ps.length) => RatsR.at (hr.mono mono_RatR hx.ple) k h
  have hrob := fun (w' : World) (hx : Ext w w') (k : Nat) (h : k < bs.length) => BoolsR.at (hb.mono mono_BoolR hx.ple) k h
  have hl' : bs.length = 2 * n + 1 := by omega
  rw [hn] at hlen ⊢
  obtain ⟨M, hM1⟩ : ∃ M, M = 2 * n + 1 := ⟨_, rfl⟩
  rw [hl', ← hM1]
  replace hrow := Lib.hid hrow
  replace hrob := Lib.hid hrob
  have hln : Hid (bs.length = M) := Lib.hid (by omega)
  have hpn : Hid (ps.length = n) := hn
  have hMn : Hid (M = 2 * n + 1) := hM1
  have hM6 : M ≤ 200001 := by omega
  clear hl' hM1 hr hb
  have hM0 := (Mem.start w noH (noH_le _)).nil mono_ItvR 8 43
  simp only [List.nil_append] at hM0
  go_enter Try.func44, Try.ntmps44
  go_upto_block 0 with (fail)
  go_cut [6] (fun vo wx => Mem w noH [ownV vo (pairs (runZ none Z))] noH wx)
  case first =>
    go_wp2_with fail
    go_loopw [6, 7] (fun vo vc wr => ∃ (c : Nat) (out : List Itv), c ≤ M ∧ vc = .int .i64 c ∧ Hid (pairs (runZ none Z) = out ++ pairs (runZ none (Z.drop c))) ∧ Mem w noH [ownV vo out] noH wr) (fun _ vc _ => M - (intOf vc).toNat)
    case atStart => exact ⟨0, [], by omega, rfl, Lib.hid rfl, hM0⟩
    case round =>
      clear hM0
      obtain ⟨c, out, hc, rfl, hrun, hM⟩ := hrel
      by_cases hlt : c < M
      · have hcn : c < 2 * n + 1 := by rw [← hMn.out]; exact hlt
        have hja : decide (c < M) = true := decide_eq_true hlt
        have hcb : c < bs.length := by rw [hln.out]; exact hlt
        obtain ⟨b, o, rfl, g0, gl⟩ := hrob.out _ hM.ex c hcb
        have hst : ∃ e, (starts ps)[c]? = some e := by
          by_cases h0 : c = 0
          · subst h0; exact ⟨_, hs0.out⟩
          · exact ⟨_, hsa.out c (by omega) hcn⟩
        obtain ⟨st, hst⟩ := hst
        have hzc := hz1.out c hcn st hst
        replace hst := Lib.hid hst
        obtain ⟨bv, hbv⟩ : ∃ bv, bs[c] = bv := ⟨_, rfl⟩
        rw [hbv] at g0 hzc
        replace hzc := Lib.hid hzc
        replace hbv := Lib.hid hbv
        obtain ⟨va, vc, rfl, -⟩ := hM.form 0 rfl
        cases bv with
        | false =>
          have hrun2 : Hid (pairs (runZ none Z) = out ++ pairs (runZ none (Z.drop (c + 1)))) := Lib.hid (by rw [hrun.out, hzc.out]; rfl)
          go_wp2_with fail
          go_roundw
          case rel => exact ⟨c + 1, out, by omega, by go_num, hrun2, hM⟩
          case measure => simp [intOf]; omega
        | true =>
          have hrun2 : Hid (pairs (runZ none Z) = out ++ pairs (runZ (some st) (Z.drop (c + 1)))) := Lib.hid (by rw [hrun.out, hzc.out]; rfl)
          have hout : out.length ≤ 200002 := by
            have h1 := congrArg List.length hrun.out
            rw [pairs_len, List.length_append] at h1
            omega
          have hM1 := hM.new (cellsI ⟨⟨0, 0⟩, ⟨0, 0⟩, false, false, false, false⟩) 43
          simp only [List.cons_append, List.nil_append] at hM1
          replace hM1 : Mem w noH [ownV (.slice va out.length vc) out, box wr.heap.size #[.int .i64 0, .int .i64 0, .int .i64 0, .int .i64 0, .bool false, .bool false, .bool false, .bool false] 43] noH (wr.alloc (.cells #[.int .i64 0, .int .i64 0, .int .i64 0, .int .i64 0, .bool false, .bool false, .bool false, .bool false] 43)) := hM1
          go_upto_region 7 with (fail)
          generalize wr.heap.size = b8 at *
          generalize wr.alloc _ = W1 at *
          obtain ⟨hc1, hf1⟩ := (hM1.box 1 rfl).facts
          have hz1' := (hM1.box 1 rfl).lt
          clear hM
          go_upto_if 22 with (fail)
          go_cut [] (fun wx => Mem w noH [ownV (.slice va out.length vc) out, box b8 (cellsI (halfI st)) 43] noH wx)
          case first =>
            by_cases h0 : c = 0
            · subst h0
              have hsb : st = botE := by have := hst.out; rw [hs0.out] at this; exact (Option.some.inj this).symm
              have hM2 := hM1.set 1 rfl 6 (.bool true)
              simp only [List.set_cons_succ, List.set_cons_zero] at hM2
              clear hM1
              replace hsb := Lib.hid hsb
              go_wp2_with fail
              go_meet
              case rel => rw [hsb.out]; exact hM2
            · have h00 : (c == 0) = false := by simpa using h0
              have h01 : ((c : Int) == 0) = false := by simp; omega
              have hsb := hst.out
              rw [hsa.out c (by omega) hcn] at hsb
              replace hsb := Lib.hid (Option.some.inj hsb)
              obtain ⟨i, hi⟩ : ∃ i, (c - 1) / 2 = i := ⟨_, rfl⟩
              have hin : i < ps.length := by omega
              have hinn : (i : Int) < (n : Int) := by omega
              have hi2 : ((c - 1 : Nat) : Int) / 2 = (i : Int) := by omega
              have hw1 : IntKind.i64.wrap ((c : Int) - 1) = ((c - 1 : Nat) : Int) := by rw [IntKind.wrap_i64]; omega
              have hwi : IntKind.i64.wrap (i : Int) = (i : Int) := wrap_id (by omega) (by omega)
              obtain ⟨b', o', rfl, p0, p1, pI, pl⟩ := hrow.out _ hM1.ex i hin
              have hev := evenI c
              obtain ⟨ev, hevd⟩ : ∃ ev, (c % 2 == 0) = ev := ⟨_, rfl⟩
              rw [hevd] at hev
              have hst2 : Hid (halfI st = ⟨ps[i], ⟨0, 0⟩, ev, false, false, false⟩) := Lib.hid (by rw [← hsb.out]; simp [halfI, hi, hevd])
              generalize ps[i] = p at *
              have hM2 := ((hM1.set 1 rfl 0 (.int .i64 p.num)).set 1 rfl 1 (.int .i64 p.den)).set 1 rfl 4 (.bool ev)
              simp only [List.set_cons_succ, List.set_cons_zero] at hM2
              clear hM1
              replace hi := Lib.hid hi
              replace hevd := Lib.hid hevd
              go_wp2_with fail
              go_meet
              case rel => rw [hst2.out]; exact hM2
          case rest =>
            clear hM1 hc1 hf1 hz1' g0 gl
            have hM2 := hcut
            clear hcut
            go_upto_block 2 with (fail)
            go_cut [7] (fun v7 wx => ∃ d : Nat, d < M ∧ v7 = .int .i64 d ∧ Hid (c ≤ d ∧ pairs (runZ none Z) = out ++ pairs (runZ (some st) (Z.drop (d + 1))) ∧ ∀ h2 : d + 1 < 2 * n + 1, bs[d + 1]'(by have := hln.out; have := hMn.out; omega) = false) ∧ Mem w noH [ownV (.slice va out.length vc) out, box b8 (cellsI (halfI st)) 43] noH wx)
            case first =>
              have hlt0 : Hid (c < M) := Lib.hid hlt
              go_wp2_with fail
              go_loopw [7] (fun v7 wi => ∃ d : Nat, d < M ∧ v7 = .int .i64 d ∧ Hid (c ≤ d ∧ pairs (runZ none Z) = out ++ pairs (runZ (some st) (Z.drop (d + 1)))) ∧ Mem w noH [ownV (.slice va out.length vc) out, box b8 (cellsI (halfI st)) 43] noH wi) (fun v7 _ => M - (intOf v7).toNat)
              case atStart => exact ⟨c, hlt, rfl, Lib.hid ⟨Nat.le_refl _, hrun2.out⟩, hM2⟩
              case round =>
                clear hM2 hlt hja
                obtain ⟨d, hd, rfl, hrd, hM3⟩ := hrel
                have hwd : IntKind.i64.wrap ((d : Int) + 1) = ((d + 1 : Nat) : Int) := by rw [IntKind.wrap_i64]; omega
                by_cases hd1 : d + 1 < M
                · have hdb : d + 1 < bs.length := by rw [hln.out]; exact hd1
                  have hjb : decide (d + 1 < M) = true := decide_eq_true hd1
                  have hdn : d + 1 < 2 * n + 1 := by rw [← hMn.out]; exact hd1
                  obtain ⟨b'', o'', e'', g0, gl⟩ := hrob.out _ hM3.ex (d + 1) hdb
                  cases e''
                  have hd1i : ((d + 1 : Nat) : Int) < (M : Int) := by omega
                  obtain ⟨e2, he2⟩ : ∃ e, (starts ps)[d + 1]? = some e := ⟨_, hsa.out (d + 1) (by omega) hdn⟩
                  have hzd := hz1.out (d + 1) hdn e2 he2
                  obtain ⟨bv, hbv⟩ : ∃ bv, bs[d + 1] = bv := ⟨_, rfl⟩
                  rw [hbv] at g0 hzd
                  replace hzd := Lib.hid hzd
                  replace hbv := Lib.hid hbv
                  clear he2
                  cases bv with
                  | true =>
                    have hrd2 : Hid (c ≤ d + 1 ∧ pairs (runZ none Z) = out ++ pairs (runZ (some st) (Z.drop (d + 1 + 1)))) := Lib.hid ⟨by have := hrd.out.1; omega, by rw [hrd.out.2, hzd.out]; rfl⟩
                    go_wp2_with fail
                    go_roundw
                    case rel => exact ⟨d + 1, hd1, by go_num, hrd2, hM3⟩
                    case measure => simp [intOf]; omega
                  | false =>
                    go_wp2_with fail
                    go_meet
                    case rel => exact ⟨d, hd, rfl, Lib.hid ⟨hrd.out.1, hrd.out.2, fun _ => hbv.out⟩, hM3⟩
                · have hjb : decide (d + 1 < M) = false := by simpa using hd1
                  have hd1i : ¬ ((d + 1 : Nat) : Int) < (M : Int) := by omega
                  have hfin : Hid (c ≤ d ∧ pairs (runZ none Z) = out ++ pairs (runZ (some st) (Z.drop (d + 1))) ∧ ∀ h2 : d + 1 < 2 * n + 1, bs[d + 1]'(by have := hln.out; have := hMn.out; omega) = false) := Lib.hid ⟨hrd.out.1, hrd.out.2, fun h2 => absurd (by rw [hMn.out]; exact h2) hd1⟩
                  go_wp2_with fail
                  go_meet
                  case rel => exact ⟨d, hd, rfl, hfin, hM3⟩
            case rest =>
              clear hM2 hlt hja
              obtain ⟨d, hd, rfl, hrd, hM3⟩ := hcut
              have hdn : d < 2 * n + 1 := by rw [← hMn.out]; exact hd
              have hcd : c ≤ d := hrd.out.1
              obtain ⟨r, hr9⟩ := hz2.out d hdn hrd.out.2.2
              have hrun3 : Hid (pairs (runZ none Z) = (out ++ [betw st (endC ps d)]) ++ pairs (runZ none (Z.drop (d + 1)))) := Lib.hid (by
                rw [hrd.out.2.1, hr9, List.append_assoc]; rfl)
              unfold cellsI at hM3
              obtain ⟨hc3, hf3⟩ := (hM3.box 1 rfl).facts
              have hz3' := (hM3.box 1 rfl).lt
              have hwl : IntKind.i64.wrap ((M : Int) - 1) = ((M - 1 : Nat) : Int) := by rw [IntKind.wrap_i64]; omega
              clear hr9
              go_upto_if 53 with (fail)
              go_cut [] (fun wx => Mem w noH [ownV (.slice va out.length vc) out, box b8 (cellsI (betw st (endC ps d))) 43] noH wx)
              case first =>
                by_cases hd2 : d = 2 * n
                · have hdb : ((d : Int) == ((M - 1 : Nat) : Int)) = true := by simp; have := hMn.out; omega
                  have hte := Lib.hid (het.out d hd2)
                  have hM4 := hM3.set 1 rfl 7 (.bool true)
                  simp only [List.set_cons_succ, List.set_cons_zero] at hM4
                  replace hd2 := Lib.hid hd2
                  clear hM3
                  go_wp2_with fail
                  go_meet
                  case rel => rw [hte.out]; exact hM4
                · have hdb : ((d : Int) == ((M - 1 : Nat) : Int)) = false := by simp; have := hMn.out; omega
                  have hd3 : d < 2 * n := by omega
                  have hte := Lib.hid (hea.out d hd3)
                  obtain ⟨i, hi⟩ : ∃ i, d / 2 = i := ⟨_, rfl⟩
                  have hin : i < ps.length := by omega
                  have hinn : (i : Int) < (n : Int) := by omega
                  have hi2 : (d : Int) / 2 = (i : Int) := by omega
                  have hwi : IntKind.i64.wrap (i : Int) = (i : Int) := wrap_id (by omega) (by omega)
                  obtain ⟨b', o', rfl, p0, p1, pI, pl⟩ := hrow.out _ hM3.ex i hin
                  have hev := evenI d
                  obtain ⟨ev, hevd⟩ : ∃ ev, (d % 2 == 0) = ev := ⟨_, rfl⟩
                  rw [hevd] at hev
                  have hbt : Hid (betw st (endC ps d) = ⟨(halfI st).lo, ps[i], (halfI st).loO, ev, (halfI st).loI, false⟩) := Lib.hid (by rw [hte.out]; simp [halfI, betw, hi, hevd])
                  generalize ps[i] = p at *
                  have hM4 := ((hM3.set 1 rfl 2 (.int .i64 p.num)).set 1 rfl 3 (.int .i64 p.den)).set 1 rfl 5 (.bool ev)
                  simp only [List.set_cons_succ, List.set_cons_zero] at hM4
                  replace hi := Lib.hid hi
                  replace hevd := Lib.hid hevd
                  clear hM3 hte
                  go_wp2_with fail
                  go_meet
                  case rel => rw [hbt.out]; exact hM4
              case rest =>
                clear hM3 hc3 hf3 hz3' hrd
                have hM4 := hcut
                clear hcut
                have hpI : ∀ k (h : k < ps.length), ps[k].I := fun k h => by
                  obtain ⟨_, _, _, _, _, hI, _⟩ := hrow.out w (Ext.rfl' _) k h
                  exact hI
                have z0 : Rat2.I ⟨0, 0⟩ := by unfold Rat2.I I64; simp
                have hbI : Hid ((betw st (endC ps d)).I) := Lib.hid (betw_I (by
                  have h := hst.out
                  by_cases h0 : c = 0
                  · subst h0; rw [hs0.out] at h; rw [← Option.some.inj h]; exact z0
                  · rw [hsa.out c (by omega) hcn] at h; rw [← Option.some.inj h]; exact hpI _ _) (by
                  by_cases hd2 : d = 2 * n
                  · rw [het.out d hd2]; exact z0
                  · rw [hea.out d (by omega)]; exact hpI _ _))
                generalize betw st (endC ps d) = bt at *
                unfold cellsI at hM4
                obtain ⟨hc4, hf4⟩ := (hM4.box 1 rfl).facts
                have hz4' := (hM4.box 1 rfl).lt
                have hM5 := (hM4.ext (Ext.new wc (.cells #[.int .i64 bt.lo.num, .int .i64 bt.lo.den, .int .i64 bt.hi.num, .int .i64 bt.hi.den, .bool bt.loO, .bool bt.hiO, .bool bt.loI, .bool bt.hiI] 43))).pick [0] (by decide)
                simp only [List.nil_append, List.cons_append, List.map_cons, List.map_nil, List.getElem?_cons_zero, List.getElem?_cons_succ, Option.getD_some] at hM5
                have hS := Src.lit1 (H := noH) (E := ItvR) (sz := 8) (w := wc.alloc (.cells #[.int .i64 bt.lo.num, .int .i64 bt.lo.den, .int .i64 bt.hi.num, .int .i64 bt.hi.den, .bool bt.loO, .bool bt.hiO, .bool bt.loI, .bool bt.hiI] 43)) (b := wc.heap.size) (x := bt) (cs := itC bt) ⟨rfl, hbI.out⟩ rfl (fun j => by rw [(Proofs.Ytmbkefgmiehdiaa.Own.new wc _ _).facts.1]; simp [itC])
                clear hM4 hpI
                go_wp2_with (first | (at_builtin; refine wpList_append_M 0 rfl _ _ 23 rfl Try.underlying23 infoItv rfl rfl rfl hM5 rfl hS one_ItvR (by simp; omega) (by simp; omega) ?f5))
                case f5 =>
                  intro v' w' hM8
                  try simp only [List.set_cons_zero, List.set_cons_succ] at hM8
                  clear hM5 hS hc4 hf4 hz4'
                  go_wp2_with fail
                  go_roundw
                  case rel => exact ⟨d + 1, _, by omega, by go_num, hrun3, hM8⟩
                  case measure => simp [intOf]; omega
      · have hja : decide (c < M) = false := by simpa using hlt
        have hfin : Hid (pairs (runZ none Z) = out) := Lib.hid (by
          rw [hrun.out, show c = 2 * n + 1 by rw [← hMn.out]; omega, hz3.out]; simp [runZ, pairs])
        go_wp2_with fail
        go_meet
        case rel => rw [hfin.out]; exact hM
  case rest =>
    have hM := hcut
    clear hcut hM0
    generalize pairs (runZ none Z) = out at *
    obtain ⟨oa, oc, rfl, -⟩ := hM.form 0 rfl
    have hrp := hM.rep 0 rfl
    have hxx := hM.ex
    have hfe : Hid (fewE out = if 32 < out.length then ([], 4) else (out, 0)) := rfl
    replace hrp := Lib.hid hrp
    by_cases h32 : 32 < out.length
    · rw [if_pos h32] at hfe
      clear hM
      go_wp2_with fail
      go_ret2
      rw [hfe.out]
      exact ⟨_, rfl, hxx, SliceRep.nil _ _ _⟩
    · rw [if_neg h32] at hfe
      clear hM
      go_wp2_with fail
      go_ret2
      rw [hfe.out]
      exact ⟨_, rfl, hxx, hrp.out⟩
end Go.Proofs.Ytmbkefgmiehdiaa
