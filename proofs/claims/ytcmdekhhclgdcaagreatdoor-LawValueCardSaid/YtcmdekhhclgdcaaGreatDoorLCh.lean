/- package law: Changes. -/
import Derived.Test.YtcmdekhhclgdcaaGreatDoorLVl
namespace Go.Proofs.YtcmdekhhclgdcaaGreatDoor
open Go.RowKit Go.Shelf
set_option linter.unusedSimpArgs false
set_option linter.unusedVariables false
/-- the changes come back, or the error -/
def ChgP (w : World) (r : Rul) (o p : Int) (xs : List Ac) (e : Ending) (w' : World) : Prop :=
  ∃ v cs, e = .returned (.tuple #[v, .int .i64 (lchkE r o p 0)]) ∧ Ext w w' ∧ IntsR (ph w') v cs ∧ (lchkE r o p 0 ≠ 0 → cs = []) ∧ (lchkE r o p 0 = 0 → ∃ l, RulOk o p.toNat xs l ∧ cs = chF (baseV r o.toNat p.toNat) l)
set_option maxRecDepth 100000 in
set_option maxHeartbeats 2000000 in
theorem lChanges_c (r : Rul) (o p : Int) (v va : Value) (xs : List Ac) (w : World) (hr : RulR (ph w) v r) (hA : ActsR (ph w) va xs) (hlen : xs.length ≤ 100000) (hV : VL (ph w)) (hR : VR (ph w)) :
    Calls Tryz.prog 13 #[v, .int .i64 o, .int .i64 p, va] w (ChgP w r o p xs) := by
  have hck := fun w hr hV hR => lcheck_c r o p 0 v w hr hV hR
  obtain ⟨a, b, rfl, hC, hB⟩ := id hr
  obtain ⟨ca, cc, rfl, clen, -⟩ := hC.form
  obtain ⟨ba, bc, rfl, blen, -⟩ := id hB.form
  obtain ⟨xa, xc, rfl, -, -⟩ := id hA.form
  have hx := Ext.new w (.cells #[.slice ca r.1.length cc, .slice ba r.2.length bc] 38)
  have hO := Proofs.YtcmdekhhclgdcaaGreatDoor.Own.new w #[.slice ca r.1.length cc, .slice ba r.2.length bc] 38
  by_cases h0 : lchkE r o p 0 = 0
  · unfold ChgP
    simp only [h0]
    obtain ⟨hl, ho, hp, hd⟩ := lchk_0 h0
    obtain ⟨o, rfl⟩ : ∃ n : Nat, o = n := ⟨o.toNat, by omega⟩
    obtain ⟨p, rfl⟩ : ∃ n : Nat, p = n := ⟨p.toNat, by omega⟩
    simp only [Int.toNat_natCast]
    obtain ⟨hl1, hl2⟩ := lawE_len hl
    obtain ⟨h1, h2, -, h3, h4⟩ := lawE_at hl (o := o) (by omega)
    obtain ⟨h5, h6⟩ := h4 p (by omega)
    rw [h6]
    obtain ⟨kb, ko, rp, rq, rfl, gc, gl, hrow⟩ := LstE.at hB o h2
    obtain ⟨ib, io, rfl, ic, ii, il⟩ := IntsR.at hrow p (by omega)
    simp only [h3] at gc
    generalize r.2[o][p] = base at *
    simp only [hl1, hl2, h0] at *
    have ho12 : (o : Int) < 12 := by omega
    have hp19 : (p : Int) < 19 := by omega
    have hp' : p < 19 := by omega
    have hrg := fun w hA hR => rulings_c o p hp' (.slice xa xs.length xc) xs w hA hlen hR
    replace hrg := Lib.hid hrg
    replace hck := Lib.hid hck
    clear h3 h4 hrow hl1 hl2 clen blen h1 h2 hl h5 h6 h0 hB hC
    go_enter Tryz.func13, Tryz.ntmps13
    go_wp2_with fail
    refine RetV_at (hck.out _ (hr.mono hx.ple) (hV.mono hx.ple) (hR.mono hx.ple)) ?_
    intro w2 hx2
    have hxx := hx.then hx2
    replace gc := hxx.cell1 gc
    replace ic := hxx.cell1 ic
    have hO2 := hO.keep hx2
    have c1 : _ = some (Value.slice (some ⟨kb, ko, none⟩) 12 bc) := hO2.facts.1 1
    have l1 := hO2.lt
    have l2 : kb < w2.heap.size := Nat.lt_of_lt_of_le gl hxx.size
    have l3 : ib < w2.heap.size := Nat.lt_of_lt_of_le il hxx.size
    have hA2 := hA.mono mono_ActR hxx.ple
    have hR2 := hR.mono hxx.ple
    clear hO hO2 hck hx hx2 hV hR hr hA
    go_wp2_with fail
    refine (hrg.out _ hA2 hR2).mono ?_
    rintro e w5 ⟨v5, l, rfl, hok, hll, hx5, hA5⟩
    obtain ⟨la, lc, rfl, -, -⟩ := id hA5.form
    replace hok := Lib.hid hok
    have hx05 := hxx.then hx5
    clear hrg hA2 hR2 gc ic c1 l1 l2 l3 hx5 hxx
    go_wp2_with fail
    have hM0 := (Mem.start w5 noH (noH_le _)).nil mono_IntR 1 3
    simp only [List.nil_append] at hM0
    go_loopw [11, 12, 35] (fun vo vl vi wr => ∃ (k : Nat) (out : List Int) (last : Int), k ≤ l.length ∧ vi = .int .i64 k ∧ vl = .int .i64 last ∧ Hid (chF base l = out ++ chF last (l.drop k)) ∧ out.length ≤ k ∧ Mem w5 noH [own mono_IntR 1 3 vo out] noH wr) (fun _ _ vi _ => l.length - (intOf vi).toNat)
    case atStart => exact ⟨0, [], base, by omega, rfl, rfl, Lib.hid rfl, by simp, hM0⟩
    case round =>
      clear hM0
      obtain ⟨k, out, last, hk, rfl, rfl, hch, hol, hM⟩ := hrel
      obtain ⟨oa, oc, rfl, -⟩ := hM.form 0 rfl
      obtain ⟨olen, hole⟩ : ∃ n, out.length = n := ⟨_, rfl⟩
      rw [hole] at hM hol
      simp only [hole]
      replace hole := Lib.hid hole
      by_cases hlt : k < l.length
      · obtain ⟨gb, go, rfl, gc, gl, hI⟩ := ActsR.row (hA5.mono mono_ActR hM.ex.ple) k hlt
        have hs : Hid (chF base l = out ++ if l[k].amount = last then chF last (l.drop (k + 1)) else l[k].day :: chF l[k].amount (l.drop (k + 1))) := by show _ = _; rw [hch.out, List.drop_eq_getElem_cons hlt, chF]
        have hja : decide (k < l.length) = true := by simpa using hlt
        generalize l[k] = x at *
        replace gc := Lib.hid gc
        clear hch
        have hM3 := hM.new (actC x).toArray 67
        simp only [List.nil_append, List.cons_append] at hM3
        have hX8 : Hid ((actC x).toArray[8]? = some (.int .i64 x.amount)) := Lib.hid rfl
        have hO3 := Proofs.YtcmdekhhclgdcaaGreatDoor.Own.new wr (actC x).toArray 67
        go_upto_region 8 with (fail)
        go_upto_region 9 with (first | (refine wpList_load_mid rfl 67 _ rfl _ _ rfl (actC _) _ gc.out Tryz.underlying67 rfl (by kernel_rfl) ?_) | (refine wpList_store_new rfl 67 _ _ rfl (actC _).toArray rfl rfl 67 _ (by kernel_rfl) rfl (one_act _) ?_))
        have c1 : _ = some (Value.int .i64 x.day) := hO3.facts.1 1
        have c8 : _ = some (Value.int .i64 x.amount) := hO3.facts.1 8
        have hsz3 := hO3.lt
        have hdI : I64 x.day := hI.2.1
        clear hO3 hM gc hI gl
        generalize (actC x).toArray = X at *
        generalize wr.heap.size = b7 at *
        generalize wr.alloc _ = W3 at *
        by_cases hd : x.amount = last
        · have hdb : (x.amount != last) = false := by simpa using hd
          rw [if_pos hd] at hs
          clear hd
          go_wp2_with fail
          go_roundw
          case rel => exact ⟨k + 1, out, last, by omega, by go_num, rfl, hs, by rw [hole.out]; omega, hM3.pick [0] (by decide)⟩
          case measure => simp [intOf]; omega
        · have hdb : (x.amount != last) = true := by simpa using hd
          rw [if_neg hd] at hs
          clear hd
          have hM4 := hM3.allocN (.cells #[.int .i64 x.day] 3)
          have hO4 := Proofs.YtcmdekhhclgdcaaGreatDoor.Own.new W3 #[.int .i64 x.day] 3
          have hx4 := Ext.new W3 (.cells #[.int .i64 x.day] 3)
          have c8' : _ = some (Value.int .i64 x.amount) := (hx4.cell (p := ⟨b7, 8, none⟩) hsz3).trans c8
          have hsz4 : b7 < (W3.alloc (.cells #[.int .i64 x.day] 3)).heap.size := by have := hx4.size; omega
          have hS := Src.lit1 (w := W3.alloc (.cells #[.int .i64 x.day] 3)) (b := W3.heap.size) (sz := 1) (E := IntR) (H := noH) (x := x.day) (cs := [.int .i64 x.day]) ⟨rfl, hdI⟩ rfl (fun j => by rw [hO4.facts.1 j]; simp)
          have hol2 : out.length ≤ 100000 := by rw [hole.out]; omega
          go_upto_region 10 with (fail)
          go_upto_region 11 with (first | (at_builtin; refine wpList_append_M 0 rfl _ _ 22 rfl Tryz.underlying22 infoInt rfl rfl rfl hM4 rfl hS one_IntR (by simp; omega) (by simp; omega) ?c5))
          case c5 =>
            intro v6 w6 hM6
            try simp only [List.set_cons_zero] at hM6
            have c6 : w6.cell? ⟨b7, 8, none⟩ = some (.int .i64 x.amount) := ((hM6.box 1 rfl).facts.1 8).trans hX8.out
            have hsz6 : b7 < w6.heap.size := hM6.lt (i := 1) rfl rfl
            have hM7 := hM6.pick [0] (by decide)
            simp only [List.map_cons, List.map_nil, List.getElem?_cons_zero, Option.getD_some] at hM7
            obtain ⟨na, nc, rfl, -⟩ := hM6.form 0 rfl
            clear hM6 hM4 hM3 c8 c8' hS hO4 hx4
            go_wp2_with fail
            go_roundw
            case rel => exact ⟨k + 1, out ++ [x.day], x.amount, by omega, by go_num, rfl, Lib.hid (by rw [hs.out]; simp), by have := hole.out; simp; omega, by simpa using hM7⟩
            case measure => simp [intOf]; omega
      · have hja : decide (k < l.length) = false := by simpa using hlt
        have hs : Hid (chF base l = out) := by show _ = _; rw [hch.out, List.drop_of_length_le (by omega), chF, List.append_nil]
        have hrep := hM.rep 0 rfl
        have hxe := hx05.then hM.ex
        clear hch hM
        go_wp2_with fail
        go_ret2
        exact ⟨_, out, rfl, hxe, hrep, fun h => absurd rfl h, fun _ => ⟨l, hok.out, hs.out.symm⟩⟩
  · unfold ChgP
    generalize lchkE r o p 0 = le at *
    have hb : (le != 0) = true := by rw [bne_iff_ne]; exact h0
    replace h0 := Lib.hid h0
    go_enter Tryz.func13, Tryz.ntmps13
    go_wp2_with fail
    refine RetV_at (hck _ (hr.mono hx.ple) (hV.mono hx.ple) (hR.mono hx.ple)) ?_
    intro w2 hx2
    go_wp2_with fail
    go_ret2
    exact ⟨_, [], rfl, hx.then hx2, SliceRep.nil _ _ _, fun _ => rfl, fun h => absurd h h0.out⟩
end Go.Proofs.YtcmdekhhclgdcaaGreatDoor
