/- priorartref17: Changes. -/
import Derived.Test.YtcmdekhhclgdcaaGreatDoorLRA
namespace Go.Proofs.YtcmdekhhclgdcaaGreatDoor
open Go.RowKit Go.Shelf
set_option linter.unusedSimpArgs false
set_option linter.unusedVariables false
def IntsP (w : World) (xs : List Int) (e : Ending) (w' : World) : Prop := ∃ v, e = .returned v ∧ Ext w w' ∧ IntsR (ph w') v xs
theorem nxtF_range {o : Int} {p : Nat} {d : Int} (xs : List Ac) : nxtF o p d 200000 xs = 200000 ∨ (d < nxtF o p d 200000 xs ∧ 0 ≤ nxtF o p d 200000 xs ∧ nxtF o p d 200000 xs ≤ 131072) := by
  rcases (nxtF_spec (o := o) (p := p) (d := d) xs 200000).2.2 with h | ⟨x, hx, hr, hd, e⟩
  · exact .inl h
  · have := rulB_day hr
    exact .inr ⟨by omega, by omega, by omega⟩
set_option maxRecDepth 100000 in
set_option maxHeartbeats 8000000 in
theorem rchanges17_c (r : Rul) (o p : Nat) (v va : Value) (xs : List Ac) (w : World) (hr : RulR (ph w) v r) (hA : ActsR (ph w) va xs) (hl : lawE r = 0) (ho : o < 12) (hp : p < 19) :
    Calls Tryz.prog 14 #[v, .int .i64 (o : Int), .int .i64 (p : Int), va] w (IntsP w (chE o p xs (baseV r o p) 131074 (-1) (baseV r o p))) := by
  have hr0 := hr
  have hA0 := hA
  obtain ⟨a, b, rfl, hC, hB⟩ := hr
  obtain ⟨ca, cc, rfl, clen, -⟩ := hC.form
  obtain ⟨ba, bc, rfl, blen, -⟩ := id hB.form
  obtain ⟨xa, xc, rfl, xlen, hA⟩ := hA.form
  have hva := fun d w hr hA => rvalue17_c r o p d (.agg #[.slice ca r.1.length cc, .slice ba r.2.length bc]) (.slice xa xs.length xc) xs w hr hA hl ho hp
  obtain ⟨hl1, hl2⟩ := lawE_len hl
  obtain ⟨h1, h2, -, h3, h4⟩ := lawE_at hl (o := o) ho
  obtain ⟨h5, h6⟩ := h4 p (by omega)
  obtain ⟨kb, ko, rp, rq, rfl, gc, gl, hrow⟩ := LstE.at hB o h2
  obtain ⟨ib, io, rfl, ic, ii, il⟩ := IntsR.at hrow p (by omega)
  rw [h6]
  rw [h6] at hva
  simp only [h3] at gc
  generalize r.2[o][p] = base at *
  rw [hl1, hl2] at hva hr0
  simp only [hl1, hl2]
  have ho12 : (o : Int) < 12 := by omega
  have hp19 : (p : Int) < 19 := by omega
  clear h3 h4 hrow clen blen h1 h2 h5 h6 hB hC ii hl
  have hx := Ext.new w (.cells #[.slice ca 12 cc, .slice (some ⟨kb, ko, none⟩) 12 bc] 26)
  have hO := Proofs.YtcmdekhhclgdcaaGreatDoor.Own.new w #[.slice ca 12 cc, .slice (some ⟨kb, ko, none⟩) 12 bc] 26
  have c0 : _ = some (Value.slice ca 12 cc) := hO.facts.1 0
  have c1 : _ = some (Value.slice (some ⟨kb, ko, none⟩) 12 bc) := hO.facts.1 1
  have l1 := hO.lt
  replace gc := hx.cell1 gc
  replace ic := hx.cell1 ic
  have l2 : kb < (w.alloc (.cells #[.slice ca 12 cc, .slice (some ⟨kb, ko, none⟩) 12 bc] 26)).heap.size := by have := hx.size; omega
  have l3 : ib < (w.alloc (.cells #[.slice ca 12 cc, .slice (some ⟨kb, ko, none⟩) 12 bc] 26)).heap.size := by have := hx.size; omega
  replace hA := hA.mono mono_ActR hx.ple
  replace hr0 := hr0.mono hx.ple
  replace hva := Lib.hid hva
  clear hO gl il hl1 hl2 hA0
  obtain ⟨T, hT⟩ : ∃ T, chE o p xs base 131074 (-1) base = T := ⟨_, rfl⟩
  rw [hT]
  replace hT := Lib.hid hT
  go_enter Tryz.func14, Tryz.ntmps14
  go_wp2_with fail
  generalize w.alloc _ = W at *
  generalize w.heap.size = bx at *
  have hM0 := (Mem.start W noH (noH_le _)).nil mono_IntR 1 3
  simp only [List.nil_append] at hM0
  go_loopw [9, 10, 11] (fun vo vl vd wr => ∃ (f : Nat) (out : List Int) (last day : Int), vl = .int .i64 last ∧ vd = .int .i64 day ∧ -1 ≤ day ∧ day ≤ 131072 ∧ 131072 - day < f ∧ (out.length : Int) ≤ day + 1 ∧ Hid (T = out ++ chE o p xs base f day last) ∧ Mem W noH [own mono_IntR 1 3 vo out] noH wr) (fun _ _ vd _ => (131073 - intOf vd).toNat)
  case atStart => exact ⟨131074, [], base, -1, rfl, rfl, by omega, by omega, by omega, by simp, Lib.hid hT.out.symm, hM0⟩
  case round =>
    clear hM0 gc ic
    obtain ⟨f, out, last, day, rfl, rfl, dd0, dd1, hf, hol, hch, hM⟩ := hrel
    obtain ⟨oa, oc, rfl, -⟩ := hM.form 0 rfl
    obtain ⟨f, rfl⟩ : ∃ f', f = f' + 1 := ⟨f - 1, by omega⟩
    have hst : Hid (T = out ++ if nxtF o p day 200000 xs = 200000 then [] else if valR o p (nxtF o p day 200000 xs) xs base = last then chE o p xs base f (nxtF o p day 200000 xs) last else nxtF o p day 200000 xs :: chE o p xs base f (nxtF o p day 200000 xs) (valR o p (nxtF o p day 200000 xs) xs base)) := by show _ = _; rw [hch.out, chE]
    have hrg := nxtF_range (o := o) (p := p) (d := day) xs
    obtain ⟨NX, hNX⟩ : ∃ m, nxtF o p day 200000 xs = m := ⟨_, rfl⟩
    rw [hNX] at hst hrg
    replace hNX := Lib.hid hNX
    obtain ⟨olen, hole⟩ : ∃ n, out.length = n := ⟨_, rfl⟩
    rw [hole] at hM hol
    simp only [hole]
    replace hole := Lib.hid hole
    clear hch
    generalize wr = WO at *
    go_wp2_with fail
    go_loopw [12, 13] (fun vm vi wr2 => ∃ (k : Nat) (m : Int), k ≤ xs.length ∧ vi = .int .i64 k ∧ vm = .int .i64 m ∧ Hid (nxtF o p day 200000 (xs.take k) = m) ∧ Ext WO wr2) (fun _ vi _ => xs.length - (intOf vi).toNat)
    case atStart => exact ⟨0, 200000, by omega, rfl, rfl, Lib.hid rfl, Ext.rfl' _⟩
    case round =>
      obtain ⟨k, m, hk, rfl, rfl, hmm, hxr⟩ := hrel
      by_cases hlt : k < xs.length
      · have hja : decide (k < xs.length) = true := decide_eq_true hlt
        obtain ⟨g, go, rfl, gx, gxl, hI⟩ := ActsR.row ((hA.mono mono_ActR hM.ex.ple).mono mono_ActR hxr.ple) k hlt
        have hsn : Hid (nxtF o p day 200000 (xs.take (k + 1)) = if rulB o p xs[k] = true ∧ day < xs[k].day then min m xs[k].day else m) := by
          show _ = _
          rw [List.take_add_one, List.getElem?_eq_getElem hlt, Option.toList_some, nxtF_snoc, hmm.out]
        generalize xs[k] = x at *
        have hru := fun w => ruling17_c o p hp x w
        replace gx := Lib.hid gx
        clear hmm
        go_upto_region 8 with (fail)
        go_wp2_with (first | (refine wpList_load_mid rfl 67 _ rfl _ _ rfl (actC _) _ gx.out Tryz.underlying67 rfl (by kernel_rfl) ?_))
        refine RetV_at (hru _) ?_
        intro w2 hx2
        have hxA := hxr.then hx2
        have cx1 : w2.cell? ⟨g, go + k * 19 + 1, none⟩ = some (.int .i64 x.day) := hx2.cell1 (gx.out 1 _ rfl)
        have gxl2 : g < w2.heap.size := by have := hx2.size; omega
        clear hru gx gxl
        generalize hrb : rulB o p x = rb at *
        clear hrb
        cases rb with
        | false =>
          have hs : Hid (nxtF o p day 200000 (xs.take (k + 1)) = m) := by show _ = _; rw [hsn.out, if_neg (by simp)]
          clear hsn
          go_wp2_with fail
          go_roundw
          case rel => exact ⟨k + 1, m, by omega, by go_num, rfl, hs, hxA⟩
          case measure => simp [intOf]; omega
        | true =>
          by_cases hd : day < x.day
          · have hdb : decide (day < x.day) = true := decide_eq_true hd
            have hs : Hid (nxtF o p day 200000 (xs.take (k + 1)) = min m x.day) := by show _ = _; rw [hsn.out, if_pos ⟨rfl, hd⟩]
            clear hsn
            go_wp2_with fail
            go_roundw
            case rel => exact ⟨k + 1, min m x.day, by omega, by go_num, by go_num, hs, hxA⟩
            case measure => simp [intOf]; omega
          · have hdb : decide (day < x.day) = false := decide_eq_false hd
            have hs : Hid (nxtF o p day 200000 (xs.take (k + 1)) = m) := by show _ = _; rw [hsn.out, if_neg (by simp [hd])]
            clear hsn
            go_wp2_with fail
            go_roundw
            case rel => exact ⟨k + 1, m, by omega, by go_num, rfl, hs, hxA⟩
            case measure => simp [intOf]; omega
      · have hja : decide (k < xs.length) = false := decide_eq_false hlt
        obtain rfl : m = NX := by
          have := hmm.out
          rw [List.take_of_length_le (by omega)] at this
          exact this.symm.trans hNX.out
        have hMr := hM.ext hxr
        clear hmm hNX
        rcases hrg with rfl | ⟨m0, m1, m2⟩
        · have hTe : Hid (T = out) := by show _ = _; rw [hst.out, if_pos rfl, List.append_nil]
          have hrep := hMr.rep 0 rfl
          have hxe := hx.then hMr.ex
          clear hst
          go_wp2_with fail
          go_ret
          rw [hTe.out]
          exact ⟨_, rfl, hxe, hrep⟩
        · have hm9 : (m == 200000) = false := by simp; omega
          have hst2 : Hid (T = out ++ if valR o p m xs base = last then chE o p xs base f m last else m :: chE o p xs base f m (valR o p m xs base)) := by show _ = _; rw [hst.out, if_neg (by omega)]
          have hvm := fun w hr hA => hva.out m w hr hA
          obtain ⟨nv, hnv⟩ : ∃ nv, valR o p m xs base = nv := ⟨_, rfl⟩
          rw [hnv] at hvm hst2
          replace hnv := Lib.hid hnv
          replace hvm := Lib.hid hvm
          have d0 := hMr.ex.cell1 c0
          have d1 := hMr.ex.cell1 c1
          have m3 : bx < wr.heap.size := Nat.lt_of_lt_of_le l1 hMr.ex.size
          go_wp2_with fail
          refine RetV_at (hvm.out _ (hr0.mono hMr.ex.ple) (hA.mono mono_ActR hMr.ex.ple)) ?_
          intro w5 hx5
          have hM5 := hMr.ext hx5
          have hol9 : out.length ≤ 200000 := by rw [hole.out]; omega
          clear hvm d0 d1 m3 hst hM hMr
          by_cases hn : nv = last
          · have hnb : (nv != last) = false := by simpa using hn
            have hs : Hid (T = out ++ chE o p xs base f m last) := by show _ = _; rw [hst2.out, if_pos hn]
            clear hst2 hn
            go_wp2_with fail
            go_roundw
            case rel => exact ⟨f, out, last, m, by go_num, by go_num, by omega, by omega, by omega, by rw [hole.out]; omega, hs, hM5⟩
            case measure => simp [intOf]; omega
          · have hnb : (nv != last) = true := by simpa using hn
            have hs : Hid (T = out ++ m :: chE o p xs base f m nv) := by show _ = _; rw [hst2.out, if_neg hn]
            clear hst2 hn
            have hM6 := hM5.allocN (.cells #[.int .i64 m] 3)
            have hS := Src.lit1 (w := w5.alloc (.cells #[.int .i64 m] 3)) (b := w5.heap.size) (sz := 1) (E := IntR) (H := noH) (x := m) (cs := [.int .i64 m]) ⟨rfl, by unfold I64; omega⟩ rfl (fun j => by rw [(Proofs.YtcmdekhhclgdcaaGreatDoor.Own.new w5 #[.int .i64 m] 3).facts.1 j]; simp)
            go_upto_region 16 with (fail)
            go_upto_region 17 with (first | (at_builtin; refine wpList_append_M 0 rfl _ _ 22 rfl Tryz.underlying22 infoInt rfl rfl rfl hM6 rfl hS one_IntR (by simp; omega) (by simp; omega) ?c5))
            case c5 =>
              intro v6 w6 hM7
              try simp only [List.set_cons_zero] at hM7
              obtain ⟨na, nc, rfl, -⟩ := hM7.form 0 rfl
              clear hM5 hM6 hS
              go_wp2_with fail
              go_roundw
              case rel => exact ⟨f, out ++ [m], nv, m, by go_num, by go_num, by omega, by omega, by omega, by have := hole.out; simp; omega, Lib.hid (by rw [hs.out]; simp), by simpa using hM7⟩
              case measure => simp [intOf]; omega
end Go.Proofs.YtcmdekhhclgdcaaGreatDoor
