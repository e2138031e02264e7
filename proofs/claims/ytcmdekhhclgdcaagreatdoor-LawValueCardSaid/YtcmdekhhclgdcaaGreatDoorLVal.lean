/- package law: the ranges, Valid, check. -/
import Derived.Test.YtcmdekhhclgdcaaGreatDoorLRul
namespace Go.Proofs.YtcmdekhhclgdcaaGreatDoor
open Go.RowKit Go.Shelf
set_option linter.unusedSimpArgs false
set_option linter.unusedVariables false
def loR (p : Nat) : Int := if p = 7 ∨ p = 8 then 1 else 0
def hiR (p : Nat) : Int := if p < 7 then 120 else if p < 9 then 100 else if p < 17 then 1099511627776 else 100
def rngT : Array Value := #[.int .i64 0, .int .i64 120, .int .i64 0, .int .i64 120, .int .i64 0, .int .i64 120, .int .i64 0, .int .i64 120, .int .i64 0, .int .i64 120, .int .i64 0, .int .i64 120, .int .i64 0, .int .i64 120, .int .i64 1, .int .i64 100, .int .i64 1, .int .i64 100, .int .i64 0, .int .i64 1099511627776, .int .i64 0, .int .i64 1099511627776, .int .i64 0, .int .i64 1099511627776, .int .i64 0, .int .i64 1099511627776, .int .i64 0, .int .i64 1099511627776, .int .i64 0, .int .i64 1099511627776, .int .i64 0, .int .i64 1099511627776, .int .i64 0, .int .i64 1099511627776, .int .i64 0, .int .i64 100, .int .i64 0, .int .i64 100]
/-- the table of ranges -/
def VR (h : PH) : Prop := ∀ j u, rngT[j]? = some u → cellAt h 0 j = some u
theorem VR.mono {h h' : PH} (hv : VR h) (hl : PLe h h') : VR h' := fun j u hu => cellAt_mono hl (hv j u hu)
theorem VR.at {w : World} (h : VR (ph w)) {p : Nat} (hp : p < 19) : w.cell? ⟨0, p * 2, none⟩ = some (.int .i64 (loR p)) ∧ w.cell? ⟨0, p * 2 + 1, none⟩ = some (.int .i64 (hiR p)) := by
  have hh : ∀ q : Nat, q < 19 → rngT[q * 2]? = some (.int .i64 (loR q)) ∧ rngT[q * 2 + 1]? = some (.int .i64 (hiR q)) := by
    intro q hq
    match q, hq with
    | 0, _ | 1, _ | 2, _ | 3, _ | 4, _ | 5, _ | 6, _ | 7, _ | 8, _ | 9, _ | 10, _ | 11, _ | 12, _ | 13, _ | 14, _ | 15, _ | 16, _ | 17, _ | 18, _ => exact ⟨rfl, rfl⟩
    | q + 19, hq => omega
  rw [cell_ph, cell_ph]
  exact ⟨h _ _ (hh p hp).1, h _ _ (hh p hp).2⟩
theorem lhas_c (lo hi n : Int) (w : World) : Calls Tryz.prog 35 #[.agg #[.int .i64 lo, .int .i64 hi], .int .i64 n] w (RetV w (.bool (inB n lo hi))) := by
  have hx : Ext w (w.alloc (.cells #[.int .i64 lo, .int .i64 hi] 86)) := (by repeat (first | (with_reducible assumption) | (with_reducible exact Ext.rfl' _) | (with_reducible exact Ext.new _ _) | (with_reducible refine Ext.alloc' ?_ _) | (with_reducible refine Ext.drew' ?_) | (with_reducible refine Ext.drewN' ?_ _) | (with_reducible refine Ext.set' ?_ ?_ _; rotate_left; (focus (first | omega | (simp; done) | (simp; omega)))) | (with_reducible refine Ext.then (b := ?_) ?_ ?_; rotate_left; rotate_left; (with_reducible assumption))))
  by_cases h1 : lo ≤ n
  · by_cases h2 : n ≤ hi
    · have h := inB_t ⟨h1, h2⟩
      rw [h]; clear h
      go_enter Tryz.func35, Tryz.ntmps35
      go_wp2_with fail
      go_ret
      exact ⟨rfl, hx⟩
    · have h : inB n lo hi = false := inB_f (by omega)
      rw [h]; clear h
      go_enter Tryz.func35, Tryz.ntmps35
      go_wp2_with fail
      go_ret
      exact ⟨rfl, hx⟩
  · have h : inB n lo hi = false := inB_f (by omega)
    rw [h]; clear h
    go_enter Tryz.func35, Tryz.ntmps35
    go_wp2_with fail
    go_ret
    exact ⟨rfl, hx⟩
/-- a value is in the range of parameter p -/
def inR (p : Nat) (n : Int) : Bool := inB n (loR p) (hiR p)
def rngF : Nat → List Int → Bool
  | _, [] => true
  | p, n :: r => inR p n && rngF (p + 1) r
/-- the error of rules -/
noncomputable def rulF : List (Cal × List Int) → Int
  | [] => 0
  | x :: r => if calE x.1 ≠ 0 then calE x.1 else if x.2.length ≠ 19 then 1 else if rngF 0 x.2 = false then 5 else rulF r
noncomputable def lawE (r : Rul) : Int := if r.1.length ≠ 12 ∨ r.2.length ≠ 12 then 1 else rulF (r.1.zip r.2)
theorem rulF_drop {cs : List Cal} {bs : List (List Int)} {k : Nat} (h1 : k < cs.length) (h2 : k < bs.length) :
    rulF ((cs.zip bs).drop k) = if calE cs[k] ≠ 0 then calE cs[k] else if bs[k].length ≠ 19 then 1 else if rngF 0 bs[k] = false then 5 else rulF ((cs.zip bs).drop (k + 1)) := by
  have hz : k < (cs.zip bs).length := by rw [List.length_zip]; omega
  rw [List.drop_eq_getElem_cons hz, rulF, List.getElem_zip]
theorem rngF_drop {l : List Int} {k : Nat} (h : k < l.length) : rngF k (l.drop k) = (inR k l[k] && rngF (k + 1) (l.drop (k + 1))) := by
  rw [List.drop_eq_getElem_cons h, rngF]
theorem CalE.at {w : World} {a : Option Addr} {n cap : Nat} {xs : List Cal} (hr : SliceRep CalE 2 (ph w) (.slice a n cap) xs) (k : Nat) (hk : k < xs.length) :
    ∃ b o p n' q p' n'' q', a = some ⟨b, o, none⟩ ∧ w.cell? ⟨b, o + k * 2, none⟩ = some (.slice p n' q) ∧ w.cell? ⟨b, o + k * 2 + 1, none⟩ = some (.slice p' n'' q') ∧ b < w.heap.size ∧ CalR (ph w) (.agg #[.slice p n' q, .slice p' n'' q']) xs[k] := by
  obtain ⟨b, o, cs, h1, h2, h3, ⟨p, n', q, p', n'', q', rfl, h5⟩⟩ := hr.get k hk
  have c0 := h3 0 (by omega)
  have c1 := h3 1 (by omega)
  refine ⟨b, o, p, n', q, p', n'', q', h1, ?_, ?_, ?_, h5⟩
  · rw [cell_ph]; exact c0
  · rw [cell_ph]; exact c1
  · have : w.cell? ⟨b, o + k * 2, none⟩ = some (.slice p n' q) := by rw [cell_ph]; exact c0
    exact cell_lt this
theorem LstE.at {w : World} {a : Option Addr} {n cap : Nat} {xs : List (List Int)} (hr : SliceRep LstE 1 (ph w) (.slice a n cap) xs) (k : Nat) (hk : k < xs.length) :
    ∃ b o p q, a = some ⟨b, o, none⟩ ∧ w.cell? ⟨b, o + k, none⟩ = some (.slice p xs[k].length q) ∧ b < w.heap.size ∧ IntsR (ph w) (.slice p xs[k].length q) xs[k] := by
  obtain ⟨b, o, cs, h1, h2, h3, ⟨p, q, rfl, h5⟩⟩ := hr.get k hk
  have c0 := h3 0 (by omega)
  have c1 : w.cell? ⟨b, o + k, none⟩ = some (.slice p xs[k].length q) := by rw [cell_ph]; simpa using c0
  exact ⟨b, o, p, q, h1, c1, cell_lt c1, h5⟩
set_option maxRecDepth 100000 in
set_option maxHeartbeats 4000000 in
theorem lawValid_c (r : Rul) (v : Value) (w : World) (hr : RulR (ph w) v r) (hV : VL (ph w)) (hR : VR (ph w)) : Calls Tryz.prog 34 #[v] w (RetV w (.int .i64 (lawE r))) := by
  obtain ⟨cs, bs⟩ := r
  obtain ⟨a, b, rfl, hC, hB⟩ := hr
  obtain ⟨ca, cc, rfl, clen, -⟩ := hC.form
  obtain ⟨ba, bc, rfl, blen, -⟩ := hB.form
  dsimp only at hC hB clen blen ⊢
  by_cases h1 : cs.length = 12
  · by_cases h2 : bs.length = 12
    · have hE : Hid (lawE (cs, bs) = rulF ((cs.zip bs).drop 0)) := by
        show _ = _
        unfold lawE
        rw [if_neg (by dsimp only; omega), List.drop_zero]
      have hstep := fun k (h : k < 12) => rulF_drop (cs := cs) (bs := bs) (k := k) (by omega) (by omega)
      have hdone : Hid (rulF ((cs.zip bs).drop 12) = 0) := by
        show _ = _
        rw [List.drop_of_length_le (by rw [List.length_zip]; omega)]; rfl
      have hCk : Hid (∀ k (h : k < 12), ∃ b o p n' q p' n'' q', ca = some ⟨b, o, none⟩ ∧ w.cell? ⟨b, o + k * 2, none⟩ = some (.slice p n' q) ∧ w.cell? ⟨b, o + k * 2 + 1, none⟩ = some (.slice p' n'' q') ∧ b < w.heap.size ∧ CalR (ph w) (.agg #[.slice p n' q, .slice p' n'' q']) (cs[k]'(by omega))) := Lib.hid fun k h => CalE.at hC k (by omega)
      have hBk : Hid (∀ k (h : k < 12), ∃ b o p q, ba = some ⟨b, o, none⟩ ∧ w.cell? ⟨b, o + k, none⟩ = some (.slice p (bs[k]'(by omega)).length q) ∧ b < w.heap.size ∧ IntsR (ph w) (.slice p (bs[k]'(by omega)).length q) (bs[k]'(by omega))) := Lib.hid fun k h => LstE.at hB k (by omega)
      replace hstep := Lib.hid hstep
      clear hC hB
      rw [h1, h2]
      generalize hzs : cs.zip bs = zs at *
      go_enter Tryz.func34, Tryz.ntmps34
      go_wp2_with fail
      have hO := Proofs.YtcmdekhhclgdcaaGreatDoor.Own.new w #[.slice ca 12 cc, .slice ba 12 bc] 38
      have hx := Ext.new w (.cells #[.slice ca 12 cc, .slice ba 12 bc] 38)
      have hsz := hO.lt
      generalize w.alloc _ = W at *
      obtain ⟨of, -⟩ := hO.facts
      have o0 : _ = some (Value.slice ca 12 cc) := of 0
      have o1 : _ = some (Value.slice ba 12 bc) := of 1
      clear of hO
      go_wp2_with fail
      go_loopw [21] (fun i wr => ∃ k : Nat, k ≤ 12 ∧ i = .int .i64 k ∧ Hid (lawE (cs, bs) = rulF (zs.drop k)) ∧ Ext W wr) (fun i _ => 12 - (intOf i).toNat)
      case atStart => exact ⟨0, by omega, rfl, hE, Ext.rfl' _⟩
      case round =>
        clear hE
        obtain ⟨k, hk, rfl, hE, hxr⟩ := hrel
        by_cases hlt : k < 12
        · have hlt' : (k : Int) < 12 := by omega
          obtain ⟨gb, go, p, n', q, p', n'', q', rfl, c0, c1, cl, hcr⟩ := hCk.out k hlt
          obtain ⟨lb, lo, lp, lq, rfl, l0, ll, hlr⟩ := hBk.out k hlt
          have hs := hstep.out k hlt
          generalize cs[k]'(by omega) = C at *
          generalize bs[k]'(by omega) = L at *
          have hxw := hx.then hxr
          replace c0 := hxw.cell1 c0
          replace c1 := hxw.cell1 c1
          replace l0 := hxw.cell1 l0
          replace hcr := hcr.mono hxw.ple
          replace hlr := hlr.mono mono_IntR hxw.ple
          replace cl := Nat.lt_of_lt_of_le cl hxw.size
          replace ll := Nat.lt_of_lt_of_le ll hxw.size
          have o0' := hxr.cell1 o0
          have o1' := hxr.cell1 o1
          have hsz' := Nat.lt_of_lt_of_le hsz hxr.size
          have hcv := fun w hr hV => calValid_c C (.agg #[.slice p n' q, .slice p' n'' q']) w hr hV
          generalize calE C = ce at *
          replace hs := Lib.hid hs
          clear hCk hBk
          have hx2 := Ext.new wr (.cells #[.slice p n' q, .slice p' n'' q'] 71)
          go_wp2_with fail
          refine RetV_at (hcv _ (hcr.mono hx2.ple) ((hV.mono hxw.ple).mono hx2.ple)) ?_
          intro w3 hx3
          have hx23 := hx2.then hx3
          replace o0' := hx23.cell1 o0'
          replace o1' := hx23.cell1 o1'
          replace hsz' := Nat.lt_of_lt_of_le hsz' hx23.size
          replace l0 := hx23.cell1 l0
          replace ll := Nat.lt_of_lt_of_le ll hx23.size
          replace hlr := hlr.mono mono_IntR hx23.ple
          replace hxw := hxw.then hx23
          replace hxr := hxr.then hx23
          clear hx23 hcv hcr c0 c1 cl
          by_cases hce : ce = 0
          · subst hce
            by_cases hl19 : L.length = 19
            · have hE2 : Hid (lawE (cs, bs) = if rngF 0 (L.drop 0) = false then 5 else rulF (zs.drop (k + 1))) := by
                show _ = _
                rw [hE.out, hs.out, if_neg (by simp), if_neg (by omega), List.drop_zero]
              have hrs := fun j (h : j < 19) => rngF_drop (l := L) (k := j) (by omega)
              have hr19 : Hid (rngF 19 (L.drop 19) = true) := by
                show _ = _
                rw [List.drop_of_length_le (by omega)]; rfl
              have hIk : Hid (∀ j (h : j < 19), ∃ b o, lp = some ⟨b, o, none⟩ ∧ w3.cell? ⟨b, o + j, none⟩ = some (.int .i64 (L[j]'(by omega))) ∧ b < w3.heap.size) := Lib.hid fun j h => by
                obtain ⟨b, o, h1, h2, -, h3⟩ := IntsR.at hlr j (by omega)
                exact ⟨b, o, h1, h2, h3⟩
              have hg := fun w lo hi n => lhas_c lo hi n w
              replace hrs := Lib.hid hrs
              replace hg := Lib.hid hg
              clear hlr hE hs
              rw [hl19] at l0
              go_wp2_with fail
              go_loopw [44] (fun i wq => ∃ j : Nat, j ≤ 19 ∧ i = .int .i64 j ∧ Hid (rngF 0 (L.drop 0) = rngF j (L.drop j)) ∧ Ext w3 wq) (fun i _ => 19 - (intOf i).toNat)
              case atStart => exact ⟨0, by omega, rfl, Lib.hid rfl, Ext.rfl' _⟩
              case round =>
                obtain ⟨j, hj, rfl, hF, hxq⟩ := hrel
                by_cases hlt2 : j < 19
                · have hlt2' : (j : Int) < 19 := by omega
                  obtain ⟨ib, io, rfl, i0, il⟩ := hIk.out j hlt2
                  have hrs1 := hrs.out j hlt2
                  generalize L[j]'(by omega) = y at *
                  replace i0 := hxq.cell1 i0
                  replace il := Nat.lt_of_lt_of_le il hxq.size
                  have hRq := hR.mono (hxw.then hxq).ple
                  obtain ⟨r0, r1⟩ := hRq.at hlt2
                  have rl := cell_lt r0
                  have hgg := hg.out wr (loR j) (hiR j) y
                  unfold inR at hrs1
                  generalize loR j = lo9 at *
                  generalize hiR j = hi9 at *
                  obtain ⟨bb, hbb⟩ : ∃ bb, inB y lo9 hi9 = bb := ⟨_, rfl⟩
                  rw [hbb] at hrs1 hgg
                  clear hbb hIk hrs hg
                  cases bb with
                  | true =>
                    have hF2 : Hid (rngF 0 (L.drop 0) = rngF (j + 1) (L.drop (j + 1))) := by show _ = _; rw [hF.out, hrs1]; rfl
                    clear hrs1
                    go_wp2_with fail
                    refine RetV_at hgg ?_
                    intro w5 hx5
                    go_wp2_with fail
                    go_roundw
                    case rel => exact ⟨j + 1, by omega, rfl, hF2, hxq.then hx5⟩
                    case measure => simp [intOf]; omega
                  | false =>
                    have hE3 : Hid (lawE (cs, bs) = 5) := by show _ = _; rw [hE2.out, hF.out, hrs1]; rfl
                    clear hrs1
                    go_wp2_with fail
                    refine RetV_at hgg ?_
                    intro w5 hx5
                    go_wp2_with fail
                    go_ret
                    exact ⟨ret_int hE3.out.symm, (hxw.then hxq).then hx5⟩
                · obtain rfl : j = 19 := by omega
                  have hE3 : Hid (lawE (cs, bs) = rulF (zs.drop (k + 1))) := by show _ = _; rw [hE2.out, hF.out, hr19.out]; rfl
                  go_wp2_with fail
                  go_roundw
                  case rel => exact ⟨k + 1, by omega, rfl, hE3, hxr.then hxq⟩
                  case measure => simp [intOf]; omega
            · have hE2 : Hid (lawE (cs, bs) = 1) := by
                show _ = _
                rw [hE.out, hs.out, if_neg (by simp), if_pos hl19]
              have hl' : ((L.length : Int) != 19) = true := by simp; omega
              clear hE hs
              go_wp2_with fail
              go_ret
              exact ⟨ret_int hE2.out.symm, hxw⟩
          · have hE2 : Hid (lawE (cs, bs) = ce) := by
              show _ = _
              rw [hE.out, hs.out, if_pos hce]
            have hb : (ce != 0) = true := by rw [bne_iff_ne]; exact hce
            clear hE hs hce
            go_wp2_with fail
            go_ret
            exact ⟨ret_int hE2.out.symm, hxw⟩
        · obtain rfl : k = 12 := by omega
          have hz : Hid (lawE (cs, bs) = 0) := by show _ = _; rw [hE.out]; exact hdone.out
          go_wp2_with fail
          go_ret
          exact ⟨ret_int hz.out.symm, hx.then hxr⟩
    · have hE : Hid (lawE (cs, bs) = 1) := by show _ = _; unfold lawE; rw [if_pos (by dsimp only; omega)]
      have h2' : ((bs.length : Int) != 12) = true := by simp; omega
      clear hC hB h2
      rw [h1]
      go_enter Tryz.func34, Tryz.ntmps34
      go_wp2_with fail
      go_ret
      exact ⟨ret_int hE.out.symm, (by repeat (first | (with_reducible assumption) | (with_reducible exact Ext.rfl' _) | (with_reducible exact Ext.new _ _) | (with_reducible refine Ext.alloc' ?_ _) | (with_reducible refine Ext.drew' ?_) | (with_reducible refine Ext.drewN' ?_ _) | (with_reducible refine Ext.set' ?_ ?_ _; rotate_left; (focus (first | omega | (simp; done) | (simp; omega)))) | (with_reducible refine Ext.then (b := ?_) ?_ ?_; rotate_left; rotate_left; (with_reducible assumption))))⟩
  · have hE : Hid (lawE (cs, bs) = 1) := by show _ = _; unfold lawE; rw [if_pos (by dsimp only; omega)]
    have h2' : ((cs.length : Int) != 12) = true := by simp; omega
    clear hC hB h1
    go_enter Tryz.func34, Tryz.ntmps34
    go_wp2_with fail
    go_ret
    exact ⟨ret_int hE.out.symm, (by repeat (first | (with_reducible assumption) | (with_reducible exact Ext.rfl' _) | (with_reducible exact Ext.new _ _) | (with_reducible refine Ext.alloc' ?_ _) | (with_reducible refine Ext.drew' ?_) | (with_reducible refine Ext.drewN' ?_ _) | (with_reducible refine Ext.set' ?_ ?_ _; rotate_left; (focus (first | omega | (simp; done) | (simp; omega)))) | (with_reducible refine Ext.then (b := ?_) ?_ ?_; rotate_left; rotate_left; (with_reducible assumption))))⟩
end Go.Proofs.YtcmdekhhclgdcaaGreatDoor
