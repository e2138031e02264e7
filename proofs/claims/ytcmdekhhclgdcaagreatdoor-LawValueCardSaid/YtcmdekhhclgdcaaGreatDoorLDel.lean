/- slices.IndexFunc and slices.DeleteFunc at acts. -/
import Derived.Test.YtcmdekhhclgdcaaGreatDoorLMem
namespace Go.Proofs.YtcmdekhhclgdcaaGreatDoor
open Go.RowKit Go.Shelf
set_option linter.unusedSimpArgs false
set_option linter.unusedVariables false
abbrev ownA (v : Value) (xs : List Ac) : Chunk := own mono_ActR 19 67 v xs
/-- what a predicate of acts answers while an own slice of acts is under way -/
def HP (w0 : World) (LB : List Chunk) (p : Ac → Bool) (fid : Nat) (cap : Array Value) : Prop := ∀ w' v ys x, Mem w0 noH (ownA v ys :: LB) noH w' → x.I → Calls Tryz.prog fid (#[.agg (actC x).toArray] ++ cap) w' (RetV w' (.bool (p x)))
theorem actsM_row {w0 W : World} {LB : List Chunk} {oa : Option Addr} {N oc k : Nat} {xs : List Ac} {x : Ac} (hM : Mem w0 noH (ownA (.slice oa N oc) xs :: LB) noH W) (hk : xs[k]? = some x) :
    ∃ g, oa = some ⟨g, 0, none⟩ ∧ g < W.heap.size ∧ (∀ j u, (actC x)[j]? = some u → W.cell? ⟨g, k * 19 + j, none⟩ = some u) ∧ x.I := by
  obtain ⟨hkl, hkx⟩ := List.getElem?_eq_some_iff.1 hk
  obtain ⟨g, cap, cs, hv, hcs, hc, ⟨hc1, hI⟩, hg⟩ := hM.get 0 rfl k hkl
  rw [hkx] at hc1 hI
  subst hc1
  cases hv
  refine ⟨g, rfl, hg, fun j u hu => ?_, hI⟩
  obtain ⟨hj, he⟩ := List.getElem?_eq_some_iff.1 hu
  rw [hc j (by rw [actC_len] at hj; exact hj), ← he]
  simp [List.getD_eq_getElem?_getD, hj]
set_option maxRecDepth 100000 in
set_option maxHeartbeats 1000000 in
theorem idxAct_c (p : Ac → Bool) (fid : Nat) (cap : Array Value) (v : Value) (xs : List Ac) (w0 w : World) (LB : List Chunk) (hM : Mem w0 noH (ownA v xs :: LB) noH w)
    (hfn : ∀ args w, (callFunc fid args).run Tryz.prog w = .ok (.enter fid args) w) (hf : HP w0 LB p fid cap) :
    Calls Tryz.prog 61 #[v, .func (.func fid) #[] cap] w (RetV w (.int .i64 (idxOf p xs))) := by
  obtain ⟨a, c, rfl, hlen⟩ := hM.form 0 rfl
  have HF := Lib.hid hf; clear hf
  go_enter Tryz.func61, Tryz.ntmps61
  go_wp2
  go_loopw [8] (fun i wr => ∃ k : Nat, k ≤ xs.length ∧ i = .int .i64 k ∧ Hid (∀ x ∈ xs.take k, p x = false) ∧ Ext w wr) (fun i _ => xs.length - (intOf i).toNat)
  case atStart => exact ⟨0, Nat.zero_le _, rfl, Lib.hid (by simp), (by repeat (first | (with_reducible assumption) | (with_reducible exact Ext.rfl' _) | (with_reducible exact Ext.new _ _) | (with_reducible refine Ext.alloc' ?_ _) | (with_reducible refine Ext.drew' ?_) | (with_reducible refine Ext.drewN' ?_ _) | (with_reducible refine Ext.set' ?_ ?_ _; rotate_left; (focus (first | omega | (simp; done) | (simp; omega)))) | (with_reducible refine Ext.then (b := ?_) ?_ ?_; rotate_left; rotate_left; (with_reducible assumption))))⟩
  case round =>
    obtain ⟨k, hk, rfl, HNO, hb⟩ := hrel
    by_cases hlt : k < xs.length
    · have hMr := hM.ext hb
      obtain ⟨g, rfl, hg, gc, hI⟩ := actsM_row hMr (List.getElem?_eq_getElem hlt)
      have hcall := HF.out _ _ _ _ hMr hI
      have hfound := fun h => idxOf_found p xs k hlt h HNO.out
      have hnext := fun h => take_all (p := fun x => p x = false) hlt h HNO.out
      generalize xs[k] = x at *
      replace gc := Lib.hid gc
      replace hfound := Lib.hid hfound
      replace hnext := Lib.hid hnext
      replace hcall := Lib.hid hcall
      clear hMr HF
      go_upto_region 4 with (fail)
      go_wp2_with (first | (refine wpList_load_mid rfl 67 _ rfl _ _ rfl (actC _) _ gc.out Tryz.underlying67 rfl (by kernel_rfl) ?_))
      refine hcall.out.mono ?_
      rintro e w1 ⟨rfl, hb1⟩
      cases hpk : p x with
      | true =>
        have hfo := hfound.out hpk
        replace hfo := Lib.hid hfo
        clear hpk hcall
        go_wp2_with fail
        go_ret
        exact ⟨ret_int hfo.out.symm, (by repeat (first | (with_reducible assumption) | (with_reducible exact Ext.rfl' _) | (with_reducible exact Ext.new _ _) | (with_reducible refine Ext.alloc' ?_ _) | (with_reducible refine Ext.drew' ?_) | (with_reducible refine Ext.drewN' ?_ _) | (with_reducible refine Ext.set' ?_ ?_ _; rotate_left; (focus (first | omega | (simp; done) | (simp; omega)))) | (with_reducible refine Ext.then (b := ?_) ?_ ?_; rotate_left; rotate_left; (with_reducible assumption))))⟩
      | false =>
        have hno := Lib.hid (hnext.out hpk)
        clear hpk hcall
        go_wp2_with fail
        go_roundw
        case rel => exact ⟨k + 1, by omega, by go_num, hno, (by repeat (first | (with_reducible assumption) | (with_reducible exact Ext.rfl' _) | (with_reducible exact Ext.new _ _) | (with_reducible refine Ext.alloc' ?_ _) | (with_reducible refine Ext.drew' ?_) | (with_reducible refine Ext.drewN' ?_ _) | (with_reducible refine Ext.set' ?_ ?_ _; rotate_left; (focus (first | omega | (simp; done) | (simp; omega)))) | (with_reducible refine Ext.then (b := ?_) ?_ ?_; rotate_left; rotate_left; (with_reducible assumption))))⟩
        case measure => simp [intOf]; omega
    · have hnone : Hid (idxOf p xs = -1) := Lib.hid (idxOf_none p xs (take_done (by omega) HNO.out))
      clear hM HF HNO
      go_wp2_with fail
      go_ret
      exact ⟨ret_int hnone.out.symm, (by repeat (first | (with_reducible assumption) | (with_reducible exact Ext.rfl' _) | (with_reducible exact Ext.new _ _) | (with_reducible refine Ext.alloc' ?_ _) | (with_reducible refine Ext.drew' ?_) | (with_reducible refine Ext.drewN' ?_ _) | (with_reducible refine Ext.set' ?_ ?_ _; rotate_left; (focus (first | omega | (simp; done) | (simp; omega)))) | (with_reducible refine Ext.then (b := ?_) ?_ ?_; rotate_left; rotate_left; (with_reducible assumption))))⟩
/-- where the deletion is: j elements read, i of them kept -/
def DelAt (p : Ac → Bool) (xs ys : List Ac) (i j : Nat) : Prop := ys.length = xs.length ∧ i < j ∧ j ≤ xs.length ∧ ys.take i = (xs.take j).filter (fun x => !p x) ∧ i = ((xs.take j).filter fun x => !p x).length ∧ ys.drop j = xs.drop j
theorem DelAt.at {p : Ac → Bool} {xs ys : List Ac} {i j : Nat} (h : DelAt p xs ys i j) (hj : j < xs.length) : ys[j]? = some (xs[j]) := by
  obtain ⟨h1, -, -, -, -, h6⟩ := h
  have := congrArg (fun l => l[0]?) h6
  simpa [hj] using this
theorem DelAt.skip {p : Ac → Bool} {xs ys : List Ac} {i j : Nat} (h : DelAt p xs ys i j) (hj : j < xs.length) (hp : p xs[j] = true) : DelAt p xs ys i (j + 1) := by
  obtain ⟨h1, h2, h3, h4, h5, h6⟩ := h
  have e : (xs.take (j + 1)).filter (fun x => !p x) = (xs.take j).filter (fun x => !p x) := by
    rw [List.take_add_one, List.filter_append, List.getElem?_eq_getElem hj]
    simp [hp]
  refine ⟨h1, by omega, by omega, by rw [e]; exact h4, by rw [e]; exact h5, ?_⟩
  rw [← List.drop_drop, ← List.drop_drop, h6]
theorem DelAt.keep {p : Ac → Bool} {xs ys : List Ac} {i j : Nat} (h : DelAt p xs ys i j) (hj : j < xs.length) (hp : p xs[j] = false) : DelAt p xs (ys.set i xs[j]) (i + 1) (j + 1) := by
  obtain ⟨h1, h2, h3, h4, h5, h6⟩ := h
  have e : (xs.take (j + 1)).filter (fun x => !p x) = (xs.take j).filter (fun x => !p x) ++ [xs[j]] := by
    rw [List.take_add_one, List.filter_append, List.getElem?_eq_getElem hj]
    simp [hp]
  refine ⟨by simpa using h1, by omega, by omega, ?_, ?_, ?_⟩
  · rw [e, ← h4, List.take_add_one, List.take_set_of_le (Nat.le_refl _), List.getElem?_set_self (by omega)]; rfl
  · rw [e, List.length_append, ← h5]; rfl
  · rw [List.drop_set_of_lt (by omega), ← List.drop_drop, ← List.drop_drop, h6]
theorem DelAt.start {p : Ac → Bool} {xs : List Ac} {i : Nat} (hi : i < xs.length) (hp : p xs[i] = true) (hno : ∀ x ∈ xs.take i, p x = false) : DelAt p xs xs i (i + 1) := by
  have e0 : (xs.take i).filter (fun x => !p x) = xs.take i := by
    rw [List.filter_eq_self]
    intro x hx; rw [hno x hx]; rfl
  have e : (xs.take (i + 1)).filter (fun x => !p x) = xs.take i := by
    rw [List.take_add_one, List.filter_append, List.getElem?_eq_getElem hi, e0]
    simp [hp]
  exact ⟨rfl, by omega, by omega, e.symm, by rw [e, List.length_take]; omega, rfl⟩
theorem DelAt.done {p : Ac → Bool} {xs ys : List Ac} {i : Nat} (h : DelAt p xs ys i xs.length) : ys.take i = xs.filter fun x => !p x := by
  rw [h.2.2.2.1, List.take_length]
theorem idxOf_cases (p : Ac → Bool) (xs : List Ac) : (idxOf p xs = -1 ∧ xs.filter (fun x => !p x) = xs) ∨ ∃ i : Nat, idxOf p xs = i ∧ ∃ hi : i < xs.length, p xs[i] = true ∧ ∀ x ∈ xs.take i, p x = false := by
  by_cases h : ∀ x ∈ xs, p x = false
  · refine .inl ⟨idxOf_none p xs h, ?_⟩
    rw [List.filter_eq_self]
    intro x hx; rw [h x hx]; rfl
  · have hex : ∃ x ∈ xs, p x = true := by
      refine Classical.byContradiction fun hn => h fun x hx => ?_
      cases hp : p x with
      | false => rfl
      | true => exact absurd ⟨x, hx, hp⟩ hn
    have hlt := List.findIdx_lt_length_of_exists hex
    have hp : p xs[xs.findIdx p] = true := List.findIdx_getElem (w := hlt)
    have hno : ∀ x ∈ xs.take (xs.findIdx p), p x = false := by
      intro x hx
      obtain ⟨j, hj, rfl⟩ := List.mem_iff_getElem.1 hx
      rw [List.length_take] at hj
      rw [List.getElem_take]
      simpa using List.not_of_lt_findIdx (p := p) (xs := xs) (i := j) (by omega)
    exact .inr ⟨xs.findIdx p, idxOf_found p xs _ hlt hp hno, hlt, hp, hno⟩
/-- an own slice of acts came back -/
def OwnP (w0 : World) (LB : List Chunk) (ys : List Ac) (e : Ending) (w' : World) : Prop := ∃ v', e = .returned v' ∧ Mem w0 noH (ownA v' ys :: LB) noH w'
theorem zeroAct (w : World) : (zeroValue 67).run Tryz.prog w = .ok (.agg #[.int .i64 0, .int .i64 0, .int .i64 0, .int .i64 0, .int .i64 0, .int .i64 0, .int .i64 0, .int .i64 0, .int .i64 0, .int .i64 0, .int .i64 0, .slice none 0 0, .slice none 0 0, .slice none 0 0, .slice none 0 0, .int .i64 0, .int .i64 0, .slice none 0 0, .slice none 0 0]) w := by
  obtain ⟨i, hi, hz0, hz1, hz2⟩ := info_parts infoAct
  simp [zeroValue, typeInfo, hi, hz0]
set_option maxRecDepth 100000 in
set_option maxHeartbeats 4000000 in
theorem delAct_c (p : Ac → Bool) (fid : Nat) (cap : Array Value) (v : Value) (xs : List Ac) (w0 w : World) (LB : List Chunk) (hM : Mem w0 noH (ownA v xs :: LB) noH w) (hlen : xs.length ≤ 1000000)
    (hfn : ∀ args w, (callFunc fid args).run Tryz.prog w = .ok (.enter fid args) w) (hf : HP w0 LB p fid cap) :
    Calls Tryz.prog 36 #[v, .func (.func fid) #[] cap] w (OwnP w0 LB (xs.filter fun x => !p x)) := by
  have hidx := idxAct_c p fid cap v xs w0 w LB hM hfn hf
  obtain ⟨a, c, rfl, -⟩ := hM.form 0 rfl
  have HF := Lib.hid hf; clear hf
  rcases idxOf_cases p xs with ⟨e1, e2⟩ | ⟨i, e1, hi, hpi, hno⟩
  · rw [e1] at hidx
    replace e2 := Lib.hid e2
    clear e1
    go_enter Tryz.func36, Tryz.ntmps36
    go_wp2_with fail
    refine RetV_at hidx ?_
    intro w2 hx2
    go_wp2_with fail
    go_ret
    exact ⟨_, rfl, by rw [e2.out]; exact hM.ext hx2⟩
  · rw [e1] at hidx
    have hst := Lib.hid (DelAt.start hi hpi hno)
    obtain ⟨N, hN⟩ : ∃ N, xs.length = N := ⟨_, rfl⟩
    have hNi : i < N := by omega
    have hN6 : N ≤ 1000000 := by omega
    simp only [hN] at hidx
    simp only [hN]
    rw [hN] at hM
    replace hN := Lib.hid hN
    clear e1 hi hpi hno hlen
    have hne : ((i : Int) == -1) = false := by simp
    go_enter Tryz.func36, Tryz.ntmps36
    go_wp2_with fail
    refine RetV_at hidx ?_
    intro w2 hx2
    have hM2 := hM.ext hx2
    clear hM hidx
    go_wp2_with fail
    go_loopw [5, 6] (fun vi vj wr => ∃ (i j : Nat) (ys : List Ac), i < j ∧ j ≤ N ∧ vi = .int .i64 i ∧ vj = .int .i64 j ∧ Hid (DelAt p xs ys i j) ∧ Mem w0 noH (ownA (.slice a N c) ys :: LB) noH wr) (fun _ vj _ => N - (intOf vj).toNat)
    case atStart => exact ⟨i, i + 1, xs, by omega, by omega, rfl, by go_num, hst, hM2⟩
    case round =>
      clear hM2 hst
      obtain ⟨i, j, ys, hij, hjN, rfl, rfl, hD, hM⟩ := hrel
      have hyl : Hid (ys.length = N) := by show _ = _; rw [hD.out.1]; exact hN.out
      by_cases hlt : j < N
      · have hlt' : j < xs.length := by rw [hN.out]; exact hlt
        have hyj := hD.out.at hlt'
        obtain ⟨g, rfl, hg, gc, hI⟩ := actsM_row hM hyj
        have hsk := Lib.hid (hD.out.skip hlt')
        have hkp := Lib.hid (hD.out.keep hlt')
        generalize xs[j] = x at *
        replace gc := Lib.hid gc
        replace hyj := Lib.hid hyj
        have hja : decide (j < N) = true := by simpa using hlt
        have hM3 := hM.ext (Ext.new wr (.cells (actC x).toArray 67))
        have hO3 := Proofs.YtcmdekhhclgdcaaGreatDoor.Own.new wr (actC x).toArray 67
        have hcall := HF.out _ _ _ _ hM3 hI
        replace hcall := Lib.hid hcall
        clear hlt'
        go_upto_region 7 with (fail)
        go_upto_region 8 with (first | (refine wpList_load_mid rfl 67 _ rfl _ _ rfl (actC _) _ gc.out Tryz.underlying67 rfl (by kernel_rfl) ?_) | (refine wpList_store_new rfl 67 _ _ rfl (actC _).toArray rfl rfl 67 _ (by kernel_rfl) rfl (one_act _) ?_))
        generalize wr.heap.size = b7 at *
        generalize wr.alloc _ = W3 at *
        go_wp2_with (first | (refine wpList_load_row rfl 67 _ rfl _ rfl 67 (actC (x)).toArray (0, 0) _ (hO3) Tryz.underlying67 rfl (by kernel_rfl) ?_))
        refine RetV_at hcall.out ?_
        intro w4 hx4
        have hM4 := hM3.ext hx4
        have hO4 := hO3.keep hx4
        clear hcall hM3 hO3 HF
        cases hpx : p x with
        | true =>
          have hD2 := Lib.hid (hsk.out hpx)
          clear hpx hsk hkp
          go_wp2_with fail
          go_roundw
          case rel => exact ⟨i, j + 1, ys, by omega, by omega, rfl, by go_num, hD2, hM4⟩
          case measure => simp [intOf]; omega
        | false =>
          have hD2 := Lib.hid (hkp.out hpx)
          have hiN : i < N := by omega
          have hia : decide (i < N) = true := by simpa using hiN
          have hiy : i < ys.length := by rw [hyl.out]; omega
          replace hiy := Lib.hid hiy
          replace hyl := Lib.hid (show (ys.set i x).length = N by rw [List.length_set]; exact hyl.out)
          clear hpx hsk hkp
          go_upto_region 9 with (fail)
          go_upto_region 10 with (first | (refine wpList_load_row rfl 67 _ rfl _ rfl 67 (actC (x)).toArray (0, 0) _ (hO4) Tryz.underlying67 rfl (by kernel_rfl) ?_) | (refine wpList_store_M (xs := ys) (n := N) (cap := c) (g := g) rfl 67 _ _ rfl i rfl (cs := actC x) rfl (x' := x) hM4 0 rfl hiy.out ⟨rfl, hI⟩ rfl (fun u hu => one_ActR (h := noH) _ _ ⟨rfl, hI⟩ u hu) (by kernel_rfl) ?c5))
          case c5 =>
            intro w5 hM5
            try simp only [List.set_cons_zero] at hM5
            go_wp2_with fail
            go_roundw
            case rel => exact ⟨i + 1, j + 1, ys.set i x, by omega, by omega, by go_num, by go_num, hD2, hM5⟩
            case measure => simp [intOf]; omega
      · obtain rfl : j = N := by omega
        have hja : decide (j < j) = false := by simp
        have hiy : ys[i]? = some (ys[i]'(by rw [hyl.out]; omega)) := List.getElem?_eq_getElem _
        obtain ⟨g, rfl, hg, -, -⟩ := actsM_row hM hiy
        have hdn : Hid (ys.take i = xs.filter fun x => !p x) := by
          have h := hD.out
          rw [← hN.out] at h
          exact Lib.hid h.done
        have hil : Hid (i ≤ ys.length) := Lib.hid (by rw [hyl.out]; omega)
        have hcap : j ≤ c := by
          obtain ⟨cur, -, -, h3, -⟩ := hM.cur 0 rfl
          rw [hyl.out] at h3; exact h3
        clear hiy HF hD
        go_upto_region 11 with (fail)
        go_upto_region 12 with (first | (refine wpList_clear_M (xs := ys) (n := j) (cap := c) (g := g) rfl (.tmp 38) 31 rfl i rfl Tryz.underlying31 zeroAct rfl (by kernel_rfl) hM 0 rfl hil.out ?d5))
        case d5 =>
          intro w5 hM5
          try simp only [List.set_cons_zero] at hM5
          rw [hdn.out] at hM5
          go_wp2_with fail
          go_ret
          exact ⟨_, rfl, hM5⟩
end Go.Proofs.YtcmdekhhclgdcaaGreatDoor
