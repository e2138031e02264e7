/- Value of both sides. -/
import Derived.Test.YtebhdjeognpljaaThing
namespace Go.Proofs.Ytebhdjeognpljaa
open Go.RowKit
set_option linter.unusedSimpArgs false
set_option linter.unusedVariables false
set_option maxHeartbeats 400000 in
theorem indexFunc_val (p : Val → Bool) (fid : Nat) (cap : Array Value) (vs : Value) (xs : List Val) (w : World) (hr : ValsR (ph w) vs xs)
    (hfn : ∀ args w, (callFunc fid args).run Try.prog w = .ok (.enter fid args) w)
    (hf : ∀ w', Ext w w' → ∀ x ∈ xs, ∀ cs, ValR (ph w') cs x → Calls Try.prog fid (#[.agg cs.toArray] ++ cap) w' (RetV w' (.bool (p x)))) :
    Calls Try.prog 41 #[vs, .func (.func fid) #[] cap] w (RetV w (.int .i64 (idxOf p xs))) := by
  obtain ⟨a, c, rfl, hlen, hr⟩ := hr.form
  have HF := Lib.hid hf; clear hf
  go_enter Try.func41, Try.ntmps41
  go_wp2
  go_loopw [8] (fun i wr => ∃ k : Nat, k ≤ xs.length ∧ i = .int .i64 k ∧ Hid (∀ x ∈ xs.take k, p x = false) ∧ Ext w wr) (fun i _ => xs.length - (intOf i).toNat)
  case atStart => exact ⟨0, Nat.zero_le _, rfl, Lib.hid (by simp), (by repeat (first | (with_reducible assumption) | (with_reducible exact Ext.rfl' _) | (with_reducible exact Ext.new _ _) | (with_reducible refine Ext.alloc' ?_ _) | (with_reducible refine Ext.drew' ?_) | (with_reducible refine Ext.drewN' ?_ _) | (with_reducible refine Ext.set' ?_ ?_ _; rotate_left; (focus (first | omega | (simp; done) | (simp; omega)))) | (with_reducible refine Ext.then (b := ?_) ?_ ?_; rotate_left; rotate_left; (with_reducible assumption))))⟩
  case round =>
    obtain ⟨k, hk, rfl, HNO, hb⟩ := hrel
    by_cases hlt : k < xs.length
    · have hp' := hr.mono mono_ValR hb.ple
      obtain ⟨b, o, rfl, h0, h1, h2, i0, i1, i2, hbl⟩ := ValsR.at hp' k hlt; have hE : ValR (ph wr) _ xs[k] := ⟨rfl, i0, i1, i2⟩
      clear hp'
      go_wp2_with fail
      refine (HF.out _ (by repeat (first | (with_reducible assumption) | (with_reducible exact Ext.rfl' _) | (with_reducible exact Ext.new _ _) | (with_reducible refine Ext.alloc' ?_ _) | (with_reducible refine Ext.drew' ?_) | (with_reducible refine Ext.drewN' ?_ _) | (with_reducible refine Ext.set' ?_ ?_ _; rotate_left; (focus (first | omega | (simp; done) | (simp; omega)))) | (with_reducible refine Ext.then (b := ?_) ?_ ?_; rotate_left; rotate_left; (with_reducible assumption)))) _ (List.getElem_mem hlt) _ hE).mono ?_
      rintro e w1 ⟨rfl, hb1⟩
      cases hpk : p xs[k] with
      | true =>
        go_wp2_with fail
        go_ret
        exact ⟨ret_int (idxOf_found p xs k hlt hpk HNO.out).symm, (by repeat (first | (with_reducible assumption) | (with_reducible exact Ext.rfl' _) | (with_reducible exact Ext.new _ _) | (with_reducible refine Ext.alloc' ?_ _) | (with_reducible refine Ext.drew' ?_) | (with_reducible refine Ext.drewN' ?_ _) | (with_reducible refine Ext.set' ?_ ?_ _; rotate_left; (focus (first | omega | (simp; done) | (simp; omega)))) | (with_reducible refine Ext.then (b := ?_) ?_ ?_; rotate_left; rotate_left; (with_reducible assumption))))⟩
      | false =>
        go_wp2_with fail
        go_roundw
        case rel => exact ⟨k + 1, by omega, by go_num, take_all hlt hpk HNO.out, (by repeat (first | (with_reducible assumption) | (with_reducible exact Ext.rfl' _) | (with_reducible exact Ext.new _ _) | (with_reducible refine Ext.alloc' ?_ _) | (with_reducible refine Ext.drew' ?_) | (with_reducible refine Ext.drewN' ?_ _) | (with_reducible refine Ext.set' ?_ ?_ _; rotate_left; (focus (first | omega | (simp; done) | (simp; omega)))) | (with_reducible refine Ext.then (b := ?_) ?_ ?_; rotate_left; rotate_left; (with_reducible assumption))))⟩
        case measure => simp [intOf]; omega
    · clear hr HF
      go_wp2_with fail
      go_ret
      exact ⟨ret_int (idxOf_none p xs (take_done (by omega) HNO.out)).symm, (by repeat (first | (with_reducible assumption) | (with_reducible exact Ext.rfl' _) | (with_reducible exact Ext.new _ _) | (with_reducible refine Ext.alloc' ?_ _) | (with_reducible refine Ext.drew' ?_) | (with_reducible refine Ext.drewN' ?_ _) | (with_reducible refine Ext.set' ?_ ?_ _; rotate_left; (focus (first | omega | (simp; done) | (simp; omega)))) | (with_reducible refine Ext.then (b := ?_) ?_ ?_; rotate_left; rotate_left; (with_reducible assumption))))⟩
set_option maxHeartbeats 400000 in
theorem indexFunc_thing (p : Thing → Bool) (fid : Nat) (cap : Array Value) (vs : Value) (xs : List Thing) (w : World) (hr : ThingsR (ph w) vs xs)
    (hfn : ∀ args w, (callFunc fid args).run Try.prog w = .ok (.enter fid args) w)
    (hf : ∀ w', Ext w w' → ∀ x ∈ xs, ∀ cs, ThingR (ph w') cs x → Calls Try.prog fid (#[.agg cs.toArray] ++ cap) w' (RetV w' (.bool (p x)))) :
    Calls Try.prog 87 #[vs, .func (.func fid) #[] cap] w (RetV w (.int .i64 (idxOf p xs))) := by
  obtain ⟨a, c, rfl, hlen, hr⟩ := hr.form
  have HF := Lib.hid hf; clear hf
  go_enter Try.func87, Try.ntmps87
  go_wp2
  go_loopw [8] (fun i wr => ∃ k : Nat, k ≤ xs.length ∧ i = .int .i64 k ∧ Hid (∀ x ∈ xs.take k, p x = false) ∧ Ext w wr) (fun i _ => xs.length - (intOf i).toNat)
  case atStart => exact ⟨0, Nat.zero_le _, rfl, Lib.hid (by simp), (by repeat (first | (with_reducible assumption) | (with_reducible exact Ext.rfl' _) | (with_reducible exact Ext.new _ _) | (with_reducible refine Ext.alloc' ?_ _) | (with_reducible refine Ext.drew' ?_) | (with_reducible refine Ext.drewN' ?_ _) | (with_reducible refine Ext.set' ?_ ?_ _; rotate_left; (focus (first | omega | (simp; done) | (simp; omega)))) | (with_reducible refine Ext.then (b := ?_) ?_ ?_; rotate_left; rotate_left; (with_reducible assumption))))⟩
  case round =>
    obtain ⟨k, hk, rfl, HNO, hb⟩ := hrel
    by_cases hlt : k < xs.length
    · have hp' := hr.mono mono_ThingR hb.ple
      obtain ⟨b, o, b1, d1, b2, d2, b3, d3, rfl, h0, h1, h2, hE, hbl⟩ := ThingsR.at hp' k hlt
      clear hp'
      go_wp2_with fail
      refine (HF.out _ (by repeat (first | (with_reducible assumption) | (with_reducible exact Ext.rfl' _) | (with_reducible exact Ext.new _ _) | (with_reducible refine Ext.alloc' ?_ _) | (with_reducible refine Ext.drew' ?_) | (with_reducible refine Ext.drewN' ?_ _) | (with_reducible refine Ext.set' ?_ ?_ _; rotate_left; (focus (first | omega | (simp; done) | (simp; omega)))) | (with_reducible refine Ext.then (b := ?_) ?_ ?_; rotate_left; rotate_left; (with_reducible assumption)))) _ (List.getElem_mem hlt) _ hE).mono ?_
      rintro e w1 ⟨rfl, hb1⟩
      cases hpk : p xs[k] with
      | true =>
        go_wp2_with fail
        go_ret
        exact ⟨ret_int (idxOf_found p xs k hlt hpk HNO.out).symm, (by repeat (first | (with_reducible assumption) | (with_reducible exact Ext.rfl' _) | (with_reducible exact Ext.new _ _) | (with_reducible refine Ext.alloc' ?_ _) | (with_reducible refine Ext.drew' ?_) | (with_reducible refine Ext.drewN' ?_ _) | (with_reducible refine Ext.set' ?_ ?_ _; rotate_left; (focus (first | omega | (simp; done) | (simp; omega)))) | (with_reducible refine Ext.then (b := ?_) ?_ ?_; rotate_left; rotate_left; (with_reducible assumption))))⟩
      | false =>
        go_wp2_with fail
        go_roundw
        case rel => exact ⟨k + 1, by omega, by go_num, take_all hlt hpk HNO.out, (by repeat (first | (with_reducible assumption) | (with_reducible exact Ext.rfl' _) | (with_reducible exact Ext.new _ _) | (with_reducible refine Ext.alloc' ?_ _) | (with_reducible refine Ext.drew' ?_) | (with_reducible refine Ext.drewN' ?_ _) | (with_reducible refine Ext.set' ?_ ?_ _; rotate_left; (focus (first | omega | (simp; done) | (simp; omega)))) | (with_reducible refine Ext.then (b := ?_) ?_ ?_; rotate_left; rotate_left; (with_reducible assumption))))⟩
        case measure => simp [intOf]; omega
    · clear hr HF
      go_wp2_with fail
      go_ret
      exact ⟨ret_int (idxOf_none p xs (take_done (by omega) HNO.out)).symm, (by repeat (first | (with_reducible assumption) | (with_reducible exact Ext.rfl' _) | (with_reducible exact Ext.new _ _) | (with_reducible refine Ext.alloc' ?_ _) | (with_reducible refine Ext.drew' ?_) | (with_reducible refine Ext.drewN' ?_ _) | (with_reducible refine Ext.set' ?_ ?_ _; rotate_left; (focus (first | omega | (simp; done) | (simp; omega)))) | (with_reducible refine Ext.then (b := ?_) ?_ ?_; rotate_left; rotate_left; (with_reducible assumption))))⟩
theorem containsFunc_thing (p : Thing → Bool) (fid : Nat) (cap : Array Value) (vs : Value) (xs : List Thing) (w : World) (hr : ThingsR (ph w) vs xs)
    (hfn : ∀ args w, (callFunc fid args).run Try.prog w = .ok (.enter fid args) w)
    (hf : ∀ w', Ext w w' → ∀ x ∈ xs, ∀ cs, ThingR (ph w') cs x → Calls Try.prog fid (#[.agg cs.toArray] ++ cap) w' (RetV w' (.bool (p x)))) :
    Calls Try.prog 68 #[vs, .func (.func fid) #[] cap] w (RetV w (.bool (xs.any p))) := by
  have HF := Lib.hid hf; clear hf
  have HFN := Lib.hid hfn; clear hfn
  go_enter Try.func68, Try.ntmps68
  go_wp2_with fail
  refine (indexFunc_thing p fid cap vs xs _ hr HFN.out HF.out).mono ?_
  rintro e w1 ⟨rfl, hb1⟩
  have hx := Lib.hid (idxOf_ge p xs)
  generalize idxOf p xs = i at *
  go_wp2_with fail
  go_ret
  exact ⟨ret_bool hx.out, (by repeat (first | (with_reducible assumption) | (with_reducible exact Ext.rfl' _) | (with_reducible exact Ext.new _ _) | (with_reducible refine Ext.alloc' ?_ _) | (with_reducible refine Ext.drew' ?_) | (with_reducible refine Ext.drewN' ?_ _) | (with_reducible refine Ext.set' ?_ ?_ _; rotate_left; (focus (first | omega | (simp; done) | (simp; omega)))) | (with_reducible refine Ext.then (b := ?_) ?_ ?_; rotate_left; rotate_left; (with_reducible assumption))))⟩
set_option maxHeartbeats 400000 in
theorem value1_c (x : Val) (at' : Int) (b : Nat) (w : World) (hc : w.cell? ⟨b, 0, none⟩ = some (.int .i64 at')) :
    Calls Try.prog 42 #[.agg #[.int .i64 x.attr, .int .i64 x.n.num, .int .i64 x.n.den], .pointer (some ⟨b, 0, none⟩)] w (RetV w (.bool (x.attr == at'))) := by
  have hbl := cell_lt hc
  go_enter Try.func42, Try.ntmps42
  go_wp2
  go_ret
  exact ⟨rfl, (by repeat (first | (with_reducible assumption) | (with_reducible exact Ext.rfl' _) | (with_reducible exact Ext.new _ _) | (with_reducible refine Ext.alloc' ?_ _) | (with_reducible refine Ext.drew' ?_) | (with_reducible refine Ext.drewN' ?_ _) | (with_reducible refine Ext.set' ?_ ?_ _; rotate_left; (focus (first | omega | (simp; done) | (simp; omega)))) | (with_reducible refine Ext.then (b := ?_) ?_ ?_; rotate_left; rotate_left; (with_reducible assumption))))⟩
def getVal (l : List Val) (k : Int) : Option Rat2 := (l.find? (·.attr == k)).map (·.n)
theorem getVal_some (l : List Val) (k : Int) (i : Nat) (h : l.findIdx? (·.attr == k) = some i) : ∃ hi : i < l.length, getVal l k = some l[i].n := by
  rw [List.findIdx?_eq_some_iff_getElem] at h
  obtain ⟨hi, h1, h2⟩ := h
  refine ⟨hi, ?_⟩
  have : l.find? (·.attr == k) = some l[i] := by
    rw [List.find?_eq_some_iff_getElem]
    exact ⟨h1, i, hi, rfl, fun j hj => by have := h2 j hj; simpa using this⟩
  simp [getVal, this]
theorem getVal_none (l : List Val) (k : Int) (h : l.findIdx? (·.attr == k) = none) : getVal l k = none := by
  rw [List.findIdx?_eq_none_iff] at h
  have : l.find? (·.attr == k) = none := by rw [List.find?_eq_none]; intro x hx; have := h x hx; simpa using this
  simp [getVal, this]
def optRat (o : Option Rat2) : Value := match o with
  | some r => .tuple #[.agg #[.int .i64 r.num, .int .i64 r.den], .bool true]
  | none => .tuple #[.agg #[.int .i64 0, .int .i64 0], .bool false]
set_option maxHeartbeats 400000 in
theorem value_c (t : Thing) (k : Int) (cs : List Value) (w : World) (hr : ThingR (ph w) cs t) :
    Calls Try.prog 15 #[.agg cs.toArray, .int .i64 k] w (RetV w (optRat (getVal t.vals k))) := by
  obtain ⟨a1, c1, a2, c2, a3, c3, rfl, -, hlen, -, -, hv, -⟩ := hr.form
  go_enter Try.func15, Try.ntmps15
  go_wp2_with fail
  refine (indexFunc_val (fun x => x.attr == k) 42 _ _ t.vals _ (hv.mono mono_ValR (Ext.ple (by repeat (first | (with_reducible assumption) | (with_reducible exact Ext.rfl' _) | (with_reducible exact Ext.new _ _) | (with_reducible refine Ext.alloc' ?_ _) | (with_reducible refine Ext.drew' ?_) | (with_reducible refine Ext.drewN' ?_ _) | (with_reducible refine Ext.set' ?_ ?_ _; rotate_left; (focus (first | omega | (simp; done) | (simp; omega)))) | (with_reducible refine Ext.then (b := ?_) ?_ ?_; rotate_left; rotate_left; (with_reducible assumption)))))) (fun args w => enterFn Try.func42 rfl rfl args w) ?_).mono ?_
  · rintro w' hw' x _ cs ⟨rfl, -⟩
    exact value1_c x k _ w' (by rw [hw'.cells.1 _ _ (by simp)]; simp [go_sem])
  rintro e w1 ⟨rfl, hb1⟩
  obtain ⟨hc1, hf1, hs1⟩ := hb1.cells
  simp at hs1
  have hv1 := hv.mono mono_ValR (Ext.ple (show Ext w w1 from (by repeat (first | (with_reducible assumption) | (with_reducible exact Ext.rfl' _) | (with_reducible exact Ext.new _ _) | (with_reducible refine Ext.alloc' ?_ _) | (with_reducible refine Ext.drew' ?_) | (with_reducible refine Ext.drewN' ?_ _) | (with_reducible refine Ext.set' ?_ ?_ _; rotate_left; (focus (first | omega | (simp; done) | (simp; omega)))) | (with_reducible refine Ext.then (b := ?_) ?_ ?_; rotate_left; rotate_left; (with_reducible assumption))))))
  cases hi : t.vals.findIdx? (fun x => x.attr == k) with
  | none =>
    have hi' : idxOf (fun x : Val => x.attr == k) t.vals = -1 := by simp [idxOf, hi]
    have hg := getVal_none _ _ hi
    rw [hi', hg]
    go_wp2_with fail
    exact bodyPost_ret (v := .tuple #[.agg #[.int .i64 0, .int .i64 0], .bool false]) (by simp [results, Try.results15, go_sem, hc1, hf1, hs1]) rfl ⟨by rw [hg]; rfl, (by repeat (first | (with_reducible assumption) | (with_reducible exact Ext.rfl' _) | (with_reducible exact Ext.new _ _) | (with_reducible refine Ext.alloc' ?_ _) | (with_reducible refine Ext.drew' ?_) | (with_reducible refine Ext.drewN' ?_ _) | (with_reducible refine Ext.set' ?_ ?_ _; rotate_left; (focus (first | omega | (simp; done) | (simp; omega)))) | (with_reducible refine Ext.then (b := ?_) ?_ ?_; rotate_left; rotate_left; (with_reducible assumption))))⟩
  | some i =>
    obtain ⟨hil, hg⟩ := getVal_some _ _ _ hi
    have hi' : idxOf (fun x : Val => x.attr == k) t.vals = i := by simp [idxOf, hi]
    rw [hi', hg]
    obtain ⟨b, o, rfl, h0, h1, h2, -, -, -, hbl⟩ := ValsR.at hv1 i hil
    go_wp2_with fail
    exact bodyPost_ret (v := .tuple #[.agg #[.int .i64 t.vals[i].n.num, .int .i64 t.vals[i].n.den], .bool true]) (by simp [results, Try.results15, go_sem, hc1, hf1, hs1]) rfl ⟨by rw [hg]; rfl, (by repeat (first | (with_reducible assumption) | (with_reducible exact Ext.rfl' _) | (with_reducible exact Ext.new _ _) | (with_reducible refine Ext.alloc' ?_ _) | (with_reducible refine Ext.drew' ?_) | (with_reducible refine Ext.drewN' ?_ _) | (with_reducible refine Ext.set' ?_ ?_ _; rotate_left; (focus (first | omega | (simp; done) | (simp; omega)))) | (with_reducible refine Ext.then (b := ?_) ?_ ?_; rotate_left; rotate_left; (with_reducible assumption))))⟩
end Go.Proofs.Ytebhdjeognpljaa
