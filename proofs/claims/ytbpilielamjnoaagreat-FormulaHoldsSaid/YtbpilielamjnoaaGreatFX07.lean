/- Lemmas for FX, part 8: things: representation, Value, Valid (Thing, Value and Formed in one text, for the seats of claims and formula, and more. -/
import Derived.Deep.CutBlock
import Derived.Test.YtbpilielamjnoaaGreatFX00
import Derived.Test.YtbpilielamjnoaaGreatFX03
import Derived.Test.YtbpilielamjnoaaGreatFX04
import Derived.Test.YtbpilielamjnoaaGreatFX05
import Derived.Test.YtbpilielamjnoaaGreatFX06
set_option linter.unusedSimpArgs false
set_option linter.unusedVariables false
namespace Go.Proofs.YtbpilielamjnoaaGreat
open Go.RowKit
structure Val where
  attr : Int
  n : Rat2
  deriving DecidableEq
inductive Thing where
  | mk (cls : List Int) (vals : List Val) (parts : List Thing)
def Thing.cls : Thing → List Int | .mk c _ _ => c
def Thing.vals : Thing → List Val | .mk _ v _ => v
def Thing.parts : Thing → List Thing | .mk _ _ p => p
theorem Thing.ind {P : Thing → Prop} (h : ∀ t, (∀ p ∈ t.parts, P p) → P t) (t : Thing) : P t := by
  induction t using Thing.rec (motive_2 := fun xs => ∀ x ∈ xs, P x) with
  | mk cls vals parts ih => exact h _ ih
  | nil => intros; contradiction
  | cons x xs h1 h2 =>
    rename_i y hy
    rcases List.mem_cons.1 hy with rfl | hy
    · exact h1
    · exact h2 y hy
def ValR (_ : PH) (cs : List Value) (v : Val) : Prop := cs = [.int .i64 v.attr, .int .i64 v.n.num, .int .i64 v.n.den] ∧ I64 v.attr ∧ I64 v.n.num ∧ I64 v.n.den
abbrev ValsR : PH → Value → List Val → Prop := SliceRep ValR 3
theorem mono_ValR : Mono ValR := fun _ _ _ _ _ h => h
mutual
def ThingR (h : PH) : List Value → Thing → Prop
  | cs, .mk cls vals parts => ∃ v1 v2 a3 c3, cs = [v1, v2, .slice a3 parts.length c3] ∧ IntsR h v1 cls ∧ ValsR h v2 vals ∧
      parts.length ≤ c3 ∧ c3 ≤ maxLen ∧ (parts = [] ∨ ∃ b o, a3 = some ⟨b, o, none⟩ ∧ ThingsAt h b o parts)
def ThingsAt (h : PH) (b : Nat) : Nat → List Thing → Prop
  | _, [] => True
  | o, x :: xs => (∃ cs, cs.length = 3 ∧ (∀ j, j < 3 → cellAt h b (o + j) = some (cs.getD j undef)) ∧ ThingR h cs x) ∧ ThingsAt h b (o + 3) xs
end
abbrev ThingsR : PH → Value → List Thing → Prop := SliceRep ThingR 3
theorem thingsAt_eq {h : PH} {b : Nat} : ∀ {xs : List Thing} {o : Nat}, ThingsAt h b o xs ↔ RowRep h ThingR 3 b o xs
  | [], o => by simp [ThingsAt, RowRep]
  | x :: xs, o => by simp [ThingsAt, RowRep, thingsAt_eq]
theorem thingR_iff {h : PH} {cs : List Value} {t : Thing} : ThingR h cs t ↔ ∃ v1 v2 v3, cs = [v1, v2, v3] ∧ IntsR h v1 t.cls ∧ ValsR h v2 t.vals ∧ ThingsR h v3 t.parts := by
  cases t with
  | mk cls vals parts =>
    simp only [ThingR, thingsAt_eq, Thing.cls, Thing.vals, Thing.parts]
    constructor
    · rintro ⟨v1, v2, a3, c3, rfl, h1, h2, h3, h4, h5⟩
      exact ⟨v1, v2, _, rfl, h1, h2, a3, c3, rfl, h3, h4, h5⟩
    · rintro ⟨v1, v2, v3, rfl, h1, h2, a3, c3, rfl, h3, h4, h5⟩
      exact ⟨v1, v2, a3, c3, rfl, h1, h2, h3, h4, h5⟩
theorem mono_ThingR : Mono ThingR := by
  intro h h' cs x hl
  induction x using Thing.ind generalizing cs with
  | h t ih =>
    rw [thingR_iff, thingR_iff]
    rintro ⟨v1, v2, v3, h1, h2, h3, h4⟩
    exact ⟨v1, v2, v3, h1, h2.mono mono_IntR hl, h3.mono mono_ValR hl, h4.mono' hl fun cs x hx => ih x hx cs⟩
theorem ThingR.form {h : PH} {cs : List Value} {t : Thing} (hr : ThingR h cs t) : ∃ a1 c1 a2 c2 a3 c3, cs = [.slice a1 t.cls.length c1, .slice a2 t.vals.length c2, .slice a3 t.parts.length c3] ∧
    t.cls.length ≤ 9223372036854775807 ∧ t.vals.length ≤ 9223372036854775807 ∧ t.parts.length ≤ 9223372036854775807 ∧
    IntsR h (.slice a1 t.cls.length c1) t.cls ∧ ValsR h (.slice a2 t.vals.length c2) t.vals ∧ ThingsR h (.slice a3 t.parts.length c3) t.parts := by
  rw [thingR_iff] at hr
  obtain ⟨v1, v2, v3, rfl, h1, h2, h3⟩ := hr
  obtain ⟨a1, c1, rfl, b1, h1⟩ := h1.form
  obtain ⟨a2, c2, rfl, b2, h2⟩ := h2.form
  obtain ⟨a3, c3, rfl, b3, h3⟩ := h3.form
  exact ⟨a1, c1, a2, c2, a3, c3, rfl, b1, b2, b3, h1, h2, h3⟩
theorem ThingsR.at {w : World} {a : Option Addr} {n cap : Nat} {xs : List Thing} (hr : ThingsR (ph w) (.slice a n cap) xs) (k : Nat) (hk : k < xs.length) :
    ∃ b o a1 c1 a2 c2 a3 c3, a = some ⟨b, o, none⟩ ∧ w.cell? ⟨b, o + k * 3, none⟩ = some (.slice a1 xs[k].cls.length c1) ∧ w.cell? ⟨b, o + k * 3 + 1, none⟩ = some (.slice a2 xs[k].vals.length c2) ∧
      w.cell? ⟨b, o + k * 3 + 2, none⟩ = some (.slice a3 xs[k].parts.length c3) ∧ ThingR (ph w) [.slice a1 xs[k].cls.length c1, .slice a2 xs[k].vals.length c2, .slice a3 xs[k].parts.length c3] xs[k] ∧ b < w.heap.size := by
  obtain ⟨b, o, c, d, e, h1, h2, h3, h4, h5⟩ := SliceRep.get3 hr k hk
  obtain ⟨a1, c1, a2, c2, a3, c3, h6, -⟩ := h5.form
  injection h6 with h7 h8
  injection h8 with h8 h9
  injection h9 with h9 _
  subst h7 h8 h9
  exact ⟨b, o, a1, c1, a2, c2, a3, c3, h1, h2, h3, h4, h5, cell_lt h2⟩
theorem ValsR.at {w : World} {a : Option Addr} {n cap : Nat} {xs : List Val} (hr : ValsR (ph w) (.slice a n cap) xs) (k : Nat) (hk : k < xs.length) :
    ∃ b o, a = some ⟨b, o, none⟩ ∧ w.cell? ⟨b, o + k * 3, none⟩ = some (.int .i64 xs[k].attr) ∧ w.cell? ⟨b, o + k * 3 + 1, none⟩ = some (.int .i64 xs[k].n.num) ∧
      w.cell? ⟨b, o + k * 3 + 2, none⟩ = some (.int .i64 xs[k].n.den) ∧ I64 xs[k].attr ∧ I64 xs[k].n.num ∧ I64 xs[k].n.den ∧ b < w.heap.size := by
  obtain ⟨b, o, c, d, e, h1, h2, h3, h4, h5, h6⟩ := SliceRep.get3 hr k hk
  injection h5 with h7 h8
  injection h8 with h8 h9
  injection h9 with h9 _
  subst h7 h8 h9
  exact ⟨b, o, h1, h2, h3, h4, h6.1, h6.2.1, h6.2.2, cell_lt h2⟩
mutual
def Thing.size : Thing → Nat
  | .mk _ _ parts => 1 + sizes parts
def sizes : List Thing → Nat
  | [] => 0
  | x :: xs => x.size + sizes xs
end
theorem sizes_eq : ∀ l : List Thing, sizes l = sumN Thing.size l
  | [] => rfl
  | x :: xs => by simp [sizes, sumN, sizes_eq xs]
theorem Thing.size_eq (t : Thing) : t.size = 1 + sumN Thing.size t.parts := by
  cases t with
  | mk c v p => simp [Thing.size, Thing.parts, sizes_eq]
mutual
def Thing.deep : Thing → Nat
  | .mk _ _ parts => 1 + deeps parts
def deeps : List Thing → Nat
  | [] => 0
  | x :: xs => max x.deep (deeps xs)
end
theorem deeps_eq : ∀ l : List Thing, deeps l = maxN Thing.deep l
  | [] => rfl
  | x :: xs => by simp [deeps, maxN, deeps_eq xs]
theorem Thing.deep_eq (t : Thing) : t.deep = 1 + maxN Thing.deep t.parts := by
  cases t with
  | mk c v p => simp [Thing.deep, Thing.parts, deeps_eq]
theorem Thing.deep_le_size (t : Thing) : t.deep ≤ t.size := by
  induction t using Thing.ind with
  | h t ih => rw [Thing.deep_eq, Thing.size_eq]; have := maxN_le_sumN Thing.deep Thing.size t.parts ih; omega
mutual
def Thing.bulk : Thing → Nat
  | .mk c v parts => 1 + c.length + v.length + bulks parts
def bulks : List Thing → Nat
  | [] => 0
  | x :: xs => x.bulk + bulks xs
end
theorem bulks_eq : ∀ l : List Thing, bulks l = sumN Thing.bulk l
  | [] => rfl
  | x :: xs => by simp [bulks, sumN, bulks_eq xs]
theorem Thing.bulk_eq (t : Thing) : t.bulk = 1 + t.cls.length + t.vals.length + sumN Thing.bulk t.parts := by
  cases t with
  | mk c v p => simp [Thing.bulk, Thing.parts, Thing.cls, Thing.vals, bulks_eq]
theorem Thing.bulk_pos (t : Thing) : 1 ≤ t.bulk := by rw [Thing.bulk_eq]; omega
theorem Thing.size_le_bulk (t : Thing) : t.size ≤ t.bulk := by
  induction t using Thing.ind with
  | h t ih => rw [Thing.bulk_eq, Thing.size_eq]; have := sumN_le Thing.size Thing.bulk t.parts ih; omega
theorem Thing.parts_le (t : Thing) : t.parts.length ≤ t.bulk := by
  have := length_le_sumN Thing.bulk t.parts fun x _ => x.bulk_pos
  rw [Thing.bulk_eq]; omega
theorem Thing.part_le {t p : Thing} (h : p ∈ t.parts) : p.bulk ≤ t.bulk := by
  have := sumN_mem Thing.bulk h
  rw [Thing.bulk_eq t]; omega
end Go.Proofs.YtbpilielamjnoaaGreat
namespace Go.Proofs.YtbpilielamjnoaaGreat
open Go.RowKit
set_option maxHeartbeats 400000 in
theorem indexFunc_val (p : Val → Bool) (fid : Nat) (cap : Array Value) (vs : Value) (xs : List Val) (w : World) (hr : ValsR (ph w) vs xs)
    (hfn : ∀ args w, (callFunc fid args).run Tryz.prog w = .ok (.enter fid args) w)
    (hf : ∀ w', Ext w w' → ∀ x ∈ xs, ∀ cs, ValR (ph w') cs x → Calls Tryz.prog fid (#[.agg cs.toArray] ++ cap) w' (RetV w' (.bool (p x)))) :
    Calls Tryz.prog 141 #[vs, .func (.func fid) #[] cap] w (RetV w (.int .i64 (idxOf p xs))) := by
  obtain ⟨a, c, rfl, hlen, hr⟩ := hr.form
  have HF := Lib.hid hf; clear hf
  go_enter Tryz.func141, Tryz.ntmps141
  go_wp2
  go_loopw [8] (fun i wr => ∃ k : Nat, k ≤ xs.length ∧ i = .int .i64 k ∧ Hid (∀ x ∈ xs.take k, p x = false) ∧ Ext w wr) (fun i _ => xs.length - (intOf i).toNat)
  case atStart => exact ⟨0, Nat.zero_le _, rfl, Lib.hid (by simp), xE⟩
  case round =>
    obtain ⟨k, hk, rfl, HNO, hb⟩ := hrel
    by_cases hlt : k < xs.length
    · have hp' := hr.mono mono_ValR hb.ple
      obtain ⟨b, o, rfl, h0, h1, h2, i0, i1, i2, hbl⟩ := ValsR.at hp' k hlt; have hE : ValR (ph wr) _ xs[k] := ⟨rfl, i0, i1, i2⟩
      clear hp'
      go_wp2_with fail
      refine (HF.out _ xE _ (List.getElem_mem hlt) _ hE).mono ?_
      rintro e w1 ⟨rfl, hb1⟩
      cases hpk : p xs[k] with
      | true =>
        go_wp2_with fail
        go_ret
        exact ⟨ret_int (idxOf_found p xs k hlt hpk HNO.out).symm, xE⟩
      | false =>
        go_wp2_with fail
        go_roundw
        case rel => exact ⟨k + 1, by omega, by go_num, take_all hlt hpk HNO.out, xE⟩
        case measure => simp [intOf]; omega
    · clear hr HF
      go_wp2_with fail
      go_ret
      exact ⟨ret_int (idxOf_none p xs (take_done (by omega) HNO.out)).symm, xE⟩
set_option maxHeartbeats 400000 in
theorem indexFunc_thing (p : Thing → Bool) (fid : Nat) (cap : Array Value) (vs : Value) (xs : List Thing) (w : World) (hr : ThingsR (ph w) vs xs)
    (hfn : ∀ args w, (callFunc fid args).run Tryz.prog w = .ok (.enter fid args) w)
    (hf : ∀ w', Ext w w' → ∀ x ∈ xs, ∀ cs, ThingR (ph w') cs x → Calls Tryz.prog fid (#[.agg cs.toArray] ++ cap) w' (RetV w' (.bool (p x)))) :
    Calls Tryz.prog 140 #[vs, .func (.func fid) #[] cap] w (RetV w (.int .i64 (idxOf p xs))) := by
  obtain ⟨a, c, rfl, hlen, hr⟩ := hr.form
  have HF := Lib.hid hf; clear hf
  go_enter Tryz.func140, Tryz.ntmps140
  go_wp2
  go_loopw [8] (fun i wr => ∃ k : Nat, k ≤ xs.length ∧ i = .int .i64 k ∧ Hid (∀ x ∈ xs.take k, p x = false) ∧ Ext w wr) (fun i _ => xs.length - (intOf i).toNat)
  case atStart => exact ⟨0, Nat.zero_le _, rfl, Lib.hid (by simp), xE⟩
  case round =>
    obtain ⟨k, hk, rfl, HNO, hb⟩ := hrel
    by_cases hlt : k < xs.length
    · have hp' := hr.mono mono_ThingR hb.ple
      obtain ⟨b, o, b1, d1, b2, d2, b3, d3, rfl, h0, h1, h2, hE, hbl⟩ := ThingsR.at hp' k hlt
      clear hp'
      go_wp2_with fail
      refine (HF.out _ xE _ (List.getElem_mem hlt) _ hE).mono ?_
      rintro e w1 ⟨rfl, hb1⟩
      cases hpk : p xs[k] with
      | true =>
        go_wp2_with fail
        go_ret
        exact ⟨ret_int (idxOf_found p xs k hlt hpk HNO.out).symm, xE⟩
      | false =>
        go_wp2_with fail
        go_roundw
        case rel => exact ⟨k + 1, by omega, by go_num, take_all hlt hpk HNO.out, xE⟩
        case measure => simp [intOf]; omega
    · clear hr HF
      go_wp2_with fail
      go_ret
      exact ⟨ret_int (idxOf_none p xs (take_done (by omega) HNO.out)).symm, xE⟩
theorem containsFunc_thing (p : Thing → Bool) (fid : Nat) (cap : Array Value) (vs : Value) (xs : List Thing) (w : World) (hr : ThingsR (ph w) vs xs)
    (hfn : ∀ args w, (callFunc fid args).run Tryz.prog w = .ok (.enter fid args) w)
    (hf : ∀ w', Ext w w' → ∀ x ∈ xs, ∀ cs, ThingR (ph w') cs x → Calls Tryz.prog fid (#[.agg cs.toArray] ++ cap) w' (RetV w' (.bool (p x)))) :
    Calls Tryz.prog 99 #[vs, .func (.func fid) #[] cap] w (RetV w (.bool (xs.any p))) := by
  have HF := Lib.hid hf; clear hf
  have HFN := Lib.hid hfn; clear hfn
  go_enter Tryz.func99, Tryz.ntmps99
  go_wp2_with fail
  refine (indexFunc_thing p fid cap vs xs _ hr HFN.out HF.out).mono ?_
  rintro e w1 ⟨rfl, hb1⟩
  have hx := Lib.hid (idxOf_ge p xs)
  generalize idxOf p xs = i at *
  go_wp2_with fail
  go_ret
  exact ⟨ret_bool hx.out, xE⟩
set_option maxHeartbeats 400000 in
theorem tvalue1_c (x : Val) (at' : Int) (b : Nat) (w : World) (hc : w.cell? ⟨b, 0, none⟩ = some (.int .i64 at')) :
    Calls Tryz.prog 142 #[.agg #[.int .i64 x.attr, .int .i64 x.n.num, .int .i64 x.n.den], .pointer (some ⟨b, 0, none⟩)] w (RetV w (.bool (x.attr == at'))) := by
  have hbl := cell_lt hc
  go_enter Tryz.func142, Tryz.ntmps142
  go_wp2
  go_ret
  exact ⟨rfl, xE⟩
def getVal (l : List Val) (k : Int) : Option Rat2 := (l.find? (·.attr == k)).map (·.n)
theorem getVal_some (l : List Val) (k : Int) (i : Nat) (h : l.findIdx? (·.attr == k) = some i) : ∃ hi : i < l.length, getVal l k = some l[i].n := by
  rw [List.findIdx?_eq_some_iff_getElem] at h
  obtain ⟨hi, h1, h2⟩ := h
  refine ⟨hi, ?_⟩
  have : l.find? (·.attr == k) = some l[i] := by
    rw [List.find?_eq_some_iff_getElem]
    exact ⟨h1, i, hi, rfl, fun j hj => by have := h2 j hj; simpa using this⟩
  simp [getVal, this]
theorem getVal_none (l : List Val) (k : Int) (h : l.findIdx? (·.attr == k) = none) : getVal l k = none := by
  rw [List.findIdx?_eq_none_iff] at h
  have : l.find? (·.attr == k) = none := by rw [List.find?_eq_none]; intro x hx; have := h x hx; simpa using this
  simp [getVal, this]
def optRat (o : Option Rat2) : Value := match o with
  | some r => .tuple #[.agg #[.int .i64 r.num, .int .i64 r.den], .bool true]
  | none => .tuple #[.agg #[.int .i64 0, .int .i64 0], .bool false]
set_option maxHeartbeats 400000 in
theorem tvalue_c (t : Thing) (k : Int) (cs : List Value) (w : World) (hr : ThingR (ph w) cs t) :
    Calls Tryz.prog 103 #[.agg cs.toArray, .int .i64 k] w (RetV w (optRat (getVal t.vals k))) := by
  obtain ⟨a1, c1, a2, c2, a3, c3, rfl, -, hlen, -, -, hv, -⟩ := hr.form
  go_enter Tryz.func103, Tryz.ntmps103
  go_wp2_with fail
  refine (indexFunc_val (fun x => x.attr == k) 142 _ _ t.vals _ (hv.mono mono_ValR (Ext.ple xE)) (fun args w => enterFn Tryz.func142 rfl rfl args w) ?_).mono ?_
  · rintro w' hw' x _ cs ⟨rfl, -⟩
    exact tvalue1_c x k _ w' (by rw [hw'.cells.1 _ _ (by simp)]; simp [go_sem])
  rintro e w1 ⟨rfl, hb1⟩
  obtain ⟨hc1, hf1, hs1⟩ := hb1.cells
  simp at hs1
  have hv1 := hv.mono mono_ValR (Ext.ple (show Ext w w1 from xE))
  cases hi : t.vals.findIdx? (fun x => x.attr == k) with
  | none =>
    have hi' : idxOf (fun x : Val => x.attr == k) t.vals = -1 := by simp [idxOf, hi]
    have hg := getVal_none _ _ hi
    rw [hi', hg]
    go_wp2_with fail
    exact bodyPost_ret (v := .tuple #[.agg #[.int .i64 0, .int .i64 0], .bool false]) (by simp [results, Tryz.results103, go_sem, hc1, hf1, hs1]) rfl ⟨by rw [hg]; rfl, xE⟩
  | some i =>
    obtain ⟨hil, hg⟩ := getVal_some _ _ _ hi
    have hi' : idxOf (fun x : Val => x.attr == k) t.vals = i := by simp [idxOf, hi]
    rw [hi', hg]
    obtain ⟨b, o, rfl, h0, h1, h2, -, -, -, hbl⟩ := ValsR.at hv1 i hil
    go_wp2_with fail
    exact bodyPost_ret (v := .tuple #[.agg #[.int .i64 t.vals[i].n.num, .int .i64 t.vals[i].n.den], .bool true]) (by simp [results, Tryz.results103, go_sem, hc1, hf1, hs1]) rfl ⟨by rw [hg]; rfl, xE⟩
end Go.Proofs.YtbpilielamjnoaaGreat
namespace Go.Proofs.YtbpilielamjnoaaGreat
open Go.RowKit
def incAt (l : List Int) (m : Int) (k : Nat) : Prop := ∀ (h : k < l.length), 0 ≤ l[k] ∧ l[k] < m ∧ (∀ _ : 0 < k, l[k - 1]'(by omega) < l[k])
def Inc (l : List Int) (m : Int) : Prop := ∀ k, incAt l m k
theorem below_succ {p : Nat → Prop} {k : Nat} (h : ∀ j, j < k → p j) (hk : p k) : ∀ j, j < k + 1 → p j := fun j hj => by
  by_cases h' : j < k
  · exact h j h'
  · obtain rfl : j = k := by omega
    exact hk
set_option maxHeartbeats 400000 in
theorem increasing_c (vs : Value) (l : List Int) (m : Int) (w : World) (hr : IntsR (ph w) vs l) :
    Calls Tryz.prog 138 #[vs, .int .i64 m] w (RetV w (.bool (B (Inc l m)))) := by
  obtain ⟨a, c, rfl, hlen, hr⟩ := hr.form
  go_enter Tryz.func138, Tryz.ntmps138
  go_wp2
  go_loopw [9] (fun i wr => ∃ k : Nat, k ≤ l.length ∧ i = .int .i64 k ∧ Hid (∀ j, j < k → incAt l m j) ∧ Ext w wr) (fun i _ => l.length - (intOf i).toNat)
  case atStart => exact ⟨0, Nat.zero_le _, rfl, Lib.hid (by intro j hj; omega), xE⟩
  case round =>
    obtain ⟨k, hk, rfl, hi, hb⟩ := hrel
    by_cases hlt : k < l.length
    · have hp' := hr.mono mono_IntR hb.ple
      obtain ⟨b, o, rfl, h0, -, hbl⟩ := IntsR.at hp' k hlt
      by_cases hk0 : 0 < k
      · obtain ⟨b', o', he, h0', -, -⟩ := IntsR.at hp' (k - 1) (by omega)
        simp only [Option.some.injEq, Addr.mk.injEq, and_true] at he
        obtain ⟨rfl, rfl⟩ := he
        have hat : Hid (incAt l m k ↔ 0 ≤ l[k] ∧ l[k] < m ∧ l[k-1] < l[k]) := ⟨fun h => ⟨(h hlt).1, (h hlt).2.1, (h hlt).2.2 hk0⟩, fun h _ => ⟨h.1, h.2.1, fun _ => h.2.2⟩⟩
        generalize l[k] = x at *
        generalize l[k - 1] = y at *
        clear hp' hr
        go_wp2_with fail
        all_goals first
          | exact ⟨⟨k + 1, by omega, by go_num, Lib.hid (below_succ hi.out (hat.out.2 (by omega))), xE⟩, by simp [intOf]; omega⟩
          | (go_ret; exact ⟨ret_f (fun h => by have := hat.out.1 (h k); omega), xE⟩)
      · have hat : Hid (incAt l m k ↔ 0 ≤ l[k] ∧ l[k] < m) := ⟨fun h => ⟨(h hlt).1, (h hlt).2.1⟩, fun h _ => ⟨h.1, h.2, fun h' => absurd h' hk0⟩⟩
        generalize l[k] = x at *
        clear hp' hr
        go_wp2_with fail
        all_goals first
          | exact ⟨⟨k + 1, by omega, by go_num, Lib.hid (below_succ hi.out (hat.out.2 (by omega))), xE⟩, by simp [intOf]; omega⟩
          | (go_ret; exact ⟨ret_f (fun h => by have := hat.out.1 (h k); omega), xE⟩)
    · clear hr
      go_wp2_with fail
      go_ret
      exact ⟨ret_t fun j => by
        by_cases h : j < k
        · exact hi.out j h
        · exact fun h' => absurd h' (by omega), xE⟩
mutual
def Thing.formed : Thing → Prop
  | .mk c v p => (∀ x ∈ v, GoodP x.n) ∧ Inc c 64 ∧ Inc (v.map Val.attr) 32 ∧ formeds p
def formeds : List Thing → Prop
  | [] => True
  | x :: xs => x.formed ∧ formeds xs
end
theorem formeds_iff : ∀ {l : List Thing}, formeds l ↔ ∀ p ∈ l, p.formed
  | [] => by simp [formeds]
  | x :: xs => by simp [formeds, formeds_iff]
theorem Thing.formed_iff (t : Thing) : t.formed ↔ (∀ x ∈ t.vals, GoodP x.n) ∧ Inc t.cls 64 ∧ Inc (t.vals.map Val.attr) 32 ∧ ∀ p ∈ t.parts, p.formed := by
  cases t with
  | mk c v p => simp only [Thing.formed, Thing.cls, Thing.vals, Thing.parts, formeds_iff]
theorem tformed1_c (p : Thing) (cs : List Value) (w : World) (hr : ThingR (ph w) cs p)
    (ih : ∀ (cs : List Value) (w : World), ThingR (ph w) cs p → Calls Tryz.prog 96 #[.agg cs.toArray] w (RetV w (.bool (B p.formed)))) :
    Calls Tryz.prog 137 #[.agg cs.toArray] w (RetV w (.bool (! B p.formed))) := by
  obtain ⟨a1, c1, a2, c2, a3, c3, rfl, -, -, -, -, -, -⟩ := hr.form
  have H := Lib.hid ih; clear ih
  go_enter Tryz.func137, Tryz.ntmps137
  go_wp2_with fail
  refine (H.out _ _ (mono_ThingR _ _ _ _ (Ext.ple xE) hr)).mono ?_
  rintro e w1 ⟨rfl, hb1⟩
  generalize B p.formed = b at *
  go_wp2_with fail
  go_ret
  exact ⟨rfl, xE⟩
set_option maxHeartbeats 1000000 in
theorem tformed_c (t : Thing) : ∀ (cs : List Value) (w : World), ThingR (ph w) cs t → t.bulk ≤ 1000000 →
    Calls Tryz.prog 96 #[.agg cs.toArray] w (RetV w (.bool (B t.formed))) := by
  induction t using Thing.ind with
  | h t ih =>
    intro cs w hr hs
    obtain ⟨a1, c1, a2, c2, a3, c3, rfl, l1, l2, l3, hc, hv, hp⟩ := hr.form
    have H := Lib.hid ih; clear ih
    have hvl : t.vals.length ≤ 1000000 := by rw [Thing.bulk_eq] at hs; omega
    go_enter Tryz.func96, Tryz.ntmps96
    go_wp2_with fail
    go_loopw [3, 10] (fun l i wr => ∃ k : Nat, k ≤ t.vals.length ∧ i = .int .i64 k ∧ OwnI (w.heap.size + 1) wr l ((t.vals.map Val.attr).take k) ∧ Hid (∀ x ∈ t.vals.take k, GoodP x.n) ∧
      Own wr w.heap.size #[.slice a1 t.cls.length c1, .slice a2 t.vals.length c2, .slice a3 t.parts.length c3] 41 ∧ Ext w wr) (fun _ i _ => t.vals.length - (intOf i).toNat)
    case atStart => exact ⟨0, Nat.zero_le _, rfl, OwnS.nil _ _ _ _ _ _, Lib.hid (by simp), oE, xE⟩
    case round =>
      obtain ⟨k, hk, rfl, hl, hg, ho, hb⟩ := hrel
      have hol := ho.lt
      by_cases hlt : k < t.vals.length
      · have hv' := hv.mono mono_ValR hb.ple
        obtain ⟨b, o, rfl, h0, h1, h2, i0, i1, i2, hbl⟩ := ValsR.at hv' k hlt
        clear hv'
        go_wp2_with (at_builtin; refine wpList_append_S (E := IntR) (H := noH) (base := w.heap.size + 1) (ys := [t.vals[k].attr]) rfl _ _ 22 3 rfl (.int .i64 0) 8 Tryz.underlying22 infoInt rfl rfl rfl (hl.keep xE) ?c1 (noH_le _) ?c2 one_IntR ?c3 ?c4 ?c5)
        case c1 => exact Src.lit1 ⟨rfl, i0⟩ rfl (fun j => by simp [go_sem])
        case c2 => simp; omega
        case c3 => simp; omega
        case c4 => simp; omega
        case c5 =>
          intro l' w1 hl1 hg1 hn1
          have hne := hl.lt
          have ho1 := Own.grown (ho.keep xE) hg1 (fun e => by have := hne _ e.symm; omega)
          have ho2 := Own.grown (Own.alloc (Own.new wr _ _) _) hg1 (fun e => by have := hne _ e.symm; omega)
          have hb1 : Ext w w1 := Ext.grown xE hg1 (fun k e => by have := hne _ e; omega)
          rw [← take_snoc' (List.map Val.attr t.vals) k _ (by simp [hlt])] at hl1
          clear hg1 hn1 hl ho
          obtain ⟨hoc, hof⟩ := ho2.facts
          have hl2 := ho2.lt
          go_wp2_with fail
          refine (ratValid_c t.vals[k].n _ i1 i2).mono ?_
          rintro e w2 ⟨rfl, hb2⟩
          have hl2' := hl1.keep hb2
          have ho3 := ho1.keep hb2
          have ho4 := ho2.keep hb2
          replace hb2 : Ext w w2 := xE
          obtain ⟨hoc, hof⟩ := ho4.facts
          have hl2 := ho4.lt
          clear ho1 ho2 hb1 hl1 ho4
          by_cases hg1 : GoodP t.vals[k].n
          · rw [ErrIf_t hg1.1]
            have hg3 := hg1.2
            have HG := Lib.hid hg1; clear hg1
            go_wp2_with fail
            go_roundw
            case rel => exact ⟨k + 1, by omega, by go_num, hl2', take_all hlt HG.out hg.out, ho3, hb2⟩
            case measure => simp [intOf]; omega
          · have HG := Lib.hid hg1
            by_cases hr1 : RatOk t.vals[k].n
            · rw [ErrIf_t hr1]
              have hr2 : 65536 < t.vals[k].n.den := by
                by_cases h : 65536 < t.vals[k].n.den
                · exact h
                · exact absurd ⟨hr1, by omega⟩ hg1
              clear hg1 hr1
              go_wp2_with fail
              go_ret
              exact ⟨ret_f (fun h => HG.out (((Thing.formed_iff t).1 h).1 _ (List.getElem_mem hlt))), xE⟩
            · rw [ErrIf_f hr1]
              clear hg1 hr1
              go_wp2_with fail
              go_ret
              exact ⟨ret_f (fun h => HG.out (((Thing.formed_iff t).1 h).1 _ (List.getElem_mem hlt))), xE⟩
      · obtain rfl : k = t.vals.length := by omega
        replace hg := Lib.hid (take_done (by omega) hg.out)
        rw [show List.take t.vals.length (List.map Val.attr t.vals) = List.map Val.attr t.vals from List.take_of_length_le (by simp)] at hl
        obtain ⟨hoc, hof⟩ := ho.facts
        have hF := Lib.hid (Thing.formed_iff t)
        go_wp2_with fail
        refine (increasing_c _ t.cls 64 _ (hc.mono mono_IntR hb.ple)).mono ?_
        rintro e w2 ⟨rfl, hb2⟩
        have hl2 := hl.keep hb2
        have ho2 := ho.keep hb2
        have hb3 : Ext w w2 := xE
        clear hb2 hoc hof
        cases hB1 : B (Inc t.cls 64) with
        | false =>
          go_wp2_with fail
          go_ret
          exact ⟨ret_f (fun h => by have := B_t (hF.out.1 h).2.1; rw [hB1] at this; cases this), xE⟩
        | true =>
          go_wp2_with fail
          refine (increasing_c _ _ 32 _ (hl2.rep mono_IntR (noH_le _))).mono ?_
          rintro e w3 ⟨rfl, hb4⟩
          have ho3 := ho2.keep hb4
          replace hb3 : Ext w w3 := xE
          obtain ⟨hoc, hof⟩ := ho3.facts
          clear hb4 ho2
          cases hB2 : B (Inc (t.vals.map Val.attr) 32) with
          | false =>
            go_wp2_with fail
            go_ret
            exact ⟨ret_f (fun h => by have := B_t (hF.out.1 h).2.2.1; rw [hB2] at this; cases this), xE⟩
          | true =>
            go_wp2_with fail
            refine (containsFunc_thing (fun p => ! B p.formed) 137 #[] _ t.parts _ (hp.mono mono_ThingR hb3.ple) (fun args w => enterFn Tryz.func137 rfl rfl args w) ?_).mono ?_
            · intro w' hw' x hx cs hcs
              simpa using tformed1_c x cs w' hcs fun cs w hr => H.out x hx cs w hr (by have := Thing.part_le hx; omega)
            rintro e w4 ⟨rfl, hb5⟩
            have hA : Hid (t.parts.any (fun p => ! B p.formed) = false ↔ t.formed) := by
              show _ ↔ _
              rw [hF.out, List.any_eq_false]
              constructor
              · intro h
                exact ⟨hg.out, B_iff.1 hB1, B_iff.1 hB2, fun p hp => by have := h p hp; simpa [B_iff] using this⟩
              · rintro ⟨-, -, -, h⟩ p hp
                simp [B_t (h p hp)]
            generalize t.parts.any (fun p => ! B p.formed) = b at *
            clear hB1 hB2
            go_wp2_with fail
            go_ret
            exact ⟨ret_B (by rw [← hA.out]; simp), xE⟩
def nodesV (t : Thing) (lv lf : Int) : Int := if (t.size : Int) ≤ lf ∧ lv + t.deep ≤ 9 then lf - t.size else -1
set_option maxHeartbeats 1000000 in
theorem tnodes_c (t : Thing) : ∀ (cs : List Value) (w : World) (lv lf : Int), ThingR (ph w) cs t → 1 ≤ lv → lv ≤ 9 → 0 ≤ lf → lf ≤ 96 →
    Calls Tryz.prog 135 #[.agg cs.toArray, .int .i64 lv, .int .i64 lf] w (RetV w (.int .i64 (nodesV t lv lf))) := by
  induction t using Thing.ind with
  | h t ih =>
    intro cs w lv lf hr hv1 hv2 hf1 hf2
    obtain ⟨a1, c1, a2, c2, a3, c3, rfl, l1, l2, l3, -, -, hp⟩ := hr.form
    have H := Lib.hid ih; clear ih
    have hsz := Lib.hid (Thing.size_eq t)
    have hdp := Lib.hid (Thing.deep_eq t)
    by_cases hbad : 8 < lv ∨ lf < 1
    · have hn : Hid (nodesV t lv lf = -1) := by
        show _ = _
        have h1 := hsz.out; have h2 := hdp.out
        rw [nodesV, if_neg (by omega)]
      go_enter Tryz.func135, Tryz.ntmps135
      go_wp2_with fail
      all_goals first
        | (exfalso; omega)
        | (go_ret; exact ⟨ret_int hn.out.symm, xE⟩)
    · go_enter Tryz.func135, Tryz.ntmps135
      go_wp2_with fail
      all_goals first
        | (exfalso; omega)
        | skip
      go_loopw [2, 20] (fun l i wr => ∃ k : Nat, k ≤ t.parts.length ∧ i = .int .i64 k ∧ l = .int .i64 (lf - 1 - sumN Thing.size (t.parts.take k)) ∧ 0 ≤ lf - 1 - sumN Thing.size (t.parts.take k) ∧
        Hid (∀ p ∈ t.parts.take k, lv + 1 + p.deep ≤ 9) ∧ Ext w wr) (fun _ i _ => t.parts.length - (intOf i).toNat)
      case atStart => exact ⟨0, Nat.zero_le _, rfl, by simp [sumN], by simp [sumN]; omega, Lib.hid (by simp), xE⟩
      case round =>
        obtain ⟨k, hk, rfl, rfl, hpos, hd, hb⟩ := hrel
        by_cases hlt : k < t.parts.length
        · have hp' := hp.mono mono_ThingR hb.ple
          obtain ⟨b, o, b1, d1, b2, d2, b3, d3, rfl, h0, h1, h2, hE, hbl⟩ := ThingsR.at hp' k hlt
          have H3 := Lib.hid (sumN_take Thing.size t.parts k hlt)
          have hsl := Lib.hid (sumN_take_le Thing.size t.parts (k + 1))
          have hmx := Lib.hid (maxN_mem Thing.deep (List.getElem_mem hlt))
          clear hp hp'
          go_wp2_with fail
          refine (H.out _ (List.getElem_mem hlt) _ _ (lv + 1) _ (mono_ThingR _ _ _ _ (Ext.ple xE) hE) (by omega) (by omega) (by omega) (by omega)).mono ?_
          rintro e w1 ⟨rfl, hb1⟩
          by_cases hok : (t.parts[k].size : Int) ≤ lf - 1 - sumN Thing.size (t.parts.take k) ∧ lv + 1 + t.parts[k].deep ≤ 9
          · have hn : nodesV t.parts[k] (lv + 1) (lf - 1 - sumN Thing.size (t.parts.take k)) = lf - 1 - sumN Thing.size (t.parts.take k) - t.parts[k].size := by rw [nodesV, if_pos hok]
            rw [hn]
            obtain ⟨hok1, hok2⟩ := hok
            have H2 := Lib.hid hok2
            clear hn hok2
            go_wp2_with fail
            go_roundw
            case rel =>
              have h3 := H3.out
              exact ⟨k + 1, by omega, by go_num, by rw [h3]; go_num, by rw [h3]; omega, take_all hlt H2.out hd.out, xE⟩
            case measure => simp [intOf]; omega
          · have hn : nodesV t.parts[k] (lv + 1) (lf - 1 - sumN Thing.size (t.parts.take k)) = -1 := by rw [nodesV, if_neg hok]
            rw [hn]
            have HO := Lib.hid hok
            clear hn hok
            go_wp2_with fail
            go_ret
            refine ⟨ret_int ?_, xE⟩
            have h1 := hsz.out; have h2 := hdp.out; have h3 := H3.out; have h4 := hsl.out; have h5 := hmx.out; have h6 := HO.out
            rw [nodesV, if_neg (by omega)]
        · have ht : Hid (t.parts.take k = t.parts) := List.take_of_length_le (by omega)
          clear hp
          go_wp2_with fail
          go_ret
          refine ⟨ret_int ?_, xE⟩
          have h1 := hsz.out; have h2 := hdp.out
          have h3 := hd.out
          rw [ht.out] at h3 hpos ⊢
          have h4 : lv + t.deep ≤ 9 := by
            have : maxN Thing.deep t.parts ≤ (8 - lv).toNat := maxN_le (fun p hp => by have := h3 p hp; omega)
            omega
          rw [nodesV, if_pos (by omega)]; omega
theorem tlimited_c (t : Thing) (cs : List Value) (w : World) (hr : ThingR (ph w) cs t) :
    Calls Tryz.prog 95 #[.agg cs.toArray] w (RetV w (.bool (B (t.size ≤ 96 ∧ t.deep ≤ 8)))) := by
  obtain ⟨a1, c1, a2, c2, a3, c3, rfl, -, -, -, -, -, -⟩ := hr.form
  have hn : Hid (0 ≤ nodesV t 1 96 ↔ (t.size ≤ 96 ∧ t.deep ≤ 8)) := by
    show _ ↔ _
    unfold nodesV; split <;> omega
  go_enter Tryz.func95, Tryz.ntmps95
  go_wp2_with fail
  refine (tnodes_c t _ _ 1 96 (mono_ThingR _ _ _ _ (Ext.ple xE) hr) (by omega) (by omega) (by omega) (by omega)).mono ?_
  rintro e w1 ⟨rfl, hb1⟩
  generalize nodesV t 1 96 = n at *
  go_wp2_with fail
  go_ret
  exact ⟨ret_B (by rw [← hn.out]; simp), xE⟩
noncomputable def validV (t : Thing) : Int := @ite _ (t.size ≤ 96 ∧ t.deep ≤ 8) (Classical.propDecidable _) (ErrIf t.formed 1) 4
theorem tvalid_c (t : Thing) (cs : List Value) (w : World) (hr : ThingR (ph w) cs t) (hs : t.bulk ≤ 1000000) :
    Calls Tryz.prog 51 #[.agg cs.toArray] w (RetV w (.int .i64 (validV t))) := by
  obtain ⟨a1, c1, a2, c2, a3, c3, rfl, -, -, -, -, -, -⟩ := hr.form
  go_enter Tryz.func51, Tryz.ntmps51
  go_wp2_with fail
  refine (tlimited_c t _ _ (mono_ThingR _ _ _ _ (Ext.ple xE) hr)).mono ?_
  rintro e w1 ⟨rfl, hb1⟩
  have ho := Own.keep (Own.new w _ _) hb1
  have hb : Ext w w1 := xE
  obtain ⟨hoc, hof⟩ := ho.facts
  by_cases hl : t.size ≤ 96 ∧ t.deep ≤ 8
  · rw [B_t hl]
    have hV : Hid (validV t = ErrIf t.formed 1) := by show _ = _; rw [validV, if_pos hl]
    clear hl hb1
    go_wp2_with fail
    refine (tformed_c t _ _ (mono_ThingR _ _ _ _ (Ext.ple xE) hr) hs).mono ?_
    rintro e w2 ⟨rfl, hb2⟩
    by_cases hF : t.formed
    · rw [B_t hF]
      have HF := Lib.hid hF; clear hF
      go_wp2_with fail
      go_ret
      exact ⟨ret_int (by rw [hV.out, ErrIf_t HF.out]), xE⟩
    · rw [B_f hF]
      have HF := Lib.hid hF; clear hF
      go_wp2_with fail
      go_ret
      exact ⟨ret_int (by rw [hV.out, ErrIf_f HF.out]), xE⟩
  · rw [B_f hl]
    have hV : Hid (validV t = 4) := by show _ = _; rw [validV, if_neg hl]
    clear hl hb1
    go_wp2_with fail
    go_ret
    exact ⟨ret_int hV.out.symm, xE⟩
end Go.Proofs.YtbpilielamjnoaaGreat
namespace Go.Proofs.YtbpilielamjnoaaGreat
open Go.RowKit Go.Shelf
abbrev RatsR : PH → Value → List Rat2 → Prop := SliceRep RatR 2
theorem RatsR.at {w : World} {a : Option Addr} {n cap : Nat} {xs : List Rat2} (hr : RatsR (ph w) (.slice a n cap) xs) (k : Nat) (hk : k < xs.length) :
    ∃ b o, a = some ⟨b, o, none⟩ ∧ w.cell? ⟨b, o + k * 2, none⟩ = some (.int .i64 xs[k].num) ∧ w.cell? ⟨b, o + k * 2 + 1, none⟩ = some (.int .i64 xs[k].den) ∧ xs[k].I ∧ b < w.heap.size := by
  obtain ⟨b, o, c, d, h1, h2, h3, h4, h5⟩ := SliceRep.get2 hr k hk
  injection h4 with h6 h7
  injection h7 with h7 h8
  subst h6 h7
  exact ⟨b, o, h1, h2, h3, h5, cell_lt h2⟩
theorem lessE_lo (x : Itv) (r : Rat2) (hr : r.ok) (hx : goodB x = true) : lessE ⟨0, r, false⟩ (loE x) = (!x.loI && (lessR r x.lo || (decide (r = x.lo) && x.loO))) := by
  unfold loE
  cases h1 : x.loI
  · have s1 := smallB_ok (goodB.smlo hx h1)
    simp only [Bool.false_eq_true, if_false, Bool.not_false, Bool.true_and]
    unfold lessE lessR
    rw [if_neg (by simp), if_neg (by simp)]
    by_cases h : r.num * x.lo.den = x.lo.num * r.den
    · have he := Rat2.same hr s1 h
      rw [if_neg (by simpa using h)]
      subst he; simp
    · rw [if_pos h]
      have : r ≠ x.lo := fun e => h (by rw [e])
      simp [this]
  · simp [lessE, botE]
theorem lessE_hi (x : Itv) (r : Rat2) (hr : r.ok) (hx : goodB x = true) : lessE ⟨0, r, false⟩ (hiE x) = !(!x.hiI && (lessR x.hi r || (decide (r = x.hi) && x.hiO))) := by
  unfold hiE
  cases h1 : x.hiI
  · have s1 := smallB_ok (goodB.smhi hx h1)
    simp only [Bool.false_eq_true, if_false, Bool.not_false, Bool.true_and]
    unfold lessE lessR
    rw [if_neg (by simp), if_neg (by simp)]
    by_cases h : r.num * x.hi.den = x.hi.num * r.den
    · have he := Rat2.same hr s1 h
      rw [if_neg (by simpa using h)]
      subst he; simp
    · rw [if_pos h]
      have : r ≠ x.hi := fun e => h (by rw [e])
      simp only [this, decide_false, Bool.false_and, Bool.or_false]
      rw [Bool.eq_iff_iff]; simp; omega
  · simp [lessE, topE]
theorem hasB_eq (x : Itv) (r : Rat2) (hr : r.ok) (hx : goodB x = true) : hasB x r = (!(!x.loI && (lessR r x.lo || (decide (r = x.lo) && x.loO))) && !(!x.hiI && (lessR x.hi r || (decide (r = x.hi) && x.hiO)))) := by
  unfold hasB insB
  rw [lessE_lo x r hr hx, lessE_hi x r hr hx]
theorem dec_eq (a b c d : Int) : decide ((⟨a, b⟩ : Rat2) = ⟨c, d⟩) = (a == c && b == d) := by rw [Bool.eq_iff_iff]; simp
def validE (l : List Rat2) : Int := if l.all (fun r => decide (RatOk r)) then 0 else 1
set_option maxRecDepth 100000 in
set_option maxHeartbeats 4000000 in
theorem ratvalids_c (v : Value) (l : List Rat2) (w : World) (hr : RatsR (ph w) v l) : Calls Tryz.prog 172 #[v] w (RetV w (.int .i64 (validE l))) := by
  obtain ⟨a, c, rfl, hlen, hr⟩ := hr.form
  have hE : Hid (validE l = if l.all (fun r => decide (RatOk r)) then 0 else 1) := rfl
  go_enter Tryz.func172, Tryz.ntmps172
  go_wp2_with fail
  go_loopw [8] (fun i wr => ∃ k : Nat, k ≤ l.length ∧ i = .int .i64 k ∧ Hid ((l.take k).all (fun r => decide (RatOk r)) = true) ∧ Ext w wr) (fun i _ => l.length - (intOf i).toNat)
  case atStart => exact ⟨0, Nat.zero_le _, rfl, Lib.hid (by simp), Ext.rfl' _⟩
  case round =>
    obtain ⟨k, hk, rfl, ho, hx⟩ := hrel
    by_cases hlt : k < l.length
    · obtain ⟨b, o, rfl, h0, h1, hI, hbl⟩ := RatsR.at (hr.mono mono_RatR hx.ple) k hlt
      have hja : decide (k < l.length) = true := decide_eq_true hlt
      have hv := fun w => ratValid_c l[k] w hI.1 hI.2
      have hn1 : Hid ((l.take (k + 1)).all (fun r => decide (RatOk r)) = decide (RatOk l[k])) := Lib.hid (by
        rw [List.take_succ_eq_append_getElem hlt, List.all_append, ho.out]; simp)
      have hn2 : Hid (¬ RatOk l[k] → validE l = 1) := Lib.hid fun h => by
        rw [hE.out, if_neg]
        rw [List.all_eq_true]
        intro hh; have := hh _ (List.getElem_mem hlt); simp [h] at this
      generalize hx0 : l[k] = x at *
      obtain ⟨p, q⟩ := x
      dsimp only at *
      clear hx0
      replace hv := Lib.hid hv
      have hx1 := hx.then (Ext.new wr (.cells #[.int .i64 p, .int .i64 q] 81))
      have hO := Proofs.YtbpilielamjnoaaGreat.Own.new wr #[.int .i64 p, .int .i64 q] 81
      go_upto_region 4 with (fail)
      generalize wr.heap.size = bx at *
      generalize wr.alloc _ = W at *
      obtain ⟨cx, fx⟩ := hO.facts
      have zx := hO.lt
      have c0 : _ = some (Value.int .i64 p) := cx 0
      have c1 : _ = some (Value.int .i64 q) := cx 1
      clear cx h0 h1 hbl hx
      go_wp2_with fail
      refine RetV_at (hv.out _) ?_
      intro w2 hx2
      replace hx1 := hx1.then hx2
      by_cases hok : RatOk ⟨p, q⟩
      · have e : ErrIf (RatOk ⟨p, q⟩) 1 = 0 := if_pos hok
        rw [e]
        have hn3 : Hid ((l.take (k + 1)).all (fun r => decide (RatOk r)) = true) := Lib.hid (by rw [hn1.out]; simp [hok])
        clear hv hn1 hn2 c0 c1
        replace hok := Lib.hid hok
        go_wp2_with fail
        go_roundw
        case rel => exact ⟨k + 1, by omega, by go_num, hn3, hx1⟩
        case measure => simp [intOf]; omega
      · have e : ErrIf (RatOk ⟨p, q⟩) 1 = 1 := if_neg hok
        rw [e]
        have hn3 : Hid (validE l = 1) := Lib.hid (hn2.out hok)
        clear hv hn1 hn2 c0 c1
        replace hok := Lib.hid hok
        go_wp2_with fail
        go_ret
        exact ⟨ret_int hn3.out.symm, hx1⟩
    · have hja : decide (k < l.length) = false := by simpa using hlt
      have h9 : Hid (validE l = 0) := Lib.hid (by
        have := ho.out
        rw [List.take_of_length_le (by omega)] at this
        rw [hE.out, if_pos this])
      go_wp2_with fail
      go_ret
      exact ⟨ret_int h9.out.symm, hx⟩
def cmpR (a b : Rat2) : Int := if a.num * b.den < b.num * a.den then -1 else if b.num * a.den < a.num * b.den then 1 else 0
set_option maxRecDepth 100000 in
set_option maxHeartbeats 4000000 in
theorem ratcmp_c (a b : Rat2) (w : World) (ha : a.bd) (hb : b.bd) : Calls Tryz.prog 173 #[raA a, raA b] w (RetV w (.int .i64 (cmpR a b))) := by
  have hw1 := mul_bd2 ha.1 ha.2.1 hb.2.2.1 hb.2.2.2
  have hw2 := mul_bd2 hb.1 hb.2.1 ha.2.2.1 ha.2.2.2
  have hs : Hid (cmpR a b = if a.num * b.den < b.num * a.den then -1 else if b.num * a.den < a.num * b.den then 1 else 0) := rfl
  have e1 : IntKind.i64.wrap (a.num * b.den) = a.num * b.den := wrap_id (by omega) (by omega)
  have e2 : IntKind.i64.wrap (b.num * a.den) = b.num * a.den := wrap_id (by omega) (by omega)
  obtain ⟨n, d⟩ := a
  obtain ⟨n', d'⟩ := b
  unfold raA
  dsimp only at *
  generalize cmpR _ _ = q at *
  clear ha hb hw1 hw2
  go_enter Tryz.func173, Tryz.ntmps173
  go_wp2_with fail
  go_quiet (fail)
  by_cases h1 : n * d' < n' * d
  · have hq : Hid (q = -1) := Lib.hid (by rw [hs.out, if_pos h1])
    go_wp2_with fail
    go_ret
    exact ⟨ret_int hq.out.symm, xE⟩
  · by_cases h2 : n' * d < n * d'
    · have hq : Hid (q = 1) := Lib.hid (by rw [hs.out, if_neg h1, if_pos h2])
      go_wp2_with fail
      go_ret
      exact ⟨ret_int hq.out.symm, xE⟩
    · have hq : Hid (q = 0) := Lib.hid (by rw [hs.out, if_neg h1, if_neg h2])
      go_wp2_with fail
      go_ret
      exact ⟨ret_int hq.out.symm, xE⟩
end Go.Proofs.YtbpilielamjnoaaGreat

namespace Go.Proofs.YtbpilielamjnoaaGreat
open Go.RowKit Go.Shelf
theorem validE_2 {a b : Rat2} : validE [a, b] = if RatOk a ∧ RatOk b then 0 else 1 := by
  unfold validE
  by_cases h1 : RatOk a <;> by_cases h2 : RatOk b <;> simp [h1, h2]
set_option maxRecDepth 100000 in
set_option maxHeartbeats 4000000 in
theorem cmp_c (a b : Rat2) (w : World) (ha : RatOk a) (hb : RatOk b) : Calls Tryz.prog 164 #[raA a, raA b] w (RetV w (.tuple #[.int .i64 (cmpR a b), .int .i64 0])) := by
  have hv2 := fun W => ratvalids_c _ [a, b] _ (sliceArr (E := RatR) (sz := 2) (n := 2) (xs := [a, b]) (Proofs.YtbpilielamjnoaaGreat.Own.new W #[.int .i64 a.num, .int .i64 a.den, .int .i64 b.num, .int .i64 b.den] 81) ⟨[.int .i64 a.num, .int .i64 a.den], [.int .i64 b.num, .int .i64 b.den], rfl, rfl, ⟨rfl, ha.I⟩, [.int .i64 b.num, .int .i64 b.den], [], rfl, rfl, ⟨rfl, hb.I⟩, rfl⟩ rfl (by decide))
  have hve : validE [a, b] = 0 := by rw [validE_2, if_pos ⟨ha, hb⟩]
  rw [hve] at hv2
  have hcm := fun w => ratcmp_c a b w ha.bd hb.bd
  generalize cmpR a b = q at *
  clear hve ha hb
  obtain ⟨n, d⟩ := a
  obtain ⟨n', d'⟩ := b
  unfold raA at *
  dsimp only at *
  replace hv2 := Lib.hid hv2
  replace hcm := Lib.hid hcm
  go_enter Tryz.func164, Tryz.ntmps164
  have hO2 := (Proofs.YtbpilielamjnoaaGreat.Own.new w #[.int .i64 n, .int .i64 d] 81).alloc (.cells #[.int .i64 n', .int .i64 d'] 81)
  have hO3 := Own.new' (w.alloc (.cells #[.int .i64 n, .int .i64 d] 81)) #[.int .i64 n', .int .i64 d'] 81 (n := w.heap.size + 1) (by simp)
  have hx : Ext w ((w.alloc (.cells #[.int .i64 n, .int .i64 d] 81)).alloc (.cells #[.int .i64 n', .int .i64 d'] 81)) := xE
  go_upto_region 1 with (fail)
  generalize w.heap.size = b1 at *
  generalize (w.alloc _).alloc _ = W at *
  have hq := hv2.out W
  replace hq := Lib.hid hq
  obtain ⟨c2, f2⟩ := hO2.facts
  obtain ⟨c3, f3⟩ := hO3.facts
  have z2 := hO2.lt
  have z3 := hO3.lt
  have k20 : _ = some (Value.int .i64 n) := c2 0
  have k21 : _ = some (Value.int .i64 d) := c2 1
  have k30 : _ = some (Value.int .i64 n') := c3 0
  have k31 : _ = some (Value.int .i64 d') := c3 1
  clear c2 c3
  go_wp2_with fail
  refine RetV_at hq.out ?_
  intro w2 hx2
  have hx2' := (Ext.new W (.cells #[.int .i64 n, .int .i64 d, .int .i64 n', .int .i64 d'] 81)).then hx2
  replace hO2 := hO2.keep hx2'
  replace hO3 := hO3.keep hx2'
  replace hx := hx.then hx2'
  clear hq hv2 hx2 hx2' f2 f3 z2 z3 k20 k21 k30 k31
  obtain ⟨c2, f2⟩ := hO2.facts
  obtain ⟨c3, f3⟩ := hO3.facts
  have z2 := hO2.lt
  have z3 := hO3.lt
  have k20 : _ = some (Value.int .i64 n) := c2 0
  have k21 : _ = some (Value.int .i64 d) := c2 1
  have k30 : _ = some (Value.int .i64 n') := c3 0
  have k31 : _ = some (Value.int .i64 d') := c3 1
  clear c2 c3
  go_wp2_with fail
  refine RetV_at (hcm.out _) ?_
  intro w3 hx3
  go_wp2_with fail
  go_ret2
  exact ⟨rfl, hx.then hx3⟩
set_option maxRecDepth 100000 in
set_option maxHeartbeats 4000000 in
theorem has1_c (a b : Rat2) (w : World) (ha : RatOk a) (hb : RatOk b) : Calls Tryz.prog 163 #[raA a, raA b] w (RetV w (.int .i64 (cmpR a b))) := by
  have hcm := fun w => cmp_c a b w ha hb
  generalize cmpR a b = q at *
  clear ha hb
  obtain ⟨n, d⟩ := a
  obtain ⟨n', d'⟩ := b
  unfold raA at *
  dsimp only at *
  replace hcm := Lib.hid hcm
  go_enter Tryz.func163, Tryz.ntmps163
  have hO2 := (Proofs.YtbpilielamjnoaaGreat.Own.new w #[.int .i64 n, .int .i64 d] 81).alloc (.cells #[.int .i64 n', .int .i64 d'] 81)
  have hO3 := Own.new' (w.alloc (.cells #[.int .i64 n, .int .i64 d] 81)) #[.int .i64 n', .int .i64 d'] 81 (n := w.heap.size + 1) (by simp)
  have hx : Ext w ((w.alloc (.cells #[.int .i64 n, .int .i64 d] 81)).alloc (.cells #[.int .i64 n', .int .i64 d'] 81)) := xE
  go_upto_region 1 with (fail)
  generalize w.heap.size = b1 at *
  generalize (w.alloc _).alloc _ = W at *
  obtain ⟨c2, f2⟩ := hO2.facts
  obtain ⟨c3, f3⟩ := hO3.facts
  have z2 := hO2.lt
  have z3 := hO3.lt
  have k20 : _ = some (Value.int .i64 n) := c2 0
  have k21 : _ = some (Value.int .i64 d) := c2 1
  have k30 : _ = some (Value.int .i64 n') := c3 0
  have k31 : _ = some (Value.int .i64 d') := c3 1
  clear c2 c3
  go_wp2_with fail
  refine RetV_at (hcm.out _) ?_
  intro w3 hx3
  go_wp2_with fail
  go_ret
  exact ⟨rfl, hx.then hx3⟩
theorem cmpR_less {a b : Rat2} (ha : a.ok) (hb : b.ok) : (cmpR a b = -1 ∧ lessR a b = true ∧ lessR b a = false ∧ decide (a = b) = false) ∨ (cmpR a b = 0 ∧ lessR a b = false ∧ lessR b a = false ∧ decide (a = b) = true) ∨ (cmpR a b = 1 ∧ lessR a b = false ∧ lessR b a = true ∧ decide (a = b) = false) := by
  unfold cmpR lessR
  by_cases h1 : a.num * b.den < b.num * a.den
  · left
    refine ⟨by rw [if_pos h1], by simpa using h1, by simp; omega, ?_⟩
    have : a ≠ b := fun e => by subst e; omega
    simpa using this
  · by_cases h2 : b.num * a.den < a.num * b.den
    · right; right
      refine ⟨by rw [if_neg h1, if_pos h2], by simpa using h1, by simpa using h2, ?_⟩
      have : a ≠ b := fun e => by subst e; omega
      simpa using this
    · right; left
      have := Rat2.same ha hb (by omega)
      exact ⟨by rw [if_neg h1, if_neg h2], by simpa using h1, by simpa using h2, by simpa using this⟩
set_option maxRecDepth 100000 in
set_option maxHeartbeats 8000000 in
theorem has_c (x : Itv) (r : Rat2) (w : World) (hx : goodB x = true) (hr : RatOk r) : Calls Tryz.prog 145 #[itA x, raA r] w (RetV w (.bool (hasB x r))) := by
  have hs := hasB_eq x r hr.ok hx
  have h1 := fun (h : x.loI = false) w => has1_c r x.lo w hr (smallB_iff.1 (goodB.smlo hx h)).1
  have h2 := fun (h : x.hiI = false) w => has1_c r x.hi w hr (smallB_iff.1 (goodB.smhi hx h)).1
  have d1 := fun (h : x.loI = false) => cmpR_less hr.ok (smallB_ok (goodB.smlo hx h))
  have d2 := fun (h : x.hiI = false) => cmpR_less hr.ok (smallB_ok (goodB.smhi hx h))
  generalize hasB x r = q at *
  obtain ⟨⟨a, b⟩, ⟨c, d⟩, lO, rO, lI, rI⟩ := x
  obtain ⟨n, m⟩ := r
  unfold itA raA at *
  dsimp only at *
  generalize lessR ⟨n, m⟩ ⟨a, b⟩ = l1 at *
  generalize lessR ⟨a, b⟩ ⟨n, m⟩ = l3 at *
  generalize lessR ⟨c, d⟩ ⟨n, m⟩ = l2 at *
  generalize lessR ⟨n, m⟩ ⟨c, d⟩ = l4 at *
  generalize decide ((⟨n, m⟩ : Rat2) = ⟨a, b⟩) = e1 at *
  generalize decide ((⟨n, m⟩ : Rat2) = ⟨c, d⟩) = e2 at *
  generalize cmpR ⟨n, m⟩ ⟨a, b⟩ = k1 at *
  generalize cmpR ⟨n, m⟩ ⟨c, d⟩ = k2 at *
  clear hx hr
  replace h1 := Lib.hid h1
  replace h2 := Lib.hid h2
  replace d1 := Lib.hid d1
  replace d2 := Lib.hid d2
  replace hs := Lib.hid hs
  have hO := Proofs.YtbpilielamjnoaaGreat.Own.alloc (Proofs.YtbpilielamjnoaaGreat.Own.new w #[.int .i64 a, .int .i64 b, .int .i64 c, .int .i64 d, .bool lO, .bool rO, .bool lI, .bool rI] 96) (.cells #[.int .i64 n, .int .i64 m] 81)
  have hO2 := Proofs.YtbpilielamjnoaaGreat.Own.new' (w.alloc (.cells #[.int .i64 a, .int .i64 b, .int .i64 c, .int .i64 d, .bool lO, .bool rO, .bool lI, .bool rI] 96)) #[.int .i64 n, .int .i64 m] 81 (n := w.heap.size + 1) (by simp)
  have hx := (Ext.new w (.cells #[.int .i64 a, .int .i64 b, .int .i64 c, .int .i64 d, .bool lO, .bool rO, .bool lI, .bool rI] 96)).alloc' (.cells #[.int .i64 n, .int .i64 m] 81)
  go_enter Tryz.func145, Tryz.ntmps145
  go_upto_region 1 with (fail)
  generalize w.heap.size = b1 at *
  generalize (w.alloc _).alloc _ = W at *
  obtain ⟨c1, f1⟩ := hO.facts
  obtain ⟨c2, f2⟩ := hO2.facts
  have z1 := hO.lt
  have z2 := hO2.lt
  go_upto_region 2 with (fail)
  cases lI with
  | true =>
    cases rI with
    | true =>
      go_wp2_with fail
      go_ret
      exact ⟨ret_bool (by rw [hs.out]; simp), hx⟩
    | false =>
      have h2' := Lib.hid (h2.out (by first | trivial | rfl))
      go_wp2_with fail
      refine RetV_at (h2'.out _) ?_
      intro w9 hx9
      replace hO := hO.keep hx9
      replace hx := hx.then hx9
      clear c1 f1 c2 f2 z1 z2
      obtain ⟨c1, f1⟩ := hO.facts
      have z1 := hO.lt
      rcases d2.out (by first | trivial | rfl) with ⟨rfl, rfl, rfl, rfl⟩ | ⟨rfl, rfl, rfl, rfl⟩ | ⟨rfl, rfl, rfl, rfl⟩
      · go_wp2_with fail
        go_ret
        exact ⟨ret_bool (by rw [hs.out]; simp), hx⟩
      · cases rO with
        | true =>
          go_wp2_with fail
          go_ret
          exact ⟨ret_bool (by rw [hs.out]; simp), hx⟩
        | false =>
          go_wp2_with fail
          go_ret
          exact ⟨ret_bool (by rw [hs.out]; simp), hx⟩
      · go_wp2_with fail
        go_ret
        exact ⟨ret_bool (by rw [hs.out]; simp), hx⟩
  | false =>
    have h1' := Lib.hid (h1.out (by first | trivial | rfl))
    go_wp2_with fail
    refine RetV_at (h1'.out _) ?_
    intro w5 hx5
    replace hO := hO.keep hx5
    replace hO2 := hO2.keep hx5
    replace hx := hx.then hx5
    clear c1 f1 c2 f2 z1 z2
    obtain ⟨c1, f1⟩ := hO.facts
    obtain ⟨c2, f2⟩ := hO2.facts
    have z1 := hO.lt
    have z2 := hO2.lt
    rcases d1.out (by first | trivial | rfl) with ⟨rfl, rfl, rfl, rfl⟩ | ⟨rfl, rfl, rfl, rfl⟩ | ⟨rfl, rfl, rfl, rfl⟩
    · go_wp2_with fail
      go_ret
      exact ⟨ret_bool (by rw [hs.out]; simp), hx⟩
    · cases lO with
      | true =>
        go_wp2_with fail
        go_ret
        exact ⟨ret_bool (by rw [hs.out]; simp), hx⟩
      | false =>
        go_upto_region 6 with (fail)
        cases rI with
        | true =>
          go_wp2_with fail
          go_ret
          exact ⟨ret_bool (by rw [hs.out]; simp), hx⟩
        | false =>
          have h2' := Lib.hid (h2.out (by first | trivial | rfl))
          go_wp2_with fail
          refine RetV_at (h2'.out _) ?_
          intro w9 hx9
          replace hO := hO.keep hx9
          replace hx := hx.then hx9
          clear c1 f1 c2 f2 z1 z2
          obtain ⟨c1, f1⟩ := hO.facts
          have z1 := hO.lt
          rcases d2.out (by first | trivial | rfl) with ⟨rfl, rfl, rfl, rfl⟩ | ⟨rfl, rfl, rfl, rfl⟩ | ⟨rfl, rfl, rfl, rfl⟩
          · go_wp2_with fail
            go_ret
            exact ⟨ret_bool (by rw [hs.out]; simp), hx⟩
          · cases rO with
            | true =>
              go_wp2_with fail
              go_ret
              exact ⟨ret_bool (by rw [hs.out]; simp), hx⟩
            | false =>
              go_wp2_with fail
              go_ret
              exact ⟨ret_bool (by rw [hs.out]; simp), hx⟩
          · go_wp2_with fail
            go_ret
            exact ⟨ret_bool (by rw [hs.out]; simp), hx⟩
    · go_upto_region 6 with (fail)
      cases rI with
      | true =>
        go_wp2_with fail
        go_ret
        exact ⟨ret_bool (by rw [hs.out]; simp), hx⟩
      | false =>
        have h2' := Lib.hid (h2.out (by first | trivial | rfl))
        go_wp2_with fail
        refine RetV_at (h2'.out _) ?_
        intro w9 hx9
        replace hO := hO.keep hx9
        replace hx := hx.then hx9
        clear c1 f1 c2 f2 z1 z2
        obtain ⟨c1, f1⟩ := hO.facts
        have z1 := hO.lt
        rcases d2.out (by first | trivial | rfl) with ⟨rfl, rfl, rfl, rfl⟩ | ⟨rfl, rfl, rfl, rfl⟩ | ⟨rfl, rfl, rfl, rfl⟩
        · go_wp2_with fail
          go_ret
          exact ⟨ret_bool (by rw [hs.out]; simp), hx⟩
        · cases rO with
          | true =>
            go_wp2_with fail
            go_ret
            exact ⟨ret_bool (by rw [hs.out]; simp), hx⟩
          | false =>
            go_wp2_with fail
            go_ret
            exact ⟨ret_bool (by rw [hs.out]; simp), hx⟩
        · go_wp2_with fail
          go_ret
          exact ⟨ret_bool (by rw [hs.out]; simp), hx⟩
set_option maxRecDepth 100000 in
set_option maxHeartbeats 4000000 in
theorem hasf_c (x : Itv) (r : Rat2) (b : Nat) (w : World) (hI : x.I) (hr : RatOk r) (hO : Own w b #[.int .i64 r.num, .int .i64 r.den] 81) :
    Calls Tryz.prog 144 #[itA x, .pointer (some ⟨b, 0, none⟩)] w (RetV w (.bool (goodB x && hasB x r))) := by
  have hg := fun w => good_c x w hI
  have hh := fun (h : goodB x = true) w => has_c x r w h hr
  generalize goodB x = g at *
  generalize hasB x r = q at *
  clear hI hr
  obtain ⟨⟨p, s⟩, ⟨u, v⟩, lO, rO, lI, rI⟩ := x
  obtain ⟨n, d⟩ := r
  unfold itA raA at *
  dsimp only at *
  have hx := Ext.new w (.cells #[.int .i64 p, .int .i64 s, .int .i64 u, .int .i64 v, .bool lO, .bool rO, .bool lI, .bool rI] 96)
  replace hO := hO.keep hx
  have hO2 := Proofs.YtbpilielamjnoaaGreat.Own.new w #[.int .i64 p, .int .i64 s, .int .i64 u, .int .i64 v, .bool lO, .bool rO, .bool lI, .bool rI] 96
  replace hg := Lib.hid hg
  replace hh := Lib.hid hh
  go_enter Tryz.func144, Tryz.ntmps144
  go_upto_region 1 with (fail)
  generalize w.heap.size = b2 at *
  generalize w.alloc _ = W at *
  obtain ⟨c1, f1⟩ := hO.facts
  obtain ⟨c2, f2⟩ := hO2.facts
  have z1 := hO.lt
  have z2 := hO2.lt
  go_wp2_with fail
  refine RetV_at (hg.out _) ?_
  intro w2 hx2
  replace hO := hO.keep hx2
  replace hO2 := hO2.keep hx2
  replace hx := hx.then hx2
  clear c1 f1 c2 f2 z1 z2
  obtain ⟨c1, f1⟩ := hO.facts
  obtain ⟨c2, f2⟩ := hO2.facts
  have z1 := hO.lt
  have z2 := hO2.lt
  cases g with
  | false =>
    go_wp2_with fail
    go_ret
    exact ⟨ret_bool (by simp), hx⟩
  | true =>
    have hh' := Lib.hid (hh.out (by first | trivial | rfl))
    go_wp2_with fail
    refine RetV_at (hh'.out _) ?_
    intro w3 hx3
    go_wp2_with fail
    go_ret
    exact ⟨ret_bool (by simp), hx.then hx3⟩
def hasL (l : List Itv) (r : Rat2) : Bool := decide (RatOk r) && l.any fun x => goodB x && hasB x r
set_option maxRecDepth 100000 in
set_option maxHeartbeats 4000000 in
theorem hasL_c (v : Value) (l : List Itv) (r : Rat2) (w : World) (hl : ItvsR (ph w) v l) (hI : r.I) : Calls Tryz.prog 104 #[v, raA r] w (RetV w (.bool (hasL l r))) := by
  have hv := fun w => ratValid_c r w hI.1 hI.2
  have hcl := fun (hok : RatOk r) (w' : World) (b : Nat) (hx : Ext w w') (hO : Own w' b #[.int .i64 r.num, .int .i64 r.den] 81) =>
    containsFunc_itv (fun x => goodB x && hasB x r) 144 #[.pointer (some ⟨b, 0, none⟩)] v l w' (hl.mono mono_ItvR hx.ple) (enters_of Tryz.func144 (by kernel_rfl) rfl) (by
      rintro w'' hx2 x hy cs ⟨rfl, hI⟩
      exact hasf_c x r b w'' hI hok (hO.keep hx2))
  have hs : Hid (hasL l r = (decide (RatOk r) && l.any fun x => goodB x && hasB x r)) := rfl
  generalize hasL l r = Q at *
  generalize (l.any fun x => goodB x && hasB x r) = q at *
  obtain ⟨a, c, rfl, -, -⟩ := hl.form
  obtain ⟨e, he⟩ : ∃ e, ErrIf (RatOk r) 1 = e := ⟨_, rfl⟩
  rw [he] at hv
  by_cases hok : RatOk r
  · have h0 : e = 0 := by rw [← he]; exact ErrIf_t hok
    subst h0
    have hs2 : Hid (Q = q) := Lib.hid (by rw [hs.out]; simp [hok])
    replace hcl := hcl hok
    clear hok he hs hI hl
    obtain ⟨n, d⟩ := r
    unfold raA
    dsimp only at *
    have hx := Ext.new w (.cells #[.int .i64 n, .int .i64 d] 81)
    have hO := Proofs.YtbpilielamjnoaaGreat.Own.new w #[.int .i64 n, .int .i64 d] 81
    replace hv := Lib.hid hv
    replace hcl := Lib.hid hcl
    go_enter Tryz.func104, Tryz.ntmps104
    go_upto_region 1 with (fail)
    generalize w.heap.size = b2 at *
    generalize w.alloc _ = W at *
    obtain ⟨c1, f1⟩ := hO.facts
    have z1 := hO.lt
    go_wp2_with fail
    refine RetV_at (hv.out _) ?_
    intro w2 hx2
    replace hO := hO.keep hx2
    replace hx := hx.then hx2
    have hc2 := Lib.hid (hcl.out w2 b2 hx hO)
    clear c1 f1 z1
    go_wp2_with fail
    refine RetV_at hc2.out ?_
    intro w3 hx3
    go_wp2_with fail
    go_ret
    exact ⟨ret_bool (by rw [hs2.out]), hx.then hx3⟩
  · have h0 : e = 1 := by rw [← he]; exact ErrIf_f hok
    subst h0
    have hs2 : Hid (Q = false) := Lib.hid (by rw [hs.out]; simp [hok])
    clear hok he hs hI hl hcl
    obtain ⟨n, d⟩ := r
    unfold raA
    dsimp only at *
    have hx := Ext.new w (.cells #[.int .i64 n, .int .i64 d] 81)
    have hO := Proofs.YtbpilielamjnoaaGreat.Own.new w #[.int .i64 n, .int .i64 d] 81
    replace hv := Lib.hid hv
    go_enter Tryz.func104, Tryz.ntmps104
    go_upto_region 1 with (fail)
    generalize w.heap.size = b2 at *
    generalize w.alloc _ = W at *
    obtain ⟨c1, f1⟩ := hO.facts
    have z1 := hO.lt
    go_wp2_with fail
    refine RetV_at (hv.out _) ?_
    intro w2 hx2
    go_wp2_with fail
    go_ret
    exact ⟨ret_bool hs2.out.symm, hx.then hx2⟩
end Go.Proofs.YtbpilielamjnoaaGreat
namespace Go.Proofs.YtbpilielamjnoaaGreat
open Go.RowKit
theorem OwnS.ty {α : Type} {E : PH → List Value → α → Prop} {sz base : Nat} {H : PH} {w : World} {T : TypeId} {v : Value} {xs : List α} (h : OwnS base H w E sz T v xs) {k : Nat} (hk : v.ownBlock = some k) : ∃ cur, w.heap[k]? = some (.cells cur T (0, 0)) := by
  rcases h with ⟨rfl, _⟩ | ⟨g, cap, cur, rfl, hb, hn, hg, _⟩
  · simp [Value.ownBlock] at hk
  · simp [Value.ownBlock] at hk; subst hk; exact ⟨cur, hg⟩
theorem ty_ne {w : World} {k k' : Nat} {c c' : Array Value} {T T' : TypeId} (h : w.heap[k]? = some (.cells c T (0, 0))) (h' : w.heap[k']? = some (.cells c' T' (0, 0))) (hT : T ≠ T') : k ≠ k' := by
  rintro rfl
  rw [h] at h'
  injection h' with h'
  injection h' with _ h'
  exact hT h'
theorem OwnS.stay {α : Type} {E : PH → List Value → α → Prop} {sz base : Nat} {H : PH} {w w' : World} {T : TypeId} {v : Value} {xs : List α} {row : Option Nat} (h : OwnS base H w E sz T v xs) (hg : w.grownBy w' row) (hne : ∀ k, v.ownBlock = some k → row ≠ some k) : OwnS base H w' E sz T v xs :=
  h.keepB (fun k hk => hg.block k (h.lt k hk).2.1 (fun e => hne k hk e.symm)) (fun k hk => (h.lt k hk).2.2) fun _ _ h => h
theorem OwnS.put {α : Type} {E : PH → List Value → α → Prop} {sz base : Nat} {H : PH} {w : World} {T : TypeId} {v u : Value} {xs : List α} (h : OwnS base H w E sz T v xs) {a : Addr} (hne : v.ownBlock ≠ some a.block) : OwnS base H (w.setCell a u) E sz T v xs :=
  h.keepB (fun k hk => Below.heap_setCell _ _ _ _ (fun e => hne (by rw [hk, e]))) (fun k hk => (h.lt k hk).2.2) fun _ _ h => h
structure GSu (w0 : World) (H0 : PH) (K : List (Nat × Array Value)) (H : PH) (w : World) (g : Nat) (v1 v2 v3 : Value) (c : List Int) (v : List Val) (p : List Thing) : Prop where
  l0 : PLe H0 (ph w0)
  le : PLe H0 H
  ub : PLe H (up H0 w0 w)
  ow : Own w g #[v1, v2, v3] 41
  o1 : OwnS w0.heap.size H w IntR 1 3 v1 c
  o2 : OwnS w0.heap.size H w ValR 3 83 v2 v
  o3 : OwnS w0.heap.size H w ThingR 3 41 v3 p
  bg : w0.heap.size ≤ g
  ng : H g = none
  n3 : v3.ownBlock ≠ some g
  kk : ∀ x ∈ K, Own w x.1 x.2 41 ∧ x.1 ≠ g ∧ v3.ownBlock ≠ some x.1 ∧ H x.1 = none
  ex : Ext w0 w
section
variable {w0 : World} {H0 : PH} {K : List (Nat × Array Value)} {H : PH} {w : World} {g : Nat} {v1 v2 v3 : Value} {c : List Int} {v : List Val} {p : List Thing}
theorem GSu.ple (h : GSu w0 H0 K H w g v1 v2 v3 c v p) : PLe H (ph w) := h.ub.trans (up_ple h.l0 h.ex)
theorem GSu.ext {w' : World} (h : GSu w0 H0 K H w g v1 v2 v3 c v p) (e : Ext w w') : GSu w0 H0 K H w' g v1 v2 v3 c v p :=
  ⟨h.l0, h.le, h.ub.trans (up_then h.ex e), h.ow.keep e, h.o1.keep e, h.o2.keep e, h.o3.keep e, h.bg, h.ng, h.n3, fun x hx => ⟨(h.kk x hx).1.keep e, (h.kk x hx).2⟩, h.ex.then e⟩
theorem GSu.up {w' : World} (h : GSu w0 H0 K H w g v1 v2 v3 c v p) (e : Ext w w') : GSu w0 H0 K (up H w w') w' g v1 v2 v3 c v p := by
  have hl : PLe H (Proofs.YtbpilielamjnoaaGreat.up H w w') := fun k o hk => by unfold Proofs.YtbpilielamjnoaaGreat.up; rw [if_pos (ph_lt (h.ple k o hk))]; exact hk
  exact ⟨h.l0, h.le.trans hl, (up_mono h.ub).trans (up_up h.ex e), h.ow.keep e, h.o1.keepUp mono_IntR h.ple e, h.o2.keepUp mono_ValR h.ple e, h.o3.keepUp mono_ThingR h.ple e, h.bg, up_none h.ng h.ow.lt, h.n3,
    fun x hx => ⟨(h.kk x hx).1.keep e, (h.kk x hx).2.1, (h.kk x hx).2.2.1, up_none (h.kk x hx).2.2.2 (h.kk x hx).1.lt⟩, h.ex.then e⟩
theorem ub_set {w1 w2 : World} {row : Option Nat} {j : Nat} {u : Value} (hub : PLe H (up H0 w0 w)) (hx : Ext w0 w) (e : Ext w w1) (hgr : w1.grownBy w2 row) (hr : ∀ k, row = some k → w0.heap.size ≤ k ∧ H k = none) (hg : H g = none) (hbg : w0.heap.size ≤ g) :
    PLe H (up H0 w0 (w2.setCell ⟨g, j, none⟩ u)) := by
  intro k o hk
  have h1 := hub k o hk
  unfold up at *
  split
  · rename_i hl; rw [if_pos hl] at h1; exact h1
  · rename_i hl; rw [if_neg hl] at h1
    have hk1 := ph_lt h1
    have hs := e.size
    show (w2.setCell ⟨g, j, none⟩ u).heap[k]? = some o
    rw [Below.heap_setCell _ _ _ _ (fun he => by rw [he, hg] at hk; cases hk), hgr.block k (by omega) (fun he => by rw [(hr k he.symm).2] at hk; cases hk), e.block k hk1]
    exact h1
theorem ex_set {w1 w2 : World} {row : Option Nat} {j : Nat} {u : Value} (hx : Ext w0 w) (e : Ext w w1) (hgr : w1.grownBy w2 row) (hr : ∀ k, row = some k → w0.heap.size ≤ k ∧ H k = none) (hbg : w0.heap.size ≤ g) : Ext w0 (w2.setCell ⟨g, j, none⟩ u) :=
  (Ext.grown (hx.then e) hgr fun k hk => (hr k hk).1).set' hbg u
theorem GSu.set1 {w1 w2 : World} {u : Value} {c' : List Int} (h : GSu w0 H0 K H w g v1 v2 v3 c v p) (e : Ext w w1) (ho : OwnS w0.heap.size H w2 IntR 1 3 u c') (hgr : w1.grownBy w2 v1.ownBlock) :
    Own w2 g #[v1, v2, v3] 41 ∧ Hid (GSu w0 H0 K H (w2.setCell ⟨g, 0, none⟩ u) g u v2 v3 c' v p) := by
  have he := h.ext e
  have hr : ∀ k, v1.ownBlock = some k → w0.heap.size ≤ k ∧ H k = none := fun k hk => ⟨(h.o1.lt k hk).1, (h.o1.lt k hk).2.2⟩
  have hT : ∀ k, v1.ownBlock = some k → ∃ cur, w1.heap[k]? = some (.cells cur 3 (0, 0)) := fun k hk => he.o1.ty hk
  have hne : ∀ {k c}, Own w1 k c 41 → some k ≠ v1.ownBlock := fun {k c} hk e => by
    obtain ⟨cur, h1⟩ := hT k e.symm
    exact ty_ne hk h1 (by decide) rfl
  have hug : ∀ {k c}, Own w2 k c 41 → u.ownBlock ≠ some k := fun {k c} hk e => by
    obtain ⟨cur, h1⟩ := ho.ty e
    exact ty_ne hk h1 (by decide) rfl
  have hO2 := he.ow.grown hgr (hne he.ow)
  have h2 : v2.ownBlock ≠ some g := fun e2 => by
    obtain ⟨cur, h1⟩ := h.o2.ty e2
    exact ty_ne h.ow h1 (by decide) rfl
  refine ⟨hO2, h.l0, h.le, ub_set h.ub h.ex e hgr hr h.ng h.bg, by simpa using hO2.set 0 u, ho.put (hug hO2), (he.o2.stay hgr fun k hk e2 => ?_).put h2, (he.o3.stay hgr fun k hk e2 => ?_).put h.n3, h.bg, h.ng, h.n3, fun x hx => ?_, ex_set h.ex e hgr hr h.bg⟩
  · obtain ⟨cur, h4⟩ := hT k e2
    obtain ⟨cur', h5⟩ := he.o2.ty hk
    exact ty_ne h4 h5 (by decide) rfl
  · obtain ⟨cur, h4⟩ := hT k e2
    obtain ⟨cur', h5⟩ := he.o3.ty hk
    exact ty_ne h4 h5 (by decide) rfl
  · obtain ⟨k1, k2, k3⟩ := he.kk x hx
    exact ⟨(k1.grown hgr (hne k1)).setOther k2 u, k2, k3⟩
theorem GSu.set2 {w1 w2 : World} {u : Value} {v' : List Val} (h : GSu w0 H0 K H w g v1 v2 v3 c v p) (e : Ext w w1) (ho : OwnS w0.heap.size H w2 ValR 3 83 u v') (hgr : w1.grownBy w2 v2.ownBlock) :
    Own w2 g #[v1, v2, v3] 41 ∧ Hid (GSu w0 H0 K H (w2.setCell ⟨g, 1, none⟩ u) g v1 u v3 c v' p) := by
  have he := h.ext e
  have hr : ∀ k, v2.ownBlock = some k → w0.heap.size ≤ k ∧ H k = none := fun k hk => ⟨(h.o2.lt k hk).1, (h.o2.lt k hk).2.2⟩
  have hT : ∀ k, v2.ownBlock = some k → ∃ cur, w1.heap[k]? = some (.cells cur 83 (0, 0)) := fun k hk => he.o2.ty hk
  have hne : ∀ {k c}, Own w1 k c 41 → some k ≠ v2.ownBlock := fun {k c} hk e => by
    obtain ⟨cur, h1⟩ := hT k e.symm
    exact ty_ne hk h1 (by decide) rfl
  have hug : ∀ {k c}, Own w2 k c 41 → u.ownBlock ≠ some k := fun {k c} hk e => by
    obtain ⟨cur, h1⟩ := ho.ty e
    exact ty_ne hk h1 (by decide) rfl
  have hO2 := he.ow.grown hgr (hne he.ow)
  have h2 : v1.ownBlock ≠ some g := fun e2 => by
    obtain ⟨cur, h1⟩ := h.o1.ty e2
    exact ty_ne h.ow h1 (by decide) rfl
  refine ⟨hO2, h.l0, h.le, ub_set h.ub h.ex e hgr hr h.ng h.bg, by simpa using hO2.set 1 u, (he.o1.stay hgr fun k hk e2 => ?_).put h2, ho.put (hug hO2), (he.o3.stay hgr fun k hk e2 => ?_).put h.n3, h.bg, h.ng, h.n3, fun x hx => ?_, ex_set h.ex e hgr hr h.bg⟩
  · obtain ⟨cur, h4⟩ := hT k e2
    obtain ⟨cur', h5⟩ := he.o1.ty hk
    exact ty_ne h4 h5 (by decide) rfl
  · obtain ⟨cur, h4⟩ := hT k e2
    obtain ⟨cur', h5⟩ := he.o3.ty hk
    exact ty_ne h4 h5 (by decide) rfl
  · obtain ⟨k1, k2, k3⟩ := he.kk x hx
    exact ⟨(k1.grown hgr (hne k1)).setOther k2 u, k2, k3⟩
theorem GSu.set3 {w1 w2 : World} {u : Value} {p' : List Thing} (h : GSu w0 H0 K H w g v1 v2 v3 c v p) (e : Ext w w1) (ho : OwnS w0.heap.size H w2 ThingR 3 41 u p') (hgr : w1.grownBy w2 v3.ownBlock) (hk : ∀ k, u.ownBlock = some k → v3.ownBlock = some k ∨ w1.heap.size ≤ k) :
    Own w2 g #[v1, v2, v3] 41 ∧ Hid (GSu w0 H0 K H (w2.setCell ⟨g, 2, none⟩ u) g v1 v2 u c v p') := by
  have he := h.ext e
  have hr : ∀ k, v3.ownBlock = some k → w0.heap.size ≤ k ∧ H k = none := fun k hk => ⟨(h.o3.lt k hk).1, (h.o3.lt k hk).2.2⟩
  have hT : ∀ k, v3.ownBlock = some k → ∃ cur, w1.heap[k]? = some (.cells cur 41 (0, 0)) := fun k hk => he.o3.ty hk
  have hug : u.ownBlock ≠ some g := fun e2 => by
    rcases hk g e2 with h1 | h1
    · exact h.n3 h1
    · have := he.ow.lt; omega
  have hO2 := he.ow.grown hgr (fun e => h.n3 e.symm)
  have h1 : v1.ownBlock ≠ some g := fun e2 => by
    obtain ⟨cur, h1⟩ := h.o1.ty e2
    exact ty_ne h.ow h1 (by decide) rfl
  have h2 : v2.ownBlock ≠ some g := fun e2 => by
    obtain ⟨cur, h1⟩ := h.o2.ty e2
    exact ty_ne h.ow h1 (by decide) rfl
  refine ⟨hO2, h.l0, h.le, ub_set h.ub h.ex e hgr hr h.ng h.bg, by simpa using hO2.set 2 u, (he.o1.stay hgr fun k hk e2 => ?_).put h1, (he.o2.stay hgr fun k hk e2 => ?_).put h2, ho.put hug, h.bg, h.ng, hug, fun x hx => ?_, ex_set h.ex e hgr hr h.bg⟩
  · obtain ⟨cur, h4⟩ := hT k e2
    obtain ⟨cur', h5⟩ := he.o1.ty hk
    exact ty_ne h4 h5 (by decide) rfl
  · obtain ⟨cur, h4⟩ := hT k e2
    obtain ⟨cur', h5⟩ := he.o2.ty hk
    exact ty_ne h4 h5 (by decide) rfl
  · obtain ⟨k1, k2, k3, k4⟩ := he.kk x hx
    refine ⟨(k1.grown hgr (fun e => k3 e.symm)).setOther k2 u, k2, fun e2 => ?_, k4⟩
    rcases hk _ e2 with h5 | h5
    · exact k3 h5
    · have := k1.lt; omega
theorem GSu.rep (h : GSu w0 H0 K H w g v1 v2 v3 c v p) : ThingR (Proofs.YtbpilielamjnoaaGreat.up H0 w0 w) [v1, v2, v3] (.mk c v p) := by
  rw [thingR_iff]
  have key : ∀ {α : Type} {E : PH → List Value → α → Prop} {sz : Nat} {T : TypeId} {u : Value} {xs : List α}, Mono E → OwnS w0.heap.size H w E sz T u xs → SliceRep E sz (Proofs.YtbpilielamjnoaaGreat.up H0 w0 w) u xs := by
    intro α E sz T u xs hm ho
    rcases ho with ⟨rfl, rfl⟩ | ⟨g, cap, cur, rfl, h1, h2, h3, h4, h5, h6, h7⟩
    · exact SliceRep.nil E sz _
    · refine ⟨_, cap, rfl, h4, h5, .inr ⟨g, 0, rfl, h7.row (fun _ _ => hm _ _ _ _ h.ub) fun j u hu => ?_⟩⟩
      have : Proofs.YtbpilielamjnoaaGreat.up H0 w0 w g = some (.cells cur T (0, 0)) := by unfold Proofs.YtbpilielamjnoaaGreat.up; rw [if_neg (by omega)]; exact h3
      simp only [cellAt, this, Nat.zero_add]
      rw [List.getElem?_take] at hu
      split at hu
      · simpa using hu
      · cases hu
  exact ⟨v1, v2, v3, rfl, key mono_IntR h.o1, key mono_ValR h.o2, key mono_ThingR h.o3⟩
end
mutual
def Thing.clsLt (m : Int) : Thing → Prop
  | .mk c _ p => (∀ x ∈ c, x < m) ∧ clsLts m p
def clsLts (m : Int) : List Thing → Prop
  | [] => True
  | x :: xs => x.clsLt m ∧ clsLts m xs
end
theorem clsLts_iff {m : Int} : ∀ {l : List Thing}, clsLts m l ↔ ∀ p ∈ l, p.clsLt m
  | [] => by simp [clsLts]
  | x :: xs => by simp [clsLts, clsLts_iff]
theorem Thing.clsLt_iff (m : Int) (t : Thing) : t.clsLt m ↔ (∀ x ∈ t.cls, x < m) ∧ ∀ p ∈ t.parts, p.clsLt m := by
  cases t with
  | mk c v p => simp only [Thing.clsLt, Thing.cls, Thing.parts, clsLts_iff]
def ordT (k : Nat) (c : List Int) : Prop := ascTx c ∧ ∀ x ∈ c, 0 ≤ x ∧ x < (k : Int)
theorem ordT.put {k : Nat} {c : List Int} (h : ordT k c) : ordT (k + 1) (c ++ [(k : Int)]) := by
  refine ⟨List.pairwise_append.2 ⟨h.1, List.pairwise_singleton _ _, fun a ha b hb => ?_⟩, fun x hx => ?_⟩
  · rw [List.mem_singleton.1 hb]; exact (h.2 a ha).2
  · rcases List.mem_append.1 hx with h1 | h1
    · have := h.2 x h1; omega
    · rw [List.mem_singleton.1 h1]; omega
theorem ordT.skip {k : Nat} {c : List Int} (h : ordT k c) : ordT (k + 1) c := ⟨h.1, fun x hx => by have := h.2 x hx; omega⟩
theorem ordT.inc {k : Nat} {m : Int} {c : List Int} (h : ordT k c) (hm : (k : Int) ≤ m) : Inc c m := by
  intro j hj
  have h1 := h.2 _ (List.getElem_mem hj)
  refine ⟨h1.1, by omega, fun h0 => ?_⟩
  exact ascTx_at h.1 (by omega) hj
def valOk (k : Nat) (v : List Val) : Prop := ordT k (v.map Val.attr) ∧ ∀ x ∈ v, GoodP x.n
theorem valOk.put {k : Nat} {v : List Val} {r : Rat2} (h : valOk k v) (hr : GoodP r) : valOk (k + 1) (v ++ [⟨k, r⟩]) := by
  refine ⟨by rw [List.map_append]; exact h.1.put, fun x hx => ?_⟩
  rcases List.mem_append.1 hx with h1 | h1
  · exact h.2 x h1
  · rw [List.mem_singleton.1 h1]; exact hr
theorem valOk.skip {k : Nat} {v : List Val} (h : valOk k v) : valOk (k + 1) v := ⟨h.1.skip, h.2⟩
def OkT (cl : Int) (d : Nat) (t : Thing) : Prop := t.formed ∧ t.clsLt cl ∧ t.size ≤ 4 ^ (d - 1) ∧ t.deep ≤ d
theorem okT_mk {cl : Int} {d : Nat} {cs : List Int} {vs : List Val} {ps : List Thing} (h1 : ordT cl.toNat cs) (h2 : valOk 3 vs) (h3 : ∀ t ∈ ps, OkT cl (d - 1) t) (h4 : ps.length ≤ 3) (hc1 : cl ≤ 64) (hc0 : 0 ≤ cl) (hd : 1 ≤ d) (h5 : ps = [] ∨ 1 < d) : OkT cl d (.mk cs vs ps) := by
  refine ⟨(Thing.formed_iff _).2 ⟨h2.2, h1.inc (by omega), h2.1.inc (by omega), fun p hp => (h3 p hp).1⟩, (Thing.clsLt_iff _ _).2 ⟨fun x hx => by have := h1.2 x hx; omega, fun p hp => (h3 p hp).2.1⟩, ?_, ?_⟩
  · rw [Thing.size_eq]
    show 1 + sumN Thing.size ps ≤ _
    rcases h5 with rfl | h5
    · have : 0 < 4 ^ (d - 1) := Nat.pow_pos (by omega)
      simp [sumN]; omega
    · have h6 := sumN_const (f := Thing.size) (c := 4 ^ (d - 1 - 1)) (l := ps) fun x hx => (h3 x hx).2.2.1
      have h7 : 0 < 4 ^ (d - 1 - 1) := Nat.pow_pos (by omega)
      have h8 : 4 ^ (d - 1) = 4 ^ (d - 1 - 1) * 4 := by rw [← Nat.pow_succ]; congr 1; omega
      generalize 4 ^ (d - 1 - 1) = x at *
      have h9 : ps.length * x ≤ 3 * x := Nat.mul_le_mul_right _ h4
      omega
  · rw [Thing.deep_eq]
    show 1 + maxN Thing.deep ps ≤ d
    rcases h5 with rfl | h5
    · simp [maxN]; omega
    · have : maxN Thing.deep ps ≤ d - 1 := maxN_le fun x hx => (h3 x hx).2.2.2
      omega
def NewT (w : World) (b : Nat) (cl : Int) (d : Nat) (cs : List Value) (w' : World) : Prop := ∃ t, ThingR (up noH w w') cs t ∧ t.bulk ≤ b ∧ OkT cl d t
def SomeTnP (w : World) (b n : Nat) (cl : Int) (d : Nat) (e : Ending) (w' : World) : Prop :=
  ∃ (cs : List Value) (nx : Nat), e = .returned (.tuple #[.agg cs.toArray, .int .i64 nx]) ∧ NewT w b cl d cs w' ∧ nx ≤ n + 5 ∧ Ext w w'
abbrev zeroT : Array Value := #[.slice none 0 0, .slice none 0 0, .slice none 0 0]
theorem GSu.start (w : World) : GSu w noH [(w.heap.size, zeroT)] noH ((w.alloc (.cells zeroT 41)).alloc (.cells zeroT 41)) (w.heap.size + 1) (.slice none 0 0) (.slice none 0 0) (.slice none 0 0) [] [] [] :=
  ⟨noH_le _, noH_le _, noH_le _, Own.new' _ _ _ (by simp), OwnS.nil _ _ _ _ _ _, OwnS.nil _ _ _ _ _ _, OwnS.nil _ _ _ _ _ _, by omega, rfl, by simp [Value.ownBlock],
    fun x hx => by obtain rfl := List.mem_singleton.1 hx; exact ⟨(Own.new w _ _).alloc _, by simp, by simp [Value.ownBlock], rfl⟩, xE⟩
def GS (w0 : World) (H0 : PH) (K : List (Nat × Array Value)) (w : World) (g nc nv np bk : Nat) (Q : List Int → List Val → List Thing → Prop) : Prop :=
  ∃ H v1 v2 v3 c v p, GSu w0 H0 K H w g v1 v2 v3 c v p ∧ c.length ≤ nc ∧ v.length ≤ nv ∧ p.length ≤ np ∧ sumN Thing.bulk p ≤ bk ∧ Q c v p
theorem infoVal : (Tryz.prog.info? 83).map (fun i => (i.zero, i.size, i.bytes)) = some (some (.agg #[.int .i64 0, .int .i64 0, .int .i64 0]), 3, 24) := by kernel_rfl
theorem one_ValR {h : PH} : ∀ cs x, ValR h cs x → ∀ u ∈ cs, u.oneCell' = true := by
  rintro cs x ⟨rfl, -⟩ u hu
  simp at hu
  rcases hu with rfl | rfl | rfl <;> rfl
theorem ratios8 (q : Nat) (h : q < 8) : ∃ rn rd : Int, (#[.int .i64 0, .int .i64 1, .int .i64 1, .int .i64 1, .int .i64 1, .int .i64 2, .int .i64 3, .int .i64 2, .int .i64 2, .int .i64 1, .int .i64 (-1), .int .i64 1, .int .i64 5, .int .i64 1, .int .i64 7, .int .i64 3] : Array Value)[q * 2]? = some (.int .i64 rn) ∧
    (#[.int .i64 0, .int .i64 1, .int .i64 1, .int .i64 1, .int .i64 1, .int .i64 2, .int .i64 3, .int .i64 2, .int .i64 2, .int .i64 1, .int .i64 (-1), .int .i64 1, .int .i64 5, .int .i64 1, .int .i64 7, .int .i64 3] : Array Value)[q * 2 + 1]? = some (.int .i64 rd) ∧ I64 rn ∧ I64 rd ∧ GoodP ⟨rn, rd⟩ := by
  unfold I64
  match q, h with
  | 0, _ => exact ⟨_, _, rfl, rfl, by omega, by omega, by unfold GoodP; decide⟩
  | 1, _ => exact ⟨_, _, rfl, rfl, by omega, by omega, by unfold GoodP; decide⟩
  | 2, _ => exact ⟨_, _, rfl, rfl, by omega, by omega, by unfold GoodP; decide⟩
  | 3, _ => exact ⟨_, _, rfl, rfl, by omega, by omega, by unfold GoodP; decide⟩
  | 4, _ => exact ⟨_, _, rfl, rfl, by omega, by omega, by unfold GoodP; decide⟩
  | 5, _ => exact ⟨_, _, rfl, rfl, by omega, by omega, by unfold GoodP; decide⟩
  | 6, _ => exact ⟨_, _, rfl, rfl, by omega, by omega, by unfold GoodP; decide⟩
  | 7, _ => exact ⟨_, _, rfl, rfl, by omega, by omega, by unfold GoodP; decide⟩
theorem infoThing : (Tryz.prog.info? 41).map (fun i => (i.zero, i.size, i.bytes)) = some (some (.agg #[.slice none 0 0, .slice none 0 0, .slice none 0 0]), 3, 72) := by kernel_rfl
theorem one_ThingR {h : PH} : ∀ cs x, ThingR h cs x → ∀ u ∈ cs, u.oneCell' = true := by
  intro cs x hr u hu
  obtain ⟨a1, c1, a2, c2, a3, c3, rfl, -⟩ := hr.form
  simp at hu
  rcases hu with rfl | rfl | rfl <;> rfl
theorem up_noH {H : PH} {w w' : World} : PLe (up noH w w') (up H w w') := up_mono (noH_le H)
theorem tsome_bulk {d k : Nat} {c : List Int} {v : List Val} {p : List Thing} (q1 : c.length ≤ 64) (q2 : v.length ≤ 3) (q4 : sumN Thing.bulk p ≤ k * (68 * 4 ^ (d - 1))) (hk : k ≤ 3) (hkd : k = 0 ∨ 1 < d) : (Thing.mk c v p).bulk ≤ 68 * 4 ^ d := by
  rw [Thing.bulk_eq]
  simp only [Thing.cls, Thing.vals, Thing.parts]
  have hp : 0 < 4 ^ d := Nat.pow_pos (by omega)
  rcases hkd with rfl | h1
  · omega
  · obtain ⟨e, rfl⟩ : ∃ e, d = e + 1 := ⟨d - 1, by omega⟩
    rw [Nat.add_sub_cancel] at q4
    rw [Nat.pow_succ]
    have hp : 0 < 4 ^ e := Nat.pow_pos (by omega)
    generalize 4 ^ e = x at *
    have : k * (68 * x) ≤ 3 * (68 * x) := Nat.mul_le_mul_right _ hk
    omega
theorem tsumN_snoc {α : Type} (f : α → Nat) (l : List α) (x : α) : sumN f (l ++ [x]) = sumN f l + f x := by
  induction l with
  | nil => simp [sumN]
  | cons y ys ih => simp only [List.cons_append, sumN, ih]; omega
theorem GSu.setK {w0 : World} {H0 : PH} {H : PH} {w : World} {g b : Nat} {cb : Array Value} {v1 v2 v3 : Value} {c : List Int} {v : List Val} {p : List Thing} (h : GSu w0 H0 [(b, cb)] H w g v1 v2 v3 c v p) (hb : w0.heap.size ≤ b) (j : Nat) (u : Value) :
    GSu w0 H0 [(b, cb.setIfInBounds j u)] H (w.setCell ⟨b, j, none⟩ u) g v1 v2 v3 c v p := by
  obtain ⟨k1, k2, k3, k4⟩ := h.kk _ (List.mem_singleton.2 rfl)
  have h1 : v1.ownBlock ≠ some b := fun e2 => by
    obtain ⟨cur, h1⟩ := h.o1.ty e2
    exact ty_ne k1 h1 (by decide) rfl
  have h2 : v2.ownBlock ≠ some b := fun e2 => by
    obtain ⟨cur, h1⟩ := h.o2.ty e2
    exact ty_ne k1 h1 (by decide) rfl
  refine ⟨h.l0, h.le, ?_, h.ow.setOther (Ne.symm k2) u, h.o1.put h1, h.o2.put h2, h.o3.put k3, h.bg, h.ng, h.n3, fun x hx => ?_, h.ex.set' hb u⟩
  · intro k o hk
    have h1 := h.ub k o hk
    unfold Proofs.YtbpilielamjnoaaGreat.up at *
    split
    · rename_i hl; rw [if_pos hl] at h1; exact h1
    · rename_i hl; rw [if_neg hl] at h1
      show (w.setCell ⟨b, j, none⟩ u).heap[k]? = some o
      rw [Below.heap_setCell _ _ _ _ (fun he => by rw [he] at hk; rw [k4] at hk; cases hk)]
      exact h1
  · obtain rfl := List.mem_singleton.1 hx
    exact ⟨k1.set j u, k2, k3, k4⟩
theorem GSu.gs {w0 : World} {H0 : PH} {K : List (Nat × Array Value)} {H : PH} {w : World} {g nc nv np bk : Nat} {v1 v2 v3 : Value} {c : List Int} {v : List Val} {p : List Thing} (h : GSu w0 H0 K H w g v1 v2 v3 c v p) (q1 : c.length ≤ nc) (q2 : v.length ≤ nv) (q3 : p.length ≤ np) (q4 : sumN Thing.bulk p ≤ bk) {Q : List Int → List Val → List Thing → Prop} (q5 : Q c v p) : GS w0 H0 K w g nc nv np bk Q :=
  ⟨H, v1, v2, v3, c, v, p, h, q1, q2, q3, q4, q5⟩
set_option maxRecDepth 100000 in
set_option maxHeartbeats 2000000 in
theorem tsome_c (l : List Int) (vl : Value) (hlen : l.length ≤ 140737488355328) (d : Nat) : d ≤ 4 → 1 ≤ d → ∀ (at_ : Nat) (cl : Int) (w : World), IntsR (ph w) vl l → 0 ≤ cl → cl ≤ 64 → at_ ≤ l.length →
    Calls Tryz.prog 49 #[vl, .int .i64 at_, .int .i64 cl, .int .i64 d] w (SomeTnP w (68 * 4 ^ d) l.length cl d) := by
  induction d using Nat.strongRecOn with
  | ind d ih =>
    intro hd hd1 at_ cl w hl hc0 hc1 hat
    have HI := Lib.hid (fun h : 1 < d => ih (d - 1) (by omega) (by omega) (by omega)); clear ih
    obtain ⟨a, c, rfl, hll, hl⟩ := hl.form
    have hS := GSu.start w
    go_enter Tryz.func49, Tryz.ntmps49
    go_wp2_with fail
    refine (pick1_c l _ at_ 1048576 _ (hl.mono mono_IntR (Ext.ple xE)) (by unfold I64; omega) (by omega) (by omega)).mono ?_
    rintro e w1 ⟨n, rfl, hn0, hn1, hb1⟩
    replace hS := hS.ext hb1
    clear hb1
    go_wp2_with fail
    go_loopw [12] (fun i wr => ∃ k : Nat, (k : Int) ≤ cl ∧ i = .int .i64 k ∧ GS w noH [(w.heap.size, zeroT)] wr (w.heap.size + 1) k 0 0 0 (fun c v p => ordT k c ∧ v = [] ∧ p = [])) (fun i _ => 64 - (intOf i).toNat)
    case atStart => exact ⟨0, by omega, rfl, _, _, _, _, _, _, _, hS, by simp, by simp, by simp, by simp [sumN], ⟨List.Pairwise.nil, by simp⟩, rfl, rfl⟩
    case round =>
      clear hS
      obtain ⟨k, hk, rfl, H, v1, v2, v3, cs, vs, ps, hS, q1, q2, q3, q4, q5⟩ := hrel
      by_cases hlt : (k : Int) < cl
      · obtain ⟨a1, c1, rfl, l1⟩ := hS.o1.form
        obtain ⟨hoc, hof⟩ := hS.ow.facts
        have hgl := hS.ow.lt
        cases hq : ((n / 2 ^ (k % 20)).tmod 3 == 1) with
        | true =>
          go_wp2_with (at_builtin; refine wpList_append_S (E := IntR) (H := H) (base := w.heap.size) (ys := [(k : Int)]) rfl _ _ 22 3 rfl (.int .i64 0) 8 Tryz.underlying22 infoInt rfl rfl rfl (hS.o1.keep xE) (Src.lit1 ⟨rfl, by unfold I64; omega⟩ rfl (fun j => by simp [go_sem])) (hS.ple.trans (Ext.ple xE)) ?c2 one_IntR ?c3 ?c4 ?c5)
          case c2 => have := hS.ex.size; simp; omega
          case c3 => simp; omega
          case c4 => simp; omega
          case c5 =>
            intro l' w2 hl1 hg1 hn1
            obtain ⟨hO2, hR⟩ := hS.set1 (Ext.new _ _) hl1 hg1
            obtain ⟨a', c', rfl, -⟩ := hl1.form
            obtain ⟨hoc2, hof2⟩ := hO2.facts
            have hgl2 := hO2.lt
            clear hS hg1 hn1 hoc hof hl1
            go_wp2_with fail
            go_roundw
            case rel =>
              have hR2 := hR.out
              rw [List.length_append, List.length_singleton] at hR2
              exact ⟨k + 1, by omega, by go_num, hR2.gs (by simp; omega) q2 q3 q4 ⟨q5.1.put, q5.2⟩⟩
            case measure => simp [intOf]; omega
        | false =>
          go_wp2_with fail
          go_roundw
          case rel => exact ⟨k + 1, by omega, by go_num, hS.gs (by omega) q2 q3 q4 ⟨q5.1.skip, q5.2⟩⟩
          case measure => simp [intOf]; omega
      · have hc : cs.length ≤ 64 := by omega
        have q5' : ordT cl.toNat cs ∧ valOk 0 vs ∧ ps = [] := by
          obtain ⟨q6, rfl, rfl⟩ := q5
          have hkc : cl.toNat = k := by omega
          rw [hkc]; exact ⟨q6, ⟨⟨List.Pairwise.nil, by simp⟩, by simp⟩, rfl⟩
        clear q1 hk q5
        go_wp2_with fail
        go_loopw [1, 13] (fun i j wr => ∃ k : Nat, k ≤ 3 ∧ i = .int .i64 (at_ + 1 + k : Nat) ∧ j = .int .i64 k ∧ GS w noH [(w.heap.size, zeroT)] wr (w.heap.size + 1) 64 k 0 0 (fun c v p => ordT cl.toNat c ∧ valOk k v ∧ p = [])) (fun _ j _ => 3 - (intOf j).toNat)
        case atStart => exact ⟨0, by omega, by go_num, rfl, hS.gs hc q2 q3 q4 q5'⟩
        case round =>
          clear hS hc q2 q3 q4 q5'
          obtain ⟨k, hk, rfl, rfl, H, v1, v2, v3, cs, vs, ps, hS, q1, q2, q3, q4, q5⟩ := hrel
          by_cases hlt : k < 3
          · have hx := hS.ex
            go_wp2_with fail
            refine (pick1_c l _ (at_ + 1 + k : Nat) 1048576 _ (hl.mono mono_IntR (Ext.ple xE)) (by unfold I64; omega) (by omega) (by omega)).mono ?_
            rintro e w2 ⟨m, rfl, hm0, hm1, hb2⟩
            replace hS := hS.ext hb2
            clear hb2 hx
            obtain ⟨a1, c1, rfl, l1⟩ := hS.o2.form
            obtain ⟨hoc, hof⟩ := hS.ow.facts
            have hgl := hS.ow.lt
            have hgl3 : w.heap.size < w2.heap.size := by omega
            cases hq : (m % 3 == 0) with
            | true =>
              have ik : I64 (k : Int) := by unfold I64; omega
              obtain ⟨rn, rd, hr0, hr1, i0, i1, hgd⟩ := ratios8 (m / 3 % 8).toNat (by omega)
              have hr2 : (w2.alloc (.cells #[.int .i64 0, .int .i64 1, .int .i64 1, .int .i64 1, .int .i64 1, .int .i64 2, .int .i64 3, .int .i64 2, .int .i64 2, .int .i64 1, .int .i64 (-1), .int .i64 1, .int .i64 5, .int .i64 1, .int .i64 7, .int .i64 3] 81)).cell? ⟨w2.heap.size, (m / 3 % 8).toNat * 2, none⟩ = some (.int .i64 rn) := by rw [(Own.new _ _ _).facts.1]; exact hr0
              have hr3 : (w2.alloc (.cells #[.int .i64 0, .int .i64 1, .int .i64 1, .int .i64 1, .int .i64 1, .int .i64 2, .int .i64 3, .int .i64 2, .int .i64 2, .int .i64 1, .int .i64 (-1), .int .i64 1, .int .i64 5, .int .i64 1, .int .i64 7, .int .i64 3] 81)).cell? ⟨w2.heap.size, (m / 3 % 8).toNat * 2 + 1, none⟩ = some (.int .i64 rd) := by rw [(Own.new _ _ _).facts.1]; exact hr1
              clear hr0 hr1
              go_wp2_with (at_builtin; refine wpList_append_S (E := ValR) (H := H) (base := w.heap.size) (ys := [⟨k, ⟨rn, rd⟩⟩]) rfl _ _ 38 83 rfl (.agg #[.int .i64 0, .int .i64 0, .int .i64 0]) 24 Tryz.underlying38 infoVal rfl rfl rfl (hS.o2.keep xE) (Src.lit1 ⟨rfl, ik, i0, i1⟩ rfl (fun j => by simp [go_sem])) (hS.ple.trans (Ext.ple xE)) ?c2 one_ValR ?c3 ?c4 ?c5)
              case c2 => have := hS.ex.size; simp; omega
              case c3 => simp; omega
              case c4 => simp; omega
              case c5 =>
                intro l' w3 hl1 hg1 hn1
                obtain ⟨hO2, hR⟩ := hS.set2 (w1 := ((w2.alloc _).alloc _).alloc _) xE hl1 hg1
                obtain ⟨a', c', rfl, -⟩ := hl1.form
                obtain ⟨hoc2, hof2⟩ := hO2.facts
                have hgl2 := hO2.lt
                clear hS hg1 hn1 hoc hof hl1 hr2 hr3
                go_wp2_with fail
                go_roundw
                case rel =>
                  have hR2 := hR.out
                  rw [List.length_append, List.length_singleton] at hR2
                  exact ⟨k + 1, by omega, by go_num, by go_num, hR2.gs q1 (by simp; omega) q3 q4 ⟨q5.1, q5.2.1.put hgd, q5.2.2⟩⟩
                case measure => simp [intOf]; omega
            | false =>
              go_wp2_with fail
              go_roundw
              case rel => exact ⟨k + 1, by omega, by go_num, by go_num, hS.gs q1 (by omega) q3 q4 ⟨q5.1, q5.2.1.skip, q5.2.2⟩⟩
              case measure => simp [intOf]; omega
          · obtain rfl : k = 3 := by omega
            have hx := hS.ex
            go_wp2_with fail
            refine (pick1_c l _ (at_ + 1 + 3 : Nat) 4 _ (hl.mono mono_IntR (Ext.ple xE)) (by unfold I64; omega) (by omega) (by omega)).mono ?_
            rintro e w2 ⟨m, rfl, hm0, hm1, hb2⟩
            replace hS := hS.ext hb2
            clear hb2 hx
            go_wp2_with fail
            go_loopw [1, 17] (fun i j wr => ∃ at2 k : Nat, at2 ≤ l.length + 5 ∧ (k : Int) ≤ m ∧ (k = 0 ∨ 1 < d) ∧ i = .int .i64 at2 ∧ j = .int .i64 k ∧ GS w noH [(w.heap.size, zeroT)] wr (w.heap.size + 1) 64 3 k (k * (68 * 4 ^ (d - 1))) (fun c v p => ordT cl.toNat c ∧ valOk 3 v ∧ ∀ t ∈ p, OkT cl (d - 1) t)) (fun _ j _ => 4 - (intOf j).toNat)
            case atStart => exact ⟨at_ + 1 + 3 + 1, 0, by omega, by omega, .inl rfl, by go_num, rfl, hS.gs q1 q2 q3 (by omega) ⟨q5.1, q5.2.1, by rw [q5.2.2]; simp⟩⟩
            case round =>
              clear hS q1 q2 q3 q4 q5
              obtain ⟨at2, k, hat2, hk, hkd, rfl, rfl, H, v1, v2, v3, cs, vs, ps, hS, q1, q2, q3, q4, q5⟩ := hrel
              have hbk := Lib.hid (tsome_bulk q1 q2 q4 (by omega) hkd)
              have hok := Lib.hid (okT_mk q5.1 q5.2.1 q5.2.2 (by omega) hc1 (by omega) hd1 (show ps = [] ∨ 1 < d by rcases hkd with h | h; exact .inl (List.length_eq_zero_iff.1 (by omega)); exact .inr h))
              obtain ⟨hoc, hof⟩ := hS.ow.facts
              have hgl := hS.ow.lt
              have hgl3 : w.heap.size < wr.heap.size := by omega
              by_cases hgo : (k : Int) < m ∧ 1 < (d : Int) ∧ (at2 : Int) < l.length
              · obtain ⟨g1, g2, g3⟩ := hgo
                have hx := hS.ex
                have hdd : ((d : Int) - 1) = ((d - 1 : Nat) : Int) := by omega
                go_wp2_with fail
                refine (HI.out (by omega) at2 cl _ (hl.mono mono_IntR (Ext.ple xE)) hc0 hc1 (by omega)).mono ?_
                rintro e w3 ⟨cs', nx, rfl, ⟨t, hT, hTb, hTo⟩, hnx, hb3⟩
                obtain ⟨b1, d1, b2, d2, b3, d3, rfl, -⟩ := hT.form
                replace hT : ThingR (up H wr w3) _ t := mono_ThingR _ _ _ _ up_noH hT
                replace hS := hS.up hb3
                clear hoc hof hgl hgl3 hx hb3
                obtain ⟨hoc, hof⟩ := hS.ow.facts
                have hgl := hS.ow.lt
                have hgl3 : w.heap.size < w3.heap.size := by omega
                obtain ⟨p1, p2, rfl, l3⟩ := hS.o3.form
                have q4' : sumN Thing.bulk (ps ++ [t]) ≤ (k + 1) * (68 * 4 ^ (d - 1)) := by
                  rw [Nat.add_mul]
                  have := tsumN_snoc Thing.bulk ps t
                  omega
                replace q4' := Lib.hid q4'
                go_wp2_with (at_builtin; refine wpList_append_S (E := ThingR) (H := up H wr w3) (base := w.heap.size) (ys := [t]) rfl _ _ 39 41 rfl (.agg #[.slice none 0 0, .slice none 0 0, .slice none 0 0]) 72 Tryz.underlying39 infoThing rfl rfl rfl (hS.o3.keep xE) (Src.lit1 hT rfl (fun j => by simp [go_sem])) (hS.ple.trans (Ext.ple xE)) ?c2 one_ThingR ?c3 ?c4 ?c5)
                case c2 => have := hS.ex.size; simp; omega
                case c3 => simp; omega
                case c4 => simp; omega
                case c5 =>
                  intro l' w4 hl1 hg1 hn1
                  obtain ⟨hO2, hR⟩ := hS.set3 (w1 := (w3.alloc _).alloc _) xE hl1 hg1 (by simpa using hn1)
                  obtain ⟨a', c', rfl, -⟩ := hl1.form
                  obtain ⟨hoc2, hof2⟩ := hO2.facts
                  have hgl2 := hO2.lt
                  clear hS hg1 hn1 hoc hof hl1
                  go_wp2_with fail
                  go_roundw
                  case rel =>
                    have hR2 := hR.out
                    rw [List.length_append, List.length_singleton] at hR2
                    exact ⟨nx, k + 1, hnx, by omega, .inr (by omega), rfl, by go_num, hR2.gs q1 q2 (by simp; omega) q4'.out ⟨q5.1, q5.2.1, fun x hx => by
                      rcases List.mem_append.1 hx with h | h
                      · exact q5.2.2 x h
                      · rw [List.mem_singleton.1 h]; exact hTo⟩⟩
                  case measure => simp [intOf]; omega
              · obtain ⟨hKo, -, -, -⟩ := hS.kk _ (List.mem_singleton.2 rfl)
                have hKl := hKo.lt
                have h3 : ¬ (k : Int) < m ∨ (k : Int) < m ∧ ¬ 1 < (d : Int) ∨ (k : Int) < m ∧ 1 < (d : Int) ∧ ¬ (at2 : Int) < l.length := by omega
                obtain ⟨a1, c1, rfl, -⟩ := hS.o1.form
                obtain ⟨a2, c2, rfl, -⟩ := hS.o2.form
                obtain ⟨a3, c3, rfl, -⟩ := hS.o3.form
                obtain ⟨hKc, hKf⟩ := hKo.facts
                have hx := hS.ex
                have hfin := ((hS.setK (Nat.le_refl _) 0 (.slice a1 cs.length c1)).setK (Nat.le_refl _) 1 (.slice a2 vs.length c2)).setK (Nat.le_refl _) 2 (.slice a3 ps.length c3)
                have hrep := Lib.hid hfin.rep
                have hex := Lib.hid hfin.ex
                rcases h3 with g1 | ⟨g1, g2⟩ | ⟨g1, g2, g3⟩
                all_goals
                  go_wp2_with fail
                  exact bodyPost_ret (v := .tuple #[.agg #[.slice a1 cs.length c1, .slice a2 vs.length c2, .slice a3 ps.length c3], .int .i64 at2]) (by simp [results, Tryz.results49, go_sem, hKc, hKf, hKl]) rfl
                    ⟨[_, _, _], at2, rfl, ⟨_, hrep.out, hbk.out, hok.out⟩, hat2, hex.out⟩
theorem up_noH_mono {w wc w1 w2 : World} (h : w.heap.size ≤ wc.heap.size) (hs : ∀ k, wc.heap.size ≤ k → k < w1.heap.size → w2.heap[k]? = w1.heap[k]?) : PLe (up noH wc w1) (up noH w w2) := by
  intro k o hk
  unfold up at *
  by_cases hl : k < wc.heap.size
  · rw [if_pos hl] at hk; cases hk
  · rw [if_neg hl] at hk
    rw [if_neg (by omega)]
    show w2.heap[k]? = some o
    rw [hs k (by omega) (ph_lt hk)]
    exact hk
def SomeTP (w : World) (b : Nat) (cl : Int) (d : Nat) (e : Ending) (w' : World) : Prop := ∃ cs : List Value, e = .returned (.agg cs.toArray) ∧ NewT w b cl d cs w' ∧ Ext w w'
set_option maxHeartbeats 400000 in
theorem someT_c (l : List Int) (vl : Value) (cl : Int) (d : Nat) (w : World) (hlen : l.length ≤ 140737488355328) (hd : d ≤ 4) (hd1 : 1 ≤ d) (hl : IntsR (ph w) vl l) (hc0 : 0 ≤ cl) (hc1 : cl ≤ 64) :
    Calls Tryz.prog 20 #[vl, .int .i64 cl, .int .i64 d] w (SomeTP w (68 * 4 ^ d) cl d) := by
  obtain ⟨a, c, rfl, hll, hl⟩ := hl.form
  go_enter Tryz.func20, Tryz.ntmps20
  go_wp2_with fail
  refine (tsome_c l _ hlen d hd hd1 0 cl _ (hl.mono mono_IntR (Ext.ple xE)) hc0 hc1 (by omega)).mono ?_
  rintro e w1 ⟨cs, nx, rfl, ⟨t, hT, hTb, hTo⟩, hnx, hb1⟩
  obtain ⟨b1, d1, b2, d2, b3, d3, rfl, -⟩ := hT.form
  have hO : Own w1 w.heap.size zeroT 41 := Own.keep (Own.new _ _ _) hb1
  have hb : Ext w w1 := xE
  have hs1 : w.heap.size + 1 ≤ w1.heap.size := by have := hb1.size; simpa using this
  obtain ⟨hoc, hof⟩ := hO.facts
  have hol := hO.lt
  generalize hB : 68 * 4 ^ d = bb at *
  clear hb1 hB
  go_wp2_with fail
  refine bodyPost_ret (v := .agg #[.slice b1 t.cls.length d1, .slice b2 t.vals.length d2, .slice b3 t.parts.length d3]) (by simp [results, Tryz.results20, go_sem, hoc, hof, hol]) rfl
    ⟨[_, _, _], rfl, ⟨t, mono_ThingR _ _ _ _ (up_noH_mono (by simp) fun k h1 h2 => ?_) hT, hTb, hTo⟩, xE⟩
  have h1' : w.heap.size + 1 ≤ k := by simpa using h1
  rw [(Ext.new _ _).block k (by simpa using h2), Below.heap_setCell _ _ _ _ (by simp; omega), Below.heap_setCell _ _ _ _ (by simp; omega), Below.heap_setCell _ _ _ _ (by simp; omega)]
end Go.Proofs.YtbpilielamjnoaaGreat
