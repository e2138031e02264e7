/- Lemmas for FY, part 12: things: representation, Value, Valid (Thing, Value and Formed in one text, for the seats of claims and formula, and more. -/
import Derived.Deep.CutBlock
import Derived.Laws.EntriesVeiled
import Derived.Test.YtnpnjcaomakehaaGreatFY00
import Derived.Test.YtnpnjcaomakehaaGreatFY02
import Derived.Test.YtnpnjcaomakehaaGreatFY03
import Derived.Test.YtnpnjcaomakehaaGreatFY04
import Derived.Test.YtnpnjcaomakehaaGreatFY06
import Derived.Test.YtnpnjcaomakehaaGreatFY07
set_option linter.unusedSimpArgs false
set_option linter.unusedVariables false
namespace Go.Proofs.YtnpnjcaomakehaaGreat
open Go.RowKit
def GoodP (r : Rat2) : Prop := RatOk r ∧ r.den ≤ 65536
structure Val where
  attr : Int
  n : Rat2
  deriving DecidableEq
inductive Thing where
  | mk (cls : List Int) (vals : List Val) (parts : List Thing)
def Thing.cls : Thing → List Int | .mk c _ _ => c
def Thing.vals : Thing → List Val | .mk _ v _ => v
def Thing.parts : Thing → List Thing | .mk _ _ p => p
theorem Thing.ind {P : Thing → Prop} (h : ∀ t, (∀ p ∈ t.parts, P p) → P t) (t : Thing) : P t := by
  induction t using Thing.rec (motive_2 := fun xs => ∀ x ∈ xs, P x) with
  | mk cls vals parts ih => exact h _ ih
  | nil => intros; contradiction
  | cons x xs h1 h2 =>
    rename_i y hy
    rcases List.mem_cons.1 hy with rfl | hy
    · exact h1
    · exact h2 y hy
def ValR (_ : PH) (cs : List Value) (v : Val) : Prop := cs = [.int .i64 v.attr, .int .i64 v.n.num, .int .i64 v.n.den] ∧ I64 v.attr ∧ I64 v.n.num ∧ I64 v.n.den
abbrev ValsR : PH → Value → List Val → Prop := SliceRep ValR 3
theorem mono_ValR : Mono ValR := fun _ _ _ _ _ h => h
mutual
def ThingR (h : PH) : List Value → Thing → Prop
  | cs, .mk cls vals parts => ∃ v1 v2 a3 c3, cs = [v1, v2, .slice a3 parts.length c3] ∧ IntsR h v1 cls ∧ ValsR h v2 vals ∧
      parts.length ≤ c3 ∧ c3 ≤ maxLen ∧ (parts = [] ∨ ∃ b o, a3 = some ⟨b, o, none⟩ ∧ ThingsAt h b o parts)
def ThingsAt (h : PH) (b : Nat) : Nat → List Thing → Prop
  | _, [] => True
  | o, x :: xs => (∃ cs, cs.length = 3 ∧ (∀ j, j < 3 → cellAt h b (o + j) = some (cs.getD j undef)) ∧ ThingR h cs x) ∧ ThingsAt h b (o + 3) xs
end
abbrev ThingsR : PH → Value → List Thing → Prop := SliceRep ThingR 3
theorem thingsAt_eq {h : PH} {b : Nat} : ∀ {xs : List Thing} {o : Nat}, ThingsAt h b o xs ↔ RowRep h ThingR 3 b o xs
  | [], o => by simp [ThingsAt, RowRep]
  | x :: xs, o => by simp [ThingsAt, RowRep, thingsAt_eq]
theorem thingR_iff {h : PH} {cs : List Value} {t : Thing} : ThingR h cs t ↔ ∃ v1 v2 v3, cs = [v1, v2, v3] ∧ IntsR h v1 t.cls ∧ ValsR h v2 t.vals ∧ ThingsR h v3 t.parts := by
  cases t with
  | mk cls vals parts =>
    simp only [ThingR, thingsAt_eq, Thing.cls, Thing.vals, Thing.parts]
    constructor
    · rintro ⟨v1, v2, a3, c3, rfl, h1, h2, h3, h4, h5⟩
      exact ⟨v1, v2, _, rfl, h1, h2, a3, c3, rfl, h3, h4, h5⟩
    · rintro ⟨v1, v2, v3, rfl, h1, h2, a3, c3, rfl, h3, h4, h5⟩
      exact ⟨v1, v2, a3, c3, rfl, h1, h2, h3, h4, h5⟩
theorem mono_ThingR : Mono ThingR := by
  intro h h' cs x hl
  induction x using Thing.ind generalizing cs with
  | h t ih =>
    rw [thingR_iff, thingR_iff]
    rintro ⟨v1, v2, v3, h1, h2, h3, h4⟩
    exact ⟨v1, v2, v3, h1, h2.mono mono_IntR hl, h3.mono mono_ValR hl, h4.mono' hl fun cs x hx => ih x hx cs⟩
theorem ThingR.form {h : PH} {cs : List Value} {t : Thing} (hr : ThingR h cs t) : ∃ a1 c1 a2 c2 a3 c3, cs = [.slice a1 t.cls.length c1, .slice a2 t.vals.length c2, .slice a3 t.parts.length c3] ∧
    t.cls.length ≤ 9223372036854775807 ∧ t.vals.length ≤ 9223372036854775807 ∧ t.parts.length ≤ 9223372036854775807 ∧
    IntsR h (.slice a1 t.cls.length c1) t.cls ∧ ValsR h (.slice a2 t.vals.length c2) t.vals ∧ ThingsR h (.slice a3 t.parts.length c3) t.parts := by
  rw [thingR_iff] at hr
  obtain ⟨v1, v2, v3, rfl, h1, h2, h3⟩ := hr
  obtain ⟨a1, c1, rfl, b1, h1⟩ := h1.form
  obtain ⟨a2, c2, rfl, b2, h2⟩ := h2.form
  obtain ⟨a3, c3, rfl, b3, h3⟩ := h3.form
  exact ⟨a1, c1, a2, c2, a3, c3, rfl, b1, b2, b3, h1, h2, h3⟩
theorem ThingsR.at {w : World} {a : Option Addr} {n cap : Nat} {xs : List Thing} (hr : ThingsR (ph w) (.slice a n cap) xs) (k : Nat) (hk : k < xs.length) :
    ∃ b o a1 c1 a2 c2 a3 c3, a = some ⟨b, o, none⟩ ∧ w.cell? ⟨b, o + k * 3, none⟩ = some (.slice a1 xs[k].cls.length c1) ∧ w.cell? ⟨b, o + k * 3 + 1, none⟩ = some (.slice a2 xs[k].vals.length c2) ∧
      w.cell? ⟨b, o + k * 3 + 2, none⟩ = some (.slice a3 xs[k].parts.length c3) ∧ ThingR (ph w) [.slice a1 xs[k].cls.length c1, .slice a2 xs[k].vals.length c2, .slice a3 xs[k].parts.length c3] xs[k] ∧ b < w.heap.size := by
  obtain ⟨b, o, c, d, e, h1, h2, h3, h4, h5⟩ := SliceRep.get3 hr k hk
  obtain ⟨a1, c1, a2, c2, a3, c3, h6, -⟩ := h5.form
  injection h6 with h7 h8
  injection h8 with h8 h9
  injection h9 with h9 _
  subst h7 h8 h9
  exact ⟨b, o, a1, c1, a2, c2, a3, c3, h1, h2, h3, h4, h5, cell_lt h2⟩
theorem ValsR.at {w : World} {a : Option Addr} {n cap : Nat} {xs : List Val} (hr : ValsR (ph w) (.slice a n cap) xs) (k : Nat) (hk : k < xs.length) :
    ∃ b o, a = some ⟨b, o, none⟩ ∧ w.cell? ⟨b, o + k * 3, none⟩ = some (.int .i64 xs[k].attr) ∧ w.cell? ⟨b, o + k * 3 + 1, none⟩ = some (.int .i64 xs[k].n.num) ∧
      w.cell? ⟨b, o + k * 3 + 2, none⟩ = some (.int .i64 xs[k].n.den) ∧ I64 xs[k].attr ∧ I64 xs[k].n.num ∧ I64 xs[k].n.den ∧ b < w.heap.size := by
  obtain ⟨b, o, c, d, e, h1, h2, h3, h4, h5, h6⟩ := SliceRep.get3 hr k hk
  injection h5 with h7 h8
  injection h8 with h8 h9
  injection h9 with h9 _
  subst h7 h8 h9
  exact ⟨b, o, h1, h2, h3, h4, h6.1, h6.2.1, h6.2.2, cell_lt h2⟩
mutual
def Thing.size : Thing → Nat
  | .mk _ _ parts => 1 + sizes parts
def sizes : List Thing → Nat
  | [] => 0
  | x :: xs => x.size + sizes xs
end
theorem sizes_eq : ∀ l : List Thing, sizes l = sumN Thing.size l
  | [] => rfl
  | x :: xs => by simp [sizes, sumN, sizes_eq xs]
theorem Thing.size_eq (t : Thing) : t.size = 1 + sumN Thing.size t.parts := by
  cases t with
  | mk c v p => simp [Thing.size, Thing.parts, sizes_eq]
mutual
def Thing.deep : Thing → Nat
  | .mk _ _ parts => 1 + deeps parts
def deeps : List Thing → Nat
  | [] => 0
  | x :: xs => max x.deep (deeps xs)
end
theorem deeps_eq : ∀ l : List Thing, deeps l = maxN Thing.deep l
  | [] => rfl
  | x :: xs => by simp [deeps, maxN, deeps_eq xs]
theorem Thing.deep_eq (t : Thing) : t.deep = 1 + maxN Thing.deep t.parts := by
  cases t with
  | mk c v p => simp [Thing.deep, Thing.parts, deeps_eq]
mutual
def Thing.bulk : Thing → Nat
  | .mk c v parts => 1 + c.length + v.length + bulks parts
def bulks : List Thing → Nat
  | [] => 0
  | x :: xs => x.bulk + bulks xs
end
theorem bulks_eq : ∀ l : List Thing, bulks l = sumN Thing.bulk l
  | [] => rfl
  | x :: xs => by simp [bulks, sumN, bulks_eq xs]
theorem Thing.bulk_eq (t : Thing) : t.bulk = 1 + t.cls.length + t.vals.length + sumN Thing.bulk t.parts := by
  cases t with
  | mk c v p => simp [Thing.bulk, Thing.parts, Thing.cls, Thing.vals, bulks_eq]
theorem Thing.part_le {t p : Thing} (h : p ∈ t.parts) : p.bulk ≤ t.bulk := by
  have := sumN_mem Thing.bulk h
  rw [Thing.bulk_eq t]; omega
end Go.Proofs.YtnpnjcaomakehaaGreat
namespace Go.Proofs.YtnpnjcaomakehaaGreat
open Go.RowKit
set_option maxHeartbeats 400000 in
theorem indexFunc_val (p : Val → Bool) (fid : Nat) (cap : Array Value) (vs : Value) (xs : List Val) (w : World) (hr : ValsR (ph w) vs xs)
    (hfn : ∀ args w, (callFunc fid args).run Tryz.prog w = .ok (.enter fid args) w)
    (hf : ∀ w', Ext w w' → ∀ x ∈ xs, ∀ cs, ValR (ph w') cs x → Calls Tryz.prog fid (#[.agg cs.toArray] ++ cap) w' (RetV w' (.bool (p x)))) :
    Calls Tryz.prog 154 #[vs, .func (.func fid) #[] cap] w (RetV w (.int .i64 (idxOf p xs))) := by
  obtain ⟨a, c, rfl, hlen, hr⟩ := hr.form
  have HF := Lib.hid hf; clear hf
  go_enter Tryz.func154, Tryz.ntmps154
  go_wp2
  go_loopw [8] (fun i wr => ∃ k : Nat, k ≤ xs.length ∧ i = .int .i64 k ∧ Hid (∀ x ∈ xs.take k, p x = false) ∧ Ext w wr) (fun i _ => xs.length - (intOf i).toNat)
  case atStart => exact ⟨0, Nat.zero_le _, rfl, Lib.hid (by simp), xE⟩
  case round =>
    obtain ⟨k, hk, rfl, HNO, hb⟩ := hrel
    by_cases hlt : k < xs.length
    · have hp' := hr.mono mono_ValR hb.ple
      obtain ⟨b, o, rfl, h0, h1, h2, i0, i1, i2, hbl⟩ := ValsR.at hp' k hlt; have hE : ValR (ph wr) _ xs[k] := ⟨rfl, i0, i1, i2⟩
      clear hp'
      go_wp2_with fail
      refine (HF.out _ xE _ (List.getElem_mem hlt) _ hE).mono ?_
      rintro e w1 ⟨rfl, hb1⟩
      cases hpk : p xs[k] with
      | true =>
        go_wp2_with fail
        go_ret
        exact ⟨ret_int (idxOf_found p xs k hlt hpk HNO.out).symm, xE⟩
      | false =>
        go_wp2_with fail
        go_roundw
        case rel => exact ⟨k + 1, by omega, by go_num, take_all hlt hpk HNO.out, xE⟩
        case measure => simp [intOf]; omega
    · clear hr HF
      go_wp2_with fail
      go_ret
      exact ⟨ret_int (idxOf_none p xs (take_done (by omega) HNO.out)).symm, xE⟩
set_option maxHeartbeats 400000 in
theorem indexFunc_thing (p : Thing → Bool) (fid : Nat) (cap : Array Value) (vs : Value) (xs : List Thing) (w : World) (hr : ThingsR (ph w) vs xs)
    (hfn : ∀ args w, (callFunc fid args).run Tryz.prog w = .ok (.enter fid args) w)
    (hf : ∀ w', Ext w w' → ∀ x ∈ xs, ∀ cs, ThingR (ph w') cs x → Calls Tryz.prog fid (#[.agg cs.toArray] ++ cap) w' (RetV w' (.bool (p x)))) :
    Calls Tryz.prog 153 #[vs, .func (.func fid) #[] cap] w (RetV w (.int .i64 (idxOf p xs))) := by
  obtain ⟨a, c, rfl, hlen, hr⟩ := hr.form
  have HF := Lib.hid hf; clear hf
  go_enter Tryz.func153, Tryz.ntmps153
  go_wp2
  go_loopw [8] (fun i wr => ∃ k : Nat, k ≤ xs.length ∧ i = .int .i64 k ∧ Hid (∀ x ∈ xs.take k, p x = false) ∧ Ext w wr) (fun i _ => xs.length - (intOf i).toNat)
  case atStart => exact ⟨0, Nat.zero_le _, rfl, Lib.hid (by simp), xE⟩
  case round =>
    obtain ⟨k, hk, rfl, HNO, hb⟩ := hrel
    by_cases hlt : k < xs.length
    · have hp' := hr.mono mono_ThingR hb.ple
      obtain ⟨b, o, b1, d1, b2, d2, b3, d3, rfl, h0, h1, h2, hE, hbl⟩ := ThingsR.at hp' k hlt
      clear hp'
      go_wp2_with fail
      refine (HF.out _ xE _ (List.getElem_mem hlt) _ hE).mono ?_
      rintro e w1 ⟨rfl, hb1⟩
      cases hpk : p xs[k] with
      | true =>
        go_wp2_with fail
        go_ret
        exact ⟨ret_int (idxOf_found p xs k hlt hpk HNO.out).symm, xE⟩
      | false =>
        go_wp2_with fail
        go_roundw
        case rel => exact ⟨k + 1, by omega, by go_num, take_all hlt hpk HNO.out, xE⟩
        case measure => simp [intOf]; omega
    · clear hr HF
      go_wp2_with fail
      go_ret
      exact ⟨ret_int (idxOf_none p xs (take_done (by omega) HNO.out)).symm, xE⟩
theorem containsFunc_thing (p : Thing → Bool) (fid : Nat) (cap : Array Value) (vs : Value) (xs : List Thing) (w : World) (hr : ThingsR (ph w) vs xs)
    (hfn : ∀ args w, (callFunc fid args).run Tryz.prog w = .ok (.enter fid args) w)
    (hf : ∀ w', Ext w w' → ∀ x ∈ xs, ∀ cs, ThingR (ph w') cs x → Calls Tryz.prog fid (#[.agg cs.toArray] ++ cap) w' (RetV w' (.bool (p x)))) :
    Calls Tryz.prog 128 #[vs, .func (.func fid) #[] cap] w (RetV w (.bool (xs.any p))) := by
  have HF := Lib.hid hf; clear hf
  have HFN := Lib.hid hfn; clear hfn
  go_enter Tryz.func128, Tryz.ntmps128
  go_wp2_with fail
  refine (indexFunc_thing p fid cap vs xs _ hr HFN.out HF.out).mono ?_
  rintro e w1 ⟨rfl, hb1⟩
  have hx := Lib.hid (idxOf_ge p xs)
  generalize idxOf p xs = i at *
  go_wp2_with fail
  go_ret
  exact ⟨ret_bool hx.out, xE⟩
set_option maxHeartbeats 400000 in
theorem tvalue1_c (x : Val) (at' : Int) (b : Nat) (w : World) (hc : w.cell? ⟨b, 0, none⟩ = some (.int .i64 at')) :
    Calls Tryz.prog 155 #[.agg #[.int .i64 x.attr, .int .i64 x.n.num, .int .i64 x.n.den], .pointer (some ⟨b, 0, none⟩)] w (RetV w (.bool (x.attr == at'))) := by
  have hbl := cell_lt hc
  go_enter Tryz.func155, Tryz.ntmps155
  go_wp2
  go_ret
  exact ⟨rfl, xE⟩
def getVal (l : List Val) (k : Int) : Option Rat2 := (l.find? (·.attr == k)).map (·.n)
theorem getVal_some (l : List Val) (k : Int) (i : Nat) (h : l.findIdx? (·.attr == k) = some i) : ∃ hi : i < l.length, getVal l k = some l[i].n := by
  rw [List.findIdx?_eq_some_iff_getElem] at h
  obtain ⟨hi, h1, h2⟩ := h
  refine ⟨hi, ?_⟩
  have : l.find? (·.attr == k) = some l[i] := by
    rw [List.find?_eq_some_iff_getElem]
    exact ⟨h1, i, hi, rfl, fun j hj => by have := h2 j hj; simpa using this⟩
  simp [getVal, this]
theorem getVal_none (l : List Val) (k : Int) (h : l.findIdx? (·.attr == k) = none) : getVal l k = none := by
  rw [List.findIdx?_eq_none_iff] at h
  have : l.find? (·.attr == k) = none := by rw [List.find?_eq_none]; intro x hx; have := h x hx; simpa using this
  simp [getVal, this]
def optRat (o : Option Rat2) : Value := match o with
  | some r => .tuple #[.agg #[.int .i64 r.num, .int .i64 r.den], .bool true]
  | none => .tuple #[.agg #[.int .i64 0, .int .i64 0], .bool false]
set_option maxHeartbeats 400000 in
theorem tvalue_c (t : Thing) (k : Int) (cs : List Value) (w : World) (hr : ThingR (ph w) cs t) :
    Calls Tryz.prog 133 #[.agg cs.toArray, .int .i64 k] w (RetV w (optRat (getVal t.vals k))) := by
  obtain ⟨a1, c1, a2, c2, a3, c3, rfl, -, hlen, -, -, hv, -⟩ := hr.form
  go_enter Tryz.func133, Tryz.ntmps133
  go_wp2_with fail
  refine (indexFunc_val (fun x => x.attr == k) 155 _ _ t.vals _ (hv.mono mono_ValR (Ext.ple xE)) (fun args w => enterFn Tryz.func155 rfl rfl args w) ?_).mono ?_
  · rintro w' hw' x _ cs ⟨rfl, -⟩
    exact tvalue1_c x k _ w' (by rw [hw'.cells.1 _ _ (by simp)]; simp [go_sem])
  rintro e w1 ⟨rfl, hb1⟩
  obtain ⟨hc1, hf1, hs1⟩ := hb1.cells
  simp at hs1
  have hv1 := hv.mono mono_ValR (Ext.ple (show Ext w w1 from xE))
  cases hi : t.vals.findIdx? (fun x => x.attr == k) with
  | none =>
    have hi' : idxOf (fun x : Val => x.attr == k) t.vals = -1 := by simp [idxOf, hi]
    have hg := getVal_none _ _ hi
    rw [hi', hg]
    go_wp2_with fail
    exact bodyPost_ret (v := .tuple #[.agg #[.int .i64 0, .int .i64 0], .bool false]) (by simp [results, Tryz.results133, go_sem, hc1, hf1, hs1]) rfl ⟨by rw [hg]; rfl, xE⟩
  | some i =>
    obtain ⟨hil, hg⟩ := getVal_some _ _ _ hi
    have hi' : idxOf (fun x : Val => x.attr == k) t.vals = i := by simp [idxOf, hi]
    rw [hi', hg]
    obtain ⟨b, o, rfl, h0, h1, h2, -, -, -, hbl⟩ := ValsR.at hv1 i hil
    go_wp2_with fail
    exact bodyPost_ret (v := .tuple #[.agg #[.int .i64 t.vals[i].n.num, .int .i64 t.vals[i].n.den], .bool true]) (by simp [results, Tryz.results133, go_sem, hc1, hf1, hs1]) rfl ⟨by rw [hg]; rfl, xE⟩
end Go.Proofs.YtnpnjcaomakehaaGreat
namespace Go.Proofs.YtnpnjcaomakehaaGreat
open Go.RowKit
def incAt (l : List Int) (m : Int) (k : Nat) : Prop := ∀ (h : k < l.length), 0 ≤ l[k] ∧ l[k] < m ∧ (∀ _ : 0 < k, l[k - 1]'(by omega) < l[k])
def Inc (l : List Int) (m : Int) : Prop := ∀ k, incAt l m k
theorem below_succ {p : Nat → Prop} {k : Nat} (h : ∀ j, j < k → p j) (hk : p k) : ∀ j, j < k + 1 → p j := fun j hj => by
  by_cases h' : j < k
  · exact h j h'
  · obtain rfl : j = k := by omega
    exact hk
set_option maxHeartbeats 400000 in
theorem increasing_c (vs : Value) (l : List Int) (m : Int) (w : World) (hr : IntsR (ph w) vs l) :
    Calls Tryz.prog 152 #[vs, .int .i64 m] w (RetV w (.bool (B (Inc l m)))) := by
  obtain ⟨a, c, rfl, hlen, hr⟩ := hr.form
  go_enter Tryz.func152, Tryz.ntmps152
  go_wp2
  go_loopw [9] (fun i wr => ∃ k : Nat, k ≤ l.length ∧ i = .int .i64 k ∧ Hid (∀ j, j < k → incAt l m j) ∧ Ext w wr) (fun i _ => l.length - (intOf i).toNat)
  case atStart => exact ⟨0, Nat.zero_le _, rfl, Lib.hid (by intro j hj; omega), xE⟩
  case round =>
    obtain ⟨k, hk, rfl, hi, hb⟩ := hrel
    by_cases hlt : k < l.length
    · have hp' := hr.mono mono_IntR hb.ple
      obtain ⟨b, o, rfl, h0, -, hbl⟩ := IntsR.at hp' k hlt
      by_cases hk0 : 0 < k
      · obtain ⟨b', o', he, h0', -, -⟩ := IntsR.at hp' (k - 1) (by omega)
        simp only [Option.some.injEq, Addr.mk.injEq, and_true] at he
        obtain ⟨rfl, rfl⟩ := he
        have hat : Hid (incAt l m k ↔ 0 ≤ l[k] ∧ l[k] < m ∧ l[k-1] < l[k]) := ⟨fun h => ⟨(h hlt).1, (h hlt).2.1, (h hlt).2.2 hk0⟩, fun h _ => ⟨h.1, h.2.1, fun _ => h.2.2⟩⟩
        generalize l[k] = x at *
        generalize l[k - 1] = y at *
        clear hp' hr
        go_wp2_with fail
        all_goals first
          | exact ⟨⟨k + 1, by omega, by go_num, Lib.hid (below_succ hi.out (hat.out.2 (by omega))), xE⟩, by simp [intOf]; omega⟩
          | (go_ret; exact ⟨ret_f (fun h => by have := hat.out.1 (h k); omega), xE⟩)
      · have hat : Hid (incAt l m k ↔ 0 ≤ l[k] ∧ l[k] < m) := ⟨fun h => ⟨(h hlt).1, (h hlt).2.1⟩, fun h _ => ⟨h.1, h.2, fun h' => absurd h' hk0⟩⟩
        generalize l[k] = x at *
        clear hp' hr
        go_wp2_with fail
        all_goals first
          | exact ⟨⟨k + 1, by omega, by go_num, Lib.hid (below_succ hi.out (hat.out.2 (by omega))), xE⟩, by simp [intOf]; omega⟩
          | (go_ret; exact ⟨ret_f (fun h => by have := hat.out.1 (h k); omega), xE⟩)
    · clear hr
      go_wp2_with fail
      go_ret
      exact ⟨ret_t fun j => by
        by_cases h : j < k
        · exact hi.out j h
        · exact fun h' => absurd h' (by omega), xE⟩
mutual
def Thing.formed : Thing → Prop
  | .mk c v p => (∀ x ∈ v, GoodP x.n) ∧ Inc c 64 ∧ Inc (v.map Val.attr) 32 ∧ formeds p
def formeds : List Thing → Prop
  | [] => True
  | x :: xs => x.formed ∧ formeds xs
end
theorem formeds_iff : ∀ {l : List Thing}, formeds l ↔ ∀ p ∈ l, p.formed
  | [] => by simp [formeds]
  | x :: xs => by simp [formeds, formeds_iff]
theorem Thing.formed_iff (t : Thing) : t.formed ↔ (∀ x ∈ t.vals, GoodP x.n) ∧ Inc t.cls 64 ∧ Inc (t.vals.map Val.attr) 32 ∧ ∀ p ∈ t.parts, p.formed := by
  cases t with
  | mk c v p => simp only [Thing.formed, Thing.cls, Thing.vals, Thing.parts, formeds_iff]
theorem tformed1_c (p : Thing) (cs : List Value) (w : World) (hr : ThingR (ph w) cs p)
    (ih : ∀ (cs : List Value) (w : World), ThingR (ph w) cs p → Calls Tryz.prog 126 #[.agg cs.toArray] w (RetV w (.bool (B p.formed)))) :
    Calls Tryz.prog 151 #[.agg cs.toArray] w (RetV w (.bool (! B p.formed))) := by
  obtain ⟨a1, c1, a2, c2, a3, c3, rfl, -, -, -, -, -, -⟩ := hr.form
  have H := Lib.hid ih; clear ih
  go_enter Tryz.func151, Tryz.ntmps151
  go_wp2_with fail
  refine (H.out _ _ (mono_ThingR _ _ _ _ (Ext.ple xE) hr)).mono ?_
  rintro e w1 ⟨rfl, hb1⟩
  generalize B p.formed = b at *
  go_wp2_with fail
  go_ret
  exact ⟨rfl, xE⟩
set_option maxHeartbeats 1000000 in
theorem tformed_c (t : Thing) : ∀ (cs : List Value) (w : World), ThingR (ph w) cs t → t.bulk ≤ 1000000 →
    Calls Tryz.prog 126 #[.agg cs.toArray] w (RetV w (.bool (B t.formed))) := by
  induction t using Thing.ind with
  | h t ih =>
    intro cs w hr hs
    obtain ⟨a1, c1, a2, c2, a3, c3, rfl, l1, l2, l3, hc, hv, hp⟩ := hr.form
    have H := Lib.hid ih; clear ih
    have hvl : t.vals.length ≤ 1000000 := by rw [Thing.bulk_eq] at hs; omega
    go_enter Tryz.func126, Tryz.ntmps126
    go_wp2_with fail
    go_loopw [3, 10] (fun l i wr => ∃ k : Nat, k ≤ t.vals.length ∧ i = .int .i64 k ∧ OwnI (w.heap.size + 1) wr l ((t.vals.map Val.attr).take k) ∧ Hid (∀ x ∈ t.vals.take k, GoodP x.n) ∧
      Own wr w.heap.size #[.slice a1 t.cls.length c1, .slice a2 t.vals.length c2, .slice a3 t.parts.length c3] 107 ∧ Ext w wr) (fun _ i _ => t.vals.length - (intOf i).toNat)
    case atStart => exact ⟨0, Nat.zero_le _, rfl, OwnS.nil _ _ _ _ _ _, Lib.hid (by simp), oE, xE⟩
    case round =>
      obtain ⟨k, hk, rfl, hl, hg, ho, hb⟩ := hrel
      have hol := ho.lt
      by_cases hlt : k < t.vals.length
      · have hv' := hv.mono mono_ValR hb.ple
        obtain ⟨b, o, rfl, h0, h1, h2, i0, i1, i2, hbl⟩ := ValsR.at hv' k hlt
        clear hv'
        go_wp2_with (at_builtin; refine wpList_append_S (E := IntR) (H := noH) (base := w.heap.size + 1) (ys := [t.vals[k].attr]) rfl _ _ 22 3 rfl (.int .i64 0) 8 Tryz.underlying22 infoInt rfl rfl rfl (hl.keep xE) ?c1 (noH_le _) ?c2 one_IntR ?c3 ?c4 ?c5)
        case c1 => exact Src.lit1 ⟨rfl, i0⟩ rfl (fun j => by simp [go_sem])
        case c2 => simp; omega
        case c3 => simp; omega
        case c4 => simp; omega
        case c5 =>
          intro l' w1 hl1 hg1 hn1
          have hne := hl.lt
          have ho1 := Own.grown (ho.keep xE) hg1 (fun e => by have := hne _ e.symm; omega)
          have ho2 := Own.grown (Own.alloc (Own.new wr _ _) _) hg1 (fun e => by have := hne _ e.symm; omega)
          have hb1 : Ext w w1 := Ext.grown xE hg1 (fun k e => by have := hne _ e; omega)
          rw [← take_snoc' (List.map Val.attr t.vals) k _ (by simp [hlt])] at hl1
          clear hg1 hn1 hl ho
          obtain ⟨hoc, hof⟩ := ho2.facts
          have hl2 := ho2.lt
          go_wp2_with fail
          refine (ratValid_c t.vals[k].n _ i1 i2).mono ?_
          rintro e w2 ⟨rfl, hb2⟩
          have hl2' := hl1.keep hb2
          have ho3 := ho1.keep hb2
          have ho4 := ho2.keep hb2
          replace hb2 : Ext w w2 := xE
          obtain ⟨hoc, hof⟩ := ho4.facts
          have hl2 := ho4.lt
          clear ho1 ho2 hb1 hl1 ho4
          by_cases hg1 : GoodP t.vals[k].n
          · rw [ErrIf_t hg1.1]
            have hg3 := hg1.2
            have HG := Lib.hid hg1; clear hg1
            go_wp2_with fail
            go_roundw
            case rel => exact ⟨k + 1, by omega, by go_num, hl2', take_all hlt HG.out hg.out, ho3, hb2⟩
            case measure => simp [intOf]; omega
          · have HG := Lib.hid hg1
            by_cases hr1 : RatOk t.vals[k].n
            · rw [ErrIf_t hr1]
              have hr2 : 65536 < t.vals[k].n.den := by
                by_cases h : 65536 < t.vals[k].n.den
                · exact h
                · exact absurd ⟨hr1, by omega⟩ hg1
              clear hg1 hr1
              go_wp2_with fail
              go_ret
              exact ⟨ret_f (fun h => HG.out (((Thing.formed_iff t).1 h).1 _ (List.getElem_mem hlt))), xE⟩
            · rw [ErrIf_f hr1]
              clear hg1 hr1
              go_wp2_with fail
              go_ret
              exact ⟨ret_f (fun h => HG.out (((Thing.formed_iff t).1 h).1 _ (List.getElem_mem hlt))), xE⟩
      · obtain rfl : k = t.vals.length := by omega
        replace hg := Lib.hid (take_done (by omega) hg.out)
        rw [show List.take t.vals.length (List.map Val.attr t.vals) = List.map Val.attr t.vals from List.take_of_length_le (by simp)] at hl
        obtain ⟨hoc, hof⟩ := ho.facts
        have hF := Lib.hid (Thing.formed_iff t)
        go_wp2_with fail
        refine (increasing_c _ t.cls 64 _ (hc.mono mono_IntR hb.ple)).mono ?_
        rintro e w2 ⟨rfl, hb2⟩
        have hl2 := hl.keep hb2
        have ho2 := ho.keep hb2
        have hb3 : Ext w w2 := xE
        clear hb2 hoc hof
        cases hB1 : B (Inc t.cls 64) with
        | false =>
          go_wp2_with fail
          go_ret
          exact ⟨ret_f (fun h => by have := B_t (hF.out.1 h).2.1; rw [hB1] at this; cases this), xE⟩
        | true =>
          go_wp2_with fail
          refine (increasing_c _ _ 32 _ (hl2.rep mono_IntR (noH_le _))).mono ?_
          rintro e w3 ⟨rfl, hb4⟩
          have ho3 := ho2.keep hb4
          replace hb3 : Ext w w3 := xE
          obtain ⟨hoc, hof⟩ := ho3.facts
          clear hb4 ho2
          cases hB2 : B (Inc (t.vals.map Val.attr) 32) with
          | false =>
            go_wp2_with fail
            go_ret
            exact ⟨ret_f (fun h => by have := B_t (hF.out.1 h).2.2.1; rw [hB2] at this; cases this), xE⟩
          | true =>
            go_wp2_with fail
            refine (containsFunc_thing (fun p => ! B p.formed) 151 #[] _ t.parts _ (hp.mono mono_ThingR hb3.ple) (fun args w => enterFn Tryz.func151 rfl rfl args w) ?_).mono ?_
            · intro w' hw' x hx cs hcs
              simpa using tformed1_c x cs w' hcs fun cs w hr => H.out x hx cs w hr (by have := Thing.part_le hx; omega)
            rintro e w4 ⟨rfl, hb5⟩
            have hA : Hid (t.parts.any (fun p => ! B p.formed) = false ↔ t.formed) := by
              show _ ↔ _
              rw [hF.out, List.any_eq_false]
              constructor
              · intro h
                exact ⟨hg.out, B_iff.1 hB1, B_iff.1 hB2, fun p hp => by have := h p hp; simpa [B_iff] using this⟩
              · rintro ⟨-, -, -, h⟩ p hp
                simp [B_t (h p hp)]
            generalize t.parts.any (fun p => ! B p.formed) = b at *
            clear hB1 hB2
            go_wp2_with fail
            go_ret
            exact ⟨ret_B (by rw [← hA.out]; simp), xE⟩
def nodesV (t : Thing) (lv lf : Int) : Int := if (t.size : Int) ≤ lf ∧ lv + t.deep ≤ 9 then lf - t.size else -1
set_option maxHeartbeats 1000000 in
theorem tnodes_c (t : Thing) : ∀ (cs : List Value) (w : World) (lv lf : Int), ThingR (ph w) cs t → 1 ≤ lv → lv ≤ 9 → 0 ≤ lf → lf ≤ 96 →
    Calls Tryz.prog 149 #[.agg cs.toArray, .int .i64 lv, .int .i64 lf] w (RetV w (.int .i64 (nodesV t lv lf))) := by
  induction t using Thing.ind with
  | h t ih =>
    intro cs w lv lf hr hv1 hv2 hf1 hf2
    obtain ⟨a1, c1, a2, c2, a3, c3, rfl, l1, l2, l3, -, -, hp⟩ := hr.form
    have H := Lib.hid ih; clear ih
    have hsz := Lib.hid (Thing.size_eq t)
    have hdp := Lib.hid (Thing.deep_eq t)
    by_cases hbad : 8 < lv ∨ lf < 1
    · have hn : Hid (nodesV t lv lf = -1) := by
        show _ = _
        have h1 := hsz.out; have h2 := hdp.out
        rw [nodesV, if_neg (by omega)]
      go_enter Tryz.func149, Tryz.ntmps149
      go_wp2_with fail
      all_goals first
        | (exfalso; omega)
        | (go_ret; exact ⟨ret_int hn.out.symm, xE⟩)
    · go_enter Tryz.func149, Tryz.ntmps149
      go_wp2_with fail
      all_goals first
        | (exfalso; omega)
        | skip
      go_loopw [2, 20] (fun l i wr => ∃ k : Nat, k ≤ t.parts.length ∧ i = .int .i64 k ∧ l = .int .i64 (lf - 1 - sumN Thing.size (t.parts.take k)) ∧ 0 ≤ lf - 1 - sumN Thing.size (t.parts.take k) ∧
        Hid (∀ p ∈ t.parts.take k, lv + 1 + p.deep ≤ 9) ∧ Ext w wr) (fun _ i _ => t.parts.length - (intOf i).toNat)
      case atStart => exact ⟨0, Nat.zero_le _, rfl, by simp [sumN], by simp [sumN]; omega, Lib.hid (by simp), xE⟩
      case round =>
        obtain ⟨k, hk, rfl, rfl, hpos, hd, hb⟩ := hrel
        by_cases hlt : k < t.parts.length
        · have hp' := hp.mono mono_ThingR hb.ple
          obtain ⟨b, o, b1, d1, b2, d2, b3, d3, rfl, h0, h1, h2, hE, hbl⟩ := ThingsR.at hp' k hlt
          have H3 := Lib.hid (sumN_take Thing.size t.parts k hlt)
          have hsl := Lib.hid (sumN_take_le Thing.size t.parts (k + 1))
          have hmx := Lib.hid (maxN_mem Thing.deep (List.getElem_mem hlt))
          clear hp hp'
          go_wp2_with fail
          refine (H.out _ (List.getElem_mem hlt) _ _ (lv + 1) _ (mono_ThingR _ _ _ _ (Ext.ple xE) hE) (by omega) (by omega) (by omega) (by omega)).mono ?_
          rintro e w1 ⟨rfl, hb1⟩
          by_cases hok : (t.parts[k].size : Int) ≤ lf - 1 - sumN Thing.size (t.parts.take k) ∧ lv + 1 + t.parts[k].deep ≤ 9
          · have hn : nodesV t.parts[k] (lv + 1) (lf - 1 - sumN Thing.size (t.parts.take k)) = lf - 1 - sumN Thing.size (t.parts.take k) - t.parts[k].size := by rw [nodesV, if_pos hok]
            rw [hn]
            obtain ⟨hok1, hok2⟩ := hok
            have H2 := Lib.hid hok2
            clear hn hok2
            go_wp2_with fail
            go_roundw
            case rel =>
              have h3 := H3.out
              exact ⟨k + 1, by omega, by go_num, by rw [h3]; go_num, by rw [h3]; omega, take_all hlt H2.out hd.out, xE⟩
            case measure => simp [intOf]; omega
          · have hn : nodesV t.parts[k] (lv + 1) (lf - 1 - sumN Thing.size (t.parts.take k)) = -1 := by rw [nodesV, if_neg hok]
            rw [hn]
            have HO := Lib.hid hok
            clear hn hok
            go_wp2_with fail
            go_ret
            refine ⟨ret_int ?_, xE⟩
            have h1 := hsz.out; have h2 := hdp.out; have h3 := H3.out; have h4 := hsl.out; have h5 := hmx.out; have h6 := HO.out
            rw [nodesV, if_neg (by omega)]
        · have ht : Hid (t.parts.take k = t.parts) := List.take_of_length_le (by omega)
          clear hp
          go_wp2_with fail
          go_ret
          refine ⟨ret_int ?_, xE⟩
          have h1 := hsz.out; have h2 := hdp.out
          have h3 := hd.out
          rw [ht.out] at h3 hpos ⊢
          have h4 : lv + t.deep ≤ 9 := by
            have : maxN Thing.deep t.parts ≤ (8 - lv).toNat := maxN_le (fun p hp => by have := h3 p hp; omega)
            omega
          rw [nodesV, if_pos (by omega)]; omega
theorem tlimited_c (t : Thing) (cs : List Value) (w : World) (hr : ThingR (ph w) cs t) :
    Calls Tryz.prog 125 #[.agg cs.toArray] w (RetV w (.bool (B (t.size ≤ 96 ∧ t.deep ≤ 8)))) := by
  obtain ⟨a1, c1, a2, c2, a3, c3, rfl, -, -, -, -, -, -⟩ := hr.form
  have hn : Hid (0 ≤ nodesV t 1 96 ↔ (t.size ≤ 96 ∧ t.deep ≤ 8)) := by
    show _ ↔ _
    unfold nodesV; split <;> omega
  go_enter Tryz.func125, Tryz.ntmps125
  go_wp2_with fail
  refine (tnodes_c t _ _ 1 96 (mono_ThingR _ _ _ _ (Ext.ple xE) hr) (by omega) (by omega) (by omega) (by omega)).mono ?_
  rintro e w1 ⟨rfl, hb1⟩
  generalize nodesV t 1 96 = n at *
  go_wp2_with fail
  go_ret
  exact ⟨ret_B (by rw [← hn.out]; simp), xE⟩
noncomputable def validV (t : Thing) : Int := @ite _ (t.size ≤ 96 ∧ t.deep ≤ 8) (Classical.propDecidable _) (ErrIf t.formed 1) 4
theorem tvalid_c (t : Thing) (cs : List Value) (w : World) (hr : ThingR (ph w) cs t) (hs : t.bulk ≤ 1000000) :
    Calls Tryz.prog 98 #[.agg cs.toArray] w (RetV w (.int .i64 (validV t))) := by
  obtain ⟨a1, c1, a2, c2, a3, c3, rfl, -, -, -, -, -, -⟩ := hr.form
  go_enter Tryz.func98, Tryz.ntmps98
  go_wp2_with fail
  refine (tlimited_c t _ _ (mono_ThingR _ _ _ _ (Ext.ple xE) hr)).mono ?_
  rintro e w1 ⟨rfl, hb1⟩
  have ho := Own.keep (Own.new w _ _) hb1
  have hb : Ext w w1 := xE
  obtain ⟨hoc, hof⟩ := ho.facts
  by_cases hl : t.size ≤ 96 ∧ t.deep ≤ 8
  · rw [B_t hl]
    have hV : Hid (validV t = ErrIf t.formed 1) := by show _ = _; rw [validV, if_pos hl]
    clear hl hb1
    go_wp2_with fail
    refine (tformed_c t _ _ (mono_ThingR _ _ _ _ (Ext.ple xE) hr) hs).mono ?_
    rintro e w2 ⟨rfl, hb2⟩
    by_cases hF : t.formed
    · rw [B_t hF]
      have HF := Lib.hid hF; clear hF
      go_wp2_with fail
      go_ret
      exact ⟨ret_int (by rw [hV.out, ErrIf_t HF.out]), xE⟩
    · rw [B_f hF]
      have HF := Lib.hid hF; clear hF
      go_wp2_with fail
      go_ret
      exact ⟨ret_int (by rw [hV.out, ErrIf_f HF.out]), xE⟩
  · rw [B_f hl]
    have hV : Hid (validV t = 4) := by show _ = _; rw [validV, if_neg hl]
    clear hl hb1
    go_wp2_with fail
    go_ret
    exact ⟨ret_int hV.out.symm, xE⟩
end Go.Proofs.YtnpnjcaomakehaaGreat
namespace Go.Proofs.YtnpnjcaomakehaaGreat
open Go.RowKit Go.Shelf
abbrev RatsR : PH → Value → List Rat2 → Prop := SliceRep RatR 2
theorem RatsR.at {w : World} {a : Option Addr} {n cap : Nat} {xs : List Rat2} (hr : RatsR (ph w) (.slice a n cap) xs) (k : Nat) (hk : k < xs.length) :
    ∃ b o, a = some ⟨b, o, none⟩ ∧ w.cell? ⟨b, o + k * 2, none⟩ = some (.int .i64 xs[k].num) ∧ w.cell? ⟨b, o + k * 2 + 1, none⟩ = some (.int .i64 xs[k].den) ∧ xs[k].I ∧ b < w.heap.size := by
  obtain ⟨b, o, c, d, h1, h2, h3, h4, h5⟩ := SliceRep.get2 hr k hk
  injection h4 with h6 h7
  injection h7 with h7 h8
  subst h6 h7
  exact ⟨b, o, h1, h2, h3, h5, cell_lt h2⟩
theorem lessE_lo (x : Itv) (r : Rat2) (hr : r.ok) (hx : goodB x = true) : lessE ⟨0, r, false⟩ (loE x) = (!x.loI && (lessR r x.lo || (decide (r = x.lo) && x.loO))) := by
  unfold loE
  cases h1 : x.loI
  · have s1 := smallB_ok (goodB.smlo hx h1)
    simp only [Bool.false_eq_true, if_false, Bool.not_false, Bool.true_and]
    unfold lessE lessR
    rw [if_neg (by simp), if_neg (by simp)]
    by_cases h : r.num * x.lo.den = x.lo.num * r.den
    · have he := Rat2.same hr s1 h
      rw [if_neg (by simpa using h)]
      subst he; simp
    · rw [if_pos h]
      have : r ≠ x.lo := fun e => h (by rw [e])
      simp [this]
  · simp [lessE, botE]
theorem lessE_hi (x : Itv) (r : Rat2) (hr : r.ok) (hx : goodB x = true) : lessE ⟨0, r, false⟩ (hiE x) = !(!x.hiI && (lessR x.hi r || (decide (r = x.hi) && x.hiO))) := by
  unfold hiE
  cases h1 : x.hiI
  · have s1 := smallB_ok (goodB.smhi hx h1)
    simp only [Bool.false_eq_true, if_false, Bool.not_false, Bool.true_and]
    unfold lessE lessR
    rw [if_neg (by simp), if_neg (by simp)]
    by_cases h : r.num * x.hi.den = x.hi.num * r.den
    · have he := Rat2.same hr s1 h
      rw [if_neg (by simpa using h)]
      subst he; simp
    · rw [if_pos h]
      have : r ≠ x.hi := fun e => h (by rw [e])
      simp only [this, decide_false, Bool.false_and, Bool.or_false]
      rw [Bool.eq_iff_iff]; simp; omega
  · simp [lessE, topE]
theorem hasB_eq (x : Itv) (r : Rat2) (hr : r.ok) (hx : goodB x = true) : hasB x r = (!(!x.loI && (lessR r x.lo || (decide (r = x.lo) && x.loO))) && !(!x.hiI && (lessR x.hi r || (decide (r = x.hi) && x.hiO)))) := by
  unfold hasB insB
  rw [lessE_lo x r hr hx, lessE_hi x r hr hx]
def validE (l : List Rat2) : Int := if l.all (fun r => decide (RatOk r)) then 0 else 1
set_option maxRecDepth 100000 in
set_option maxHeartbeats 4000000 in
theorem ratvalids_c (v : Value) (l : List Rat2) (w : World) (hr : RatsR (ph w) v l) : Calls Tryz.prog 183 #[v] w (RetV w (.int .i64 (validE l))) := by
  obtain ⟨a, c, rfl, hlen, hr⟩ := hr.form
  have hE : Hid (validE l = if l.all (fun r => decide (RatOk r)) then 0 else 1) := rfl
  go_enter Tryz.func183, Tryz.ntmps183
  go_wp2_with fail
  go_loopw [8] (fun i wr => ∃ k : Nat, k ≤ l.length ∧ i = .int .i64 k ∧ Hid ((l.take k).all (fun r => decide (RatOk r)) = true) ∧ Ext w wr) (fun i _ => l.length - (intOf i).toNat)
  case atStart => exact ⟨0, Nat.zero_le _, rfl, Lib.hid (by simp), Ext.rfl' _⟩
  case round =>
    obtain ⟨k, hk, rfl, ho, hx⟩ := hrel
    by_cases hlt : k < l.length
    · obtain ⟨b, o, rfl, h0, h1, hI, hbl⟩ := RatsR.at (hr.mono mono_RatR hx.ple) k hlt
      have hja : decide (k < l.length) = true := decide_eq_true hlt
      have hv := fun w => ratValid_c l[k] w hI.1 hI.2
      have hn1 : Hid ((l.take (k + 1)).all (fun r => decide (RatOk r)) = decide (RatOk l[k])) := Lib.hid (by
        rw [List.take_succ_eq_append_getElem hlt, List.all_append, ho.out]; simp)
      have hn2 : Hid (¬ RatOk l[k] → validE l = 1) := Lib.hid fun h => by
        rw [hE.out, if_neg]
        rw [List.all_eq_true]
        intro hh; have := hh _ (List.getElem_mem hlt); simp [h] at this
      generalize hx0 : l[k] = x at *
      obtain ⟨p, q⟩ := x
      dsimp only at *
      clear hx0
      replace hv := Lib.hid hv
      have hx1 := hx.then (Ext.new wr (.cells #[.int .i64 p, .int .i64 q] 90))
      have hO := Proofs.YtnpnjcaomakehaaGreat.Own.new wr #[.int .i64 p, .int .i64 q] 90
      go_upto_region 4 with (fail)
      generalize wr.heap.size = bx at *
      generalize wr.alloc _ = W at *
      obtain ⟨cx, fx⟩ := hO.facts
      have zx := hO.lt
      have c0 : _ = some (Value.int .i64 p) := cx 0
      have c1 : _ = some (Value.int .i64 q) := cx 1
      clear cx h0 h1 hbl hx
      go_wp2_with fail
      refine RetV_at (hv.out _) ?_
      intro w2 hx2
      replace hx1 := hx1.then hx2
      by_cases hok : RatOk ⟨p, q⟩
      · have e : ErrIf (RatOk ⟨p, q⟩) 1 = 0 := if_pos hok
        rw [e]
        have hn3 : Hid ((l.take (k + 1)).all (fun r => decide (RatOk r)) = true) := Lib.hid (by rw [hn1.out]; simp [hok])
        clear hv hn1 hn2 c0 c1
        replace hok := Lib.hid hok
        go_wp2_with fail
        go_roundw
        case rel => exact ⟨k + 1, by omega, by go_num, hn3, hx1⟩
        case measure => simp [intOf]; omega
      · have e : ErrIf (RatOk ⟨p, q⟩) 1 = 1 := if_neg hok
        rw [e]
        have hn3 : Hid (validE l = 1) := Lib.hid (hn2.out hok)
        clear hv hn1 hn2 c0 c1
        replace hok := Lib.hid hok
        go_wp2_with fail
        go_ret
        exact ⟨ret_int hn3.out.symm, hx1⟩
    · have hja : decide (k < l.length) = false := by simpa using hlt
      have h9 : Hid (validE l = 0) := Lib.hid (by
        have := ho.out
        rw [List.take_of_length_le (by omega)] at this
        rw [hE.out, if_pos this])
      go_wp2_with fail
      go_ret
      exact ⟨ret_int h9.out.symm, hx⟩
def cmpR (a b : Rat2) : Int := if a.num * b.den < b.num * a.den then -1 else if b.num * a.den < a.num * b.den then 1 else 0
set_option maxRecDepth 100000 in
set_option maxHeartbeats 4000000 in
theorem ratcmp_c (a b : Rat2) (w : World) (ha : a.bd) (hb : b.bd) : Calls Tryz.prog 184 #[raA a, raA b] w (RetV w (.int .i64 (cmpR a b))) := by
  have hw1 := mul_bd2 ha.1 ha.2.1 hb.2.2.1 hb.2.2.2
  have hw2 := mul_bd2 hb.1 hb.2.1 ha.2.2.1 ha.2.2.2
  have hs : Hid (cmpR a b = if a.num * b.den < b.num * a.den then -1 else if b.num * a.den < a.num * b.den then 1 else 0) := rfl
  have e1 : IntKind.i64.wrap (a.num * b.den) = a.num * b.den := wrap_id (by omega) (by omega)
  have e2 : IntKind.i64.wrap (b.num * a.den) = b.num * a.den := wrap_id (by omega) (by omega)
  obtain ⟨n, d⟩ := a
  obtain ⟨n', d'⟩ := b
  unfold raA
  dsimp only at *
  generalize cmpR _ _ = q at *
  clear ha hb hw1 hw2
  go_enter Tryz.func184, Tryz.ntmps184
  go_wp2_with fail
  go_quiet (fail)
  by_cases h1 : n * d' < n' * d
  · have hq : Hid (q = -1) := Lib.hid (by rw [hs.out, if_pos h1])
    go_wp2_with fail
    go_ret
    exact ⟨ret_int hq.out.symm, xE⟩
  · by_cases h2 : n' * d < n * d'
    · have hq : Hid (q = 1) := Lib.hid (by rw [hs.out, if_neg h1, if_pos h2])
      go_wp2_with fail
      go_ret
      exact ⟨ret_int hq.out.symm, xE⟩
    · have hq : Hid (q = 0) := Lib.hid (by rw [hs.out, if_neg h1, if_neg h2])
      go_wp2_with fail
      go_ret
      exact ⟨ret_int hq.out.symm, xE⟩
end Go.Proofs.YtnpnjcaomakehaaGreat

namespace Go.Proofs.YtnpnjcaomakehaaGreat
open Go.RowKit Go.Shelf
theorem validE_2 {a b : Rat2} : validE [a, b] = if RatOk a ∧ RatOk b then 0 else 1 := by
  unfold validE
  by_cases h1 : RatOk a <;> by_cases h2 : RatOk b <;> simp [h1, h2]
set_option maxRecDepth 100000 in
set_option maxHeartbeats 4000000 in
theorem cmp_c (a b : Rat2) (w : World) (ha : RatOk a) (hb : RatOk b) : Calls Tryz.prog 171 #[raA a, raA b] w (RetV w (.tuple #[.int .i64 (cmpR a b), .int .i64 0])) := by
  have hv2 := fun W => ratvalids_c _ [a, b] _ (sliceArr (E := RatR) (sz := 2) (n := 2) (xs := [a, b]) (Proofs.YtnpnjcaomakehaaGreat.Own.new W #[.int .i64 a.num, .int .i64 a.den, .int .i64 b.num, .int .i64 b.den] 90) ⟨[.int .i64 a.num, .int .i64 a.den], [.int .i64 b.num, .int .i64 b.den], rfl, rfl, ⟨rfl, ha.I⟩, [.int .i64 b.num, .int .i64 b.den], [], rfl, rfl, ⟨rfl, hb.I⟩, rfl⟩ rfl (by decide))
  have hve : validE [a, b] = 0 := by rw [validE_2, if_pos ⟨ha, hb⟩]
  rw [hve] at hv2
  have hcm := fun w => ratcmp_c a b w ha.bd hb.bd
  generalize cmpR a b = q at *
  clear hve ha hb
  obtain ⟨n, d⟩ := a
  obtain ⟨n', d'⟩ := b
  unfold raA at *
  dsimp only at *
  replace hv2 := Lib.hid hv2
  replace hcm := Lib.hid hcm
  go_enter Tryz.func171, Tryz.ntmps171
  have hO2 := (Proofs.YtnpnjcaomakehaaGreat.Own.new w #[.int .i64 n, .int .i64 d] 90).alloc (.cells #[.int .i64 n', .int .i64 d'] 90)
  have hO3 := Own.new' (w.alloc (.cells #[.int .i64 n, .int .i64 d] 90)) #[.int .i64 n', .int .i64 d'] 90 (n := w.heap.size + 1) (by simp)
  have hx : Ext w ((w.alloc (.cells #[.int .i64 n, .int .i64 d] 90)).alloc (.cells #[.int .i64 n', .int .i64 d'] 90)) := xE
  go_upto_region 1 with (fail)
  generalize w.heap.size = b1 at *
  generalize (w.alloc _).alloc _ = W at *
  have hq := hv2.out W
  replace hq := Lib.hid hq
  obtain ⟨c2, f2⟩ := hO2.facts
  obtain ⟨c3, f3⟩ := hO3.facts
  have z2 := hO2.lt
  have z3 := hO3.lt
  have k20 : _ = some (Value.int .i64 n) := c2 0
  have k21 : _ = some (Value.int .i64 d) := c2 1
  have k30 : _ = some (Value.int .i64 n') := c3 0
  have k31 : _ = some (Value.int .i64 d') := c3 1
  clear c2 c3
  go_wp2_with fail
  refine RetV_at hq.out ?_
  intro w2 hx2
  have hx2' := (Ext.new W (.cells #[.int .i64 n, .int .i64 d, .int .i64 n', .int .i64 d'] 90)).then hx2
  replace hO2 := hO2.keep hx2'
  replace hO3 := hO3.keep hx2'
  replace hx := hx.then hx2'
  clear hq hv2 hx2 hx2' f2 f3 z2 z3 k20 k21 k30 k31
  obtain ⟨c2, f2⟩ := hO2.facts
  obtain ⟨c3, f3⟩ := hO3.facts
  have z2 := hO2.lt
  have z3 := hO3.lt
  have k20 : _ = some (Value.int .i64 n) := c2 0
  have k21 : _ = some (Value.int .i64 d) := c2 1
  have k30 : _ = some (Value.int .i64 n') := c3 0
  have k31 : _ = some (Value.int .i64 d') := c3 1
  clear c2 c3
  go_wp2_with fail
  refine RetV_at (hcm.out _) ?_
  intro w3 hx3
  go_wp2_with fail
  go_ret2
  exact ⟨rfl, hx.then hx3⟩
set_option maxRecDepth 100000 in
set_option maxHeartbeats 4000000 in
theorem has1_c (a b : Rat2) (w : World) (ha : RatOk a) (hb : RatOk b) : Calls Tryz.prog 170 #[raA a, raA b] w (RetV w (.int .i64 (cmpR a b))) := by
  have hcm := fun w => cmp_c a b w ha hb
  generalize cmpR a b = q at *
  clear ha hb
  obtain ⟨n, d⟩ := a
  obtain ⟨n', d'⟩ := b
  unfold raA at *
  dsimp only at *
  replace hcm := Lib.hid hcm
  go_enter Tryz.func170, Tryz.ntmps170
  have hO2 := (Proofs.YtnpnjcaomakehaaGreat.Own.new w #[.int .i64 n, .int .i64 d] 90).alloc (.cells #[.int .i64 n', .int .i64 d'] 90)
  have hO3 := Own.new' (w.alloc (.cells #[.int .i64 n, .int .i64 d] 90)) #[.int .i64 n', .int .i64 d'] 90 (n := w.heap.size + 1) (by simp)
  have hx : Ext w ((w.alloc (.cells #[.int .i64 n, .int .i64 d] 90)).alloc (.cells #[.int .i64 n', .int .i64 d'] 90)) := xE
  go_upto_region 1 with (fail)
  generalize w.heap.size = b1 at *
  generalize (w.alloc _).alloc _ = W at *
  obtain ⟨c2, f2⟩ := hO2.facts
  obtain ⟨c3, f3⟩ := hO3.facts
  have z2 := hO2.lt
  have z3 := hO3.lt
  have k20 : _ = some (Value.int .i64 n) := c2 0
  have k21 : _ = some (Value.int .i64 d) := c2 1
  have k30 : _ = some (Value.int .i64 n') := c3 0
  have k31 : _ = some (Value.int .i64 d') := c3 1
  clear c2 c3
  go_wp2_with fail
  refine RetV_at (hcm.out _) ?_
  intro w3 hx3
  go_wp2_with fail
  go_ret
  exact ⟨rfl, hx.then hx3⟩
theorem cmpR_less {a b : Rat2} (ha : a.ok) (hb : b.ok) : (cmpR a b = -1 ∧ lessR a b = true ∧ lessR b a = false ∧ decide (a = b) = false) ∨ (cmpR a b = 0 ∧ lessR a b = false ∧ lessR b a = false ∧ decide (a = b) = true) ∨ (cmpR a b = 1 ∧ lessR a b = false ∧ lessR b a = true ∧ decide (a = b) = false) := by
  unfold cmpR lessR
  by_cases h1 : a.num * b.den < b.num * a.den
  · left
    refine ⟨by rw [if_pos h1], by simpa using h1, by simp; omega, ?_⟩
    have : a ≠ b := fun e => by subst e; omega
    simpa using this
  · by_cases h2 : b.num * a.den < a.num * b.den
    · right; right
      refine ⟨by rw [if_neg h1, if_pos h2], by simpa using h1, by simpa using h2, ?_⟩
      have : a ≠ b := fun e => by subst e; omega
      simpa using this
    · right; left
      have := Rat2.same ha hb (by omega)
      exact ⟨by rw [if_neg h1, if_neg h2], by simpa using h1, by simpa using h2, by simpa using this⟩
set_option maxRecDepth 100000 in
set_option maxHeartbeats 8000000 in
theorem has_c (x : Itv) (r : Rat2) (w : World) (hx : goodB x = true) (hr : RatOk r) : Calls Tryz.prog 158 #[itA x, raA r] w (RetV w (.bool (hasB x r))) := by
  have hs := hasB_eq x r hr.ok hx
  have h1 := fun (h : x.loI = false) w => has1_c r x.lo w hr (smallB_iff.1 (goodB.smlo hx h)).1
  have h2 := fun (h : x.hiI = false) w => has1_c r x.hi w hr (smallB_iff.1 (goodB.smhi hx h)).1
  have d1 := fun (h : x.loI = false) => cmpR_less hr.ok (smallB_ok (goodB.smlo hx h))
  have d2 := fun (h : x.hiI = false) => cmpR_less hr.ok (smallB_ok (goodB.smhi hx h))
  generalize hasB x r = q at *
  obtain ⟨⟨a, b⟩, ⟨c, d⟩, lO, rO, lI, rI⟩ := x
  obtain ⟨n, m⟩ := r
  unfold itA raA at *
  dsimp only at *
  generalize lessR ⟨n, m⟩ ⟨a, b⟩ = l1 at *
  generalize lessR ⟨a, b⟩ ⟨n, m⟩ = l3 at *
  generalize lessR ⟨c, d⟩ ⟨n, m⟩ = l2 at *
  generalize lessR ⟨n, m⟩ ⟨c, d⟩ = l4 at *
  generalize decide ((⟨n, m⟩ : Rat2) = ⟨a, b⟩) = e1 at *
  generalize decide ((⟨n, m⟩ : Rat2) = ⟨c, d⟩) = e2 at *
  generalize cmpR ⟨n, m⟩ ⟨a, b⟩ = k1 at *
  generalize cmpR ⟨n, m⟩ ⟨c, d⟩ = k2 at *
  clear hx hr
  replace h1 := Lib.hid h1
  replace h2 := Lib.hid h2
  replace d1 := Lib.hid d1
  replace d2 := Lib.hid d2
  replace hs := Lib.hid hs
  have hO := Proofs.YtnpnjcaomakehaaGreat.Own.alloc (Proofs.YtnpnjcaomakehaaGreat.Own.new w #[.int .i64 a, .int .i64 b, .int .i64 c, .int .i64 d, .bool lO, .bool rO, .bool lI, .bool rI] 92) (.cells #[.int .i64 n, .int .i64 m] 90)
  have hO2 := Proofs.YtnpnjcaomakehaaGreat.Own.new' (w.alloc (.cells #[.int .i64 a, .int .i64 b, .int .i64 c, .int .i64 d, .bool lO, .bool rO, .bool lI, .bool rI] 92)) #[.int .i64 n, .int .i64 m] 90 (n := w.heap.size + 1) (by simp)
  have hx := (Ext.new w (.cells #[.int .i64 a, .int .i64 b, .int .i64 c, .int .i64 d, .bool lO, .bool rO, .bool lI, .bool rI] 92)).alloc' (.cells #[.int .i64 n, .int .i64 m] 90)
  go_enter Tryz.func158, Tryz.ntmps158
  go_upto_region 1 with (fail)
  generalize w.heap.size = b1 at *
  generalize (w.alloc _).alloc _ = W at *
  obtain ⟨c1, f1⟩ := hO.facts
  obtain ⟨c2, f2⟩ := hO2.facts
  have z1 := hO.lt
  have z2 := hO2.lt
  go_upto_region 2 with (fail)
  cases lI with
  | true =>
    cases rI with
    | true =>
      go_wp2_with fail
      go_ret
      exact ⟨ret_bool (by rw [hs.out]; simp), hx⟩
    | false =>
      have h2' := Lib.hid (h2.out (by first | trivial | rfl))
      go_wp2_with fail
      refine RetV_at (h2'.out _) ?_
      intro w9 hx9
      replace hO := hO.keep hx9
      replace hx := hx.then hx9
      clear c1 f1 c2 f2 z1 z2
      obtain ⟨c1, f1⟩ := hO.facts
      have z1 := hO.lt
      rcases d2.out (by first | trivial | rfl) with ⟨rfl, rfl, rfl, rfl⟩ | ⟨rfl, rfl, rfl, rfl⟩ | ⟨rfl, rfl, rfl, rfl⟩
      · go_wp2_with fail
        go_ret
        exact ⟨ret_bool (by rw [hs.out]; simp), hx⟩
      · cases rO with
        | true =>
          go_wp2_with fail
          go_ret
          exact ⟨ret_bool (by rw [hs.out]; simp), hx⟩
        | false =>
          go_wp2_with fail
          go_ret
          exact ⟨ret_bool (by rw [hs.out]; simp), hx⟩
      · go_wp2_with fail
        go_ret
        exact ⟨ret_bool (by rw [hs.out]; simp), hx⟩
  | false =>
    have h1' := Lib.hid (h1.out (by first | trivial | rfl))
    go_wp2_with fail
    refine RetV_at (h1'.out _) ?_
    intro w5 hx5
    replace hO := hO.keep hx5
    replace hO2 := hO2.keep hx5
    replace hx := hx.then hx5
    clear c1 f1 c2 f2 z1 z2
    obtain ⟨c1, f1⟩ := hO.facts
    obtain ⟨c2, f2⟩ := hO2.facts
    have z1 := hO.lt
    have z2 := hO2.lt
    rcases d1.out (by first | trivial | rfl) with ⟨rfl, rfl, rfl, rfl⟩ | ⟨rfl, rfl, rfl, rfl⟩ | ⟨rfl, rfl, rfl, rfl⟩
    · go_wp2_with fail
      go_ret
      exact ⟨ret_bool (by rw [hs.out]; simp), hx⟩
    · cases lO with
      | true =>
        go_wp2_with fail
        go_ret
        exact ⟨ret_bool (by rw [hs.out]; simp), hx⟩
      | false =>
        go_upto_region 6 with (fail)
        cases rI with
        | true =>
          go_wp2_with fail
          go_ret
          exact ⟨ret_bool (by rw [hs.out]; simp), hx⟩
        | false =>
          have h2' := Lib.hid (h2.out (by first | trivial | rfl))
          go_wp2_with fail
          refine RetV_at (h2'.out _) ?_
          intro w9 hx9
          replace hO := hO.keep hx9
          replace hx := hx.then hx9
          clear c1 f1 c2 f2 z1 z2
          obtain ⟨c1, f1⟩ := hO.facts
          have z1 := hO.lt
          rcases d2.out (by first | trivial | rfl) with ⟨rfl, rfl, rfl, rfl⟩ | ⟨rfl, rfl, rfl, rfl⟩ | ⟨rfl, rfl, rfl, rfl⟩
          · go_wp2_with fail
            go_ret
            exact ⟨ret_bool (by rw [hs.out]; simp), hx⟩
          · cases rO with
            | true =>
              go_wp2_with fail
              go_ret
              exact ⟨ret_bool (by rw [hs.out]; simp), hx⟩
            | false =>
              go_wp2_with fail
              go_ret
              exact ⟨ret_bool (by rw [hs.out]; simp), hx⟩
          · go_wp2_with fail
            go_ret
            exact ⟨ret_bool (by rw [hs.out]; simp), hx⟩
    · go_upto_region 6 with (fail)
      cases rI with
      | true =>
        go_wp2_with fail
        go_ret
        exact ⟨ret_bool (by rw [hs.out]; simp), hx⟩
      | false =>
        have h2' := Lib.hid (h2.out (by first | trivial | rfl))
        go_wp2_with fail
        refine RetV_at (h2'.out _) ?_
        intro w9 hx9
        replace hO := hO.keep hx9
        replace hx := hx.then hx9
        clear c1 f1 c2 f2 z1 z2
        obtain ⟨c1, f1⟩ := hO.facts
        have z1 := hO.lt
        rcases d2.out (by first | trivial | rfl) with ⟨rfl, rfl, rfl, rfl⟩ | ⟨rfl, rfl, rfl, rfl⟩ | ⟨rfl, rfl, rfl, rfl⟩
        · go_wp2_with fail
          go_ret
          exact ⟨ret_bool (by rw [hs.out]; simp), hx⟩
        · cases rO with
          | true =>
            go_wp2_with fail
            go_ret
            exact ⟨ret_bool (by rw [hs.out]; simp), hx⟩
          | false =>
            go_wp2_with fail
            go_ret
            exact ⟨ret_bool (by rw [hs.out]; simp), hx⟩
        · go_wp2_with fail
          go_ret
          exact ⟨ret_bool (by rw [hs.out]; simp), hx⟩
set_option maxRecDepth 100000 in
set_option maxHeartbeats 4000000 in
theorem hasf_c (x : Itv) (r : Rat2) (b : Nat) (w : World) (hI : x.I) (hr : RatOk r) (hO : Own w b #[.int .i64 r.num, .int .i64 r.den] 90) :
    Calls Tryz.prog 157 #[itA x, .pointer (some ⟨b, 0, none⟩)] w (RetV w (.bool (goodB x && hasB x r))) := by
  have hg := fun w => good_c x w hI
  have hh := fun (h : goodB x = true) w => has_c x r w h hr
  generalize goodB x = g at *
  generalize hasB x r = q at *
  clear hI hr
  obtain ⟨⟨p, s⟩, ⟨u, v⟩, lO, rO, lI, rI⟩ := x
  obtain ⟨n, d⟩ := r
  unfold itA raA at *
  dsimp only at *
  have hx := Ext.new w (.cells #[.int .i64 p, .int .i64 s, .int .i64 u, .int .i64 v, .bool lO, .bool rO, .bool lI, .bool rI] 92)
  replace hO := hO.keep hx
  have hO2 := Proofs.YtnpnjcaomakehaaGreat.Own.new w #[.int .i64 p, .int .i64 s, .int .i64 u, .int .i64 v, .bool lO, .bool rO, .bool lI, .bool rI] 92
  replace hg := Lib.hid hg
  replace hh := Lib.hid hh
  go_enter Tryz.func157, Tryz.ntmps157
  go_upto_region 1 with (fail)
  generalize w.heap.size = b2 at *
  generalize w.alloc _ = W at *
  obtain ⟨c1, f1⟩ := hO.facts
  obtain ⟨c2, f2⟩ := hO2.facts
  have z1 := hO.lt
  have z2 := hO2.lt
  go_wp2_with fail
  refine RetV_at (hg.out _) ?_
  intro w2 hx2
  replace hO := hO.keep hx2
  replace hO2 := hO2.keep hx2
  replace hx := hx.then hx2
  clear c1 f1 c2 f2 z1 z2
  obtain ⟨c1, f1⟩ := hO.facts
  obtain ⟨c2, f2⟩ := hO2.facts
  have z1 := hO.lt
  have z2 := hO2.lt
  cases g with
  | false =>
    go_wp2_with fail
    go_ret
    exact ⟨ret_bool (by simp), hx⟩
  | true =>
    have hh' := Lib.hid (hh.out (by first | trivial | rfl))
    go_wp2_with fail
    refine RetV_at (hh'.out _) ?_
    intro w3 hx3
    go_wp2_with fail
    go_ret
    exact ⟨ret_bool (by simp), hx.then hx3⟩
def hasL (l : List Itv) (r : Rat2) : Bool := decide (RatOk r) && l.any fun x => goodB x && hasB x r
set_option maxRecDepth 100000 in
set_option maxHeartbeats 4000000 in
theorem hasL_c (v : Value) (l : List Itv) (r : Rat2) (w : World) (hl : ItvsR (ph w) v l) (hI : r.I) : Calls Tryz.prog 134 #[v, raA r] w (RetV w (.bool (hasL l r))) := by
  have hv := fun w => ratValid_c r w hI.1 hI.2
  have hcl := fun (hok : RatOk r) (w' : World) (b : Nat) (hx : Ext w w') (hO : Own w' b #[.int .i64 r.num, .int .i64 r.den] 90) =>
    containsFunc_itv (fun x => goodB x && hasB x r) 157 #[.pointer (some ⟨b, 0, none⟩)] v l w' (hl.mono mono_ItvR hx.ple) (enters_of Tryz.func157 (by kernel_rfl) rfl) (by
      rintro w'' hx2 x hy cs ⟨rfl, hI⟩
      exact hasf_c x r b w'' hI hok (hO.keep hx2))
  have hs : Hid (hasL l r = (decide (RatOk r) && l.any fun x => goodB x && hasB x r)) := rfl
  generalize hasL l r = Q at *
  generalize (l.any fun x => goodB x && hasB x r) = q at *
  obtain ⟨a, c, rfl, -, -⟩ := hl.form
  obtain ⟨e, he⟩ : ∃ e, ErrIf (RatOk r) 1 = e := ⟨_, rfl⟩
  rw [he] at hv
  by_cases hok : RatOk r
  · have h0 : e = 0 := by rw [← he]; exact ErrIf_t hok
    subst h0
    have hs2 : Hid (Q = q) := Lib.hid (by rw [hs.out]; simp [hok])
    replace hcl := hcl hok
    clear hok he hs hI hl
    obtain ⟨n, d⟩ := r
    unfold raA
    dsimp only at *
    have hx := Ext.new w (.cells #[.int .i64 n, .int .i64 d] 90)
    have hO := Proofs.YtnpnjcaomakehaaGreat.Own.new w #[.int .i64 n, .int .i64 d] 90
    replace hv := Lib.hid hv
    replace hcl := Lib.hid hcl
    go_enter Tryz.func134, Tryz.ntmps134
    go_upto_region 1 with (fail)
    generalize w.heap.size = b2 at *
    generalize w.alloc _ = W at *
    obtain ⟨c1, f1⟩ := hO.facts
    have z1 := hO.lt
    go_wp2_with fail
    refine RetV_at (hv.out _) ?_
    intro w2 hx2
    replace hO := hO.keep hx2
    replace hx := hx.then hx2
    have hc2 := Lib.hid (hcl.out w2 b2 hx hO)
    clear c1 f1 z1
    go_wp2_with fail
    refine RetV_at hc2.out ?_
    intro w3 hx3
    go_wp2_with fail
    go_ret
    exact ⟨ret_bool (by rw [hs2.out]), hx.then hx3⟩
  · have h0 : e = 1 := by rw [← he]; exact ErrIf_f hok
    subst h0
    have hs2 : Hid (Q = false) := Lib.hid (by rw [hs.out]; simp [hok])
    clear hok he hs hI hl hcl
    obtain ⟨n, d⟩ := r
    unfold raA
    dsimp only at *
    have hx := Ext.new w (.cells #[.int .i64 n, .int .i64 d] 90)
    have hO := Proofs.YtnpnjcaomakehaaGreat.Own.new w #[.int .i64 n, .int .i64 d] 90
    replace hv := Lib.hid hv
    go_enter Tryz.func134, Tryz.ntmps134
    go_upto_region 1 with (fail)
    generalize w.heap.size = b2 at *
    generalize w.alloc _ = W at *
    obtain ⟨c1, f1⟩ := hO.facts
    have z1 := hO.lt
    go_wp2_with fail
    refine RetV_at (hv.out _) ?_
    intro w2 hx2
    go_wp2_with fail
    go_ret
    exact ⟨ret_bool hs2.out.symm, hx.then hx2⟩
end Go.Proofs.YtnpnjcaomakehaaGreat
namespace Go.Proofs.YtnpnjcaomakehaaGreat
open Go.RowKit
section
variable {w0 : World} {H0 : PH} {K : List (Nat × Array Value)} {H : PH} {w : World} {g : Nat} {v1 v2 v3 : Value} {c : List Int} {v : List Val} {p : List Thing}
end
mutual
def Thing.clsLt (m : Int) : Thing → Prop
  | .mk c _ p => (∀ x ∈ c, x < m) ∧ clsLts m p
def clsLts (m : Int) : List Thing → Prop
  | [] => True
  | x :: xs => x.clsLt m ∧ clsLts m xs
end
theorem clsLts_iff {m : Int} : ∀ {l : List Thing}, clsLts m l ↔ ∀ p ∈ l, p.clsLt m
  | [] => by simp [clsLts]
  | x :: xs => by simp [clsLts, clsLts_iff]
theorem Thing.clsLt_iff (m : Int) (t : Thing) : t.clsLt m ↔ (∀ x ∈ t.cls, x < m) ∧ ∀ p ∈ t.parts, p.clsLt m := by
  cases t with
  | mk c v p => simp only [Thing.clsLt, Thing.cls, Thing.parts, clsLts_iff]
end Go.Proofs.YtnpnjcaomakehaaGreat
namespace Go.Proofs.YtnpnjcaomakehaaGreat
open Go.RowKit Go.Shelf
def clsF (n : Int) : Fm := .mk 1 n [] []
theorem clsF_R (H : PH) {n : Int} (hn : I64 n) : FmR H (fmC (clsF n) none 0 none 0) (clsF n) := FmR.of (by simp [clsF, Fm.op, I64]) (by simpa [clsF, Fm.n] using hn) (SliceRep.nil _ _ _) (SliceRep.nil _ _ _)
theorem ints1 {w : World} {g : Nat} {x : Int} {T : TypeId} (ho : Own w g #[.int .i64 x] T) (hx : I64 x) : IntsR (ph w) (.slice (some ⟨g, 0, none⟩) 1 1) [x] := by
  refine ⟨_, 1, rfl, Nat.le_refl _, by simp [maxLen], .inr ⟨g, 0, rfl, ⟨[.int .i64 x], rfl, fun j hj => ?_, rfl, hx⟩, trivial⟩⟩
  obtain rfl : j = 0 := by omega
  rw [← cell_ph]
  exact ho.facts.1 0
mutual
noncomputable def hold (ps : List (List Int)) : Fm → Thing → Bool
  | .mk op n inn kids, t =>
    if op = 1 then t.cls.any fun c => B (isTx ps c n)
    else if op = 2 then (match getVal t.vals n with | some r => hasL inn r | none => false)
    else if op = 3 then t.parts.any fun p => holdFst ps kids p
    else if op = 4 then holdAll ps kids t
    else if op = 5 then holdAny ps kids t
    else if op = 6 then !holdFst ps kids t
    else true
noncomputable def holdAll (ps : List (List Int)) : List Fm → Thing → Bool
  | [], _ => true
  | f :: l, t => hold ps f t && holdAll ps l t
noncomputable def holdAny (ps : List (List Int)) : List Fm → Thing → Bool
  | [], _ => false
  | f :: l, t => hold ps f t || holdAny ps l t
noncomputable def holdFst (ps : List (List Int)) : List Fm → Thing → Bool
  | [], _ => false
  | f :: _, t => hold ps f t
end
theorem holdAll_eq (ps : List (List Int)) (t : Thing) : ∀ l : List Fm, holdAll ps l t = l.all fun f => hold ps f t
  | [] => rfl
  | f :: l => by rw [holdAll, List.all_cons, holdAll_eq ps t l]
theorem holdAny_eq (ps : List (List Int)) (t : Thing) : ∀ l : List Fm, holdAny ps l t = l.any fun f => hold ps f t
  | [] => rfl
  | f :: l => by rw [holdAny, List.any_cons, holdAny_eq ps t l]
theorem hold_eq (ps : List (List Int)) (f : Fm) (t : Thing) : hold ps f t = if f.op = 1 then t.cls.any fun c => B (isTx ps c f.n)
    else if f.op = 2 then (match getVal t.vals f.n with | some r => hasL f.inn r | none => false)
    else if f.op = 3 then t.parts.any fun p => holdFst ps f.kids p
    else if f.op = 4 then f.kids.all fun g => hold ps g t
    else if f.op = 5 then f.kids.any fun g => hold ps g t
    else if f.op = 6 then !holdFst ps f.kids t
    else true := by
  cases f with
  | mk op n inn kids => rw [hold, holdAll_eq, holdAny_eq]; rfl
theorem containsFm_P {H : PH} (fid : Nat) (cap : Array Value) (vs : Value) (xs : List Fm) (hv : FmsR H vs xs) (p : Fm → Bool) (w : World) (hH : PLe H (ph w))
    (hfn : ∀ args w, (callFunc fid args).run Tryz.prog w = .ok (.enter fid args) w)
    (hf : ∀ x ∈ xs, ∀ wr cs, Ext w wr → FmR H cs x → Calls Tryz.prog fid (#[.agg cs.toArray] ++ cap) wr (RetV wr (.bool (p x)))) :
    Calls Tryz.prog 85 #[vs, .func (.func fid) #[] cap] w (RetV w (.bool (xs.any p))) := by
  refine (containsFunc_J fid cap vs xs hv (fun k wr => Ext w wr ∧ ∀ x ∈ xs.take k, p x = false) (fun wr => Ext w wr ∧ xs.any p = true) w hfn (fun k hk wr cs hR hE => ?_) (fun k wr hR => hH.trans hR.1.ple) ⟨Ext.rfl' _, by simp⟩).mono ?_
  · refine (hf _ (List.getElem_mem hk) wr cs hR.1 hE).mono ?_
    rintro e w1 ⟨rfl, hx⟩
    cases hp : p xs[k] with
    | true => exact .inr ⟨rfl, hR.1.then hx, List.any_eq_true.2 ⟨_, List.getElem_mem hk, hp⟩⟩
    | false =>
      refine .inl ⟨rfl, hR.1.then hx, fun x hxm => ?_⟩
      rw [List.take_succ_eq_append_getElem hk] at hxm
      rcases List.mem_append.1 hxm with h | h
      · exact hR.2 x h
      · rw [List.mem_singleton.1 h]; exact hp
  · rintro e w1 (⟨rfl, hx, h1⟩ | ⟨rfl, hx, h1⟩)
    · rw [List.take_length] at h1
      have : xs.any p = false := by
        rw [List.any_eq_false]; intro x hx; simp [h1 x hx]
      exact ⟨by rw [this], hx⟩
    · exact ⟨by rw [h1], hx⟩
theorem kinds1_c (x n : Int) (b : Nat) (w : World) (hc : w.cell? ⟨b, 0, none⟩ = some (.int .i64 n)) : Calls Tryz.prog 127 #[.int .i64 x, .pointer (some ⟨b, 0, none⟩)] w (RetV w (.bool (decide (n ≤ x)))) := by
  have hb := cell_lt hc
  go_enter Tryz.func127, Tryz.ntmps127
  go_wp2_with fail
  go_ret
  exact ⟨rfl, xE⟩
end Go.Proofs.YtnpnjcaomakehaaGreat
namespace Go.Proofs.YtnpnjcaomakehaaGreat
open Go.RowKit Go.Shelf
theorem holds2_c {ps : List (List Int)} (hn : ps.length ≤ 64) (x n : Int) (B g3 g4 : Nat) (w : World) (hx : I64 x) (hi : I64 n) (hc3 : w.cell? ⟨g3, 0, none⟩ = some (.pointer (some ⟨B, 0, none⟩))) (hc4 : w.cell? ⟨g4, 1, none⟩ = some (.int .i64 n)) (hT : TaxR w B ps) :
    Calls Tryz.prog 131 #[.int .i64 x, .pointer (some ⟨g3, 0, none⟩), .pointer (some ⟨g4, 0, none⟩)] w (RetV w (.bool (Proofs.YtnpnjcaomakehaaGreat.B (isTx ps x n)))) := by
  have l3 := cell_lt hc3
  have l4 := cell_lt hc4
  go_enter Tryz.func131, Tryz.ntmps131
  go_wp2_with fail
  refine RetV_at (isTx_c hn hT x n hx hi) ?_
  intro w1 hx1
  go_wp2_with fail
  go_ret
  exact ⟨rfl, hx1⟩
theorem getVal_I {h : PH} {v : Value} {l : List Val} (hr : ValsR h v l) {k : Int} {r : Rat2} (hg : getVal l k = some r) : r.I := by
  unfold getVal at hg
  cases hf : l.find? (·.attr == k) with
  | none => rw [hf] at hg; cases hg
  | some x =>
    rw [hf] at hg
    have hm := List.mem_of_find?_eq_some hf
    obtain ⟨j, hj, rfl⟩ := List.getElem_of_mem hm
    obtain ⟨a, c, rfl, -, hr⟩ := hr.form
    obtain ⟨b, o, cs, -, -, -, hE⟩ := hr.get j hj
    obtain ⟨-, h1, h2, h3⟩ := hE
    simp only [Option.map_some, Option.some.injEq] at hg
    rw [← hg]; exact ⟨h2, h3⟩
set_option maxRecDepth 100000 in
set_option maxHeartbeats 4000000 in
theorem holds_c {ps : List (List Int)} (hn : ps.length ≤ 64) (B : Nat) (f : Fm) : ∀ (t : Thing) (cs ds : List Value) (w : World), TaxR w B ps → FmR (ph w) cs f → ThingR (ph w) ds t → wholeB f = true →
    Calls Tryz.prog 101 #[.pointer (some ⟨B, 0, none⟩), .agg cs.toArray, .agg ds.toArray] w (RetV w (.bool (hold ps f t))) := by
  induction f using Fm.ind with
  | h f ih =>
    intro t cs ds w hT hF hD hw
    obtain ⟨a3, c3, a4, c4, rfl, i1, i2, -, -, hfi, hfk⟩ := hF.form
    obtain ⟨b1, d1, b2, d2, b3, d3, rfl, -, -, -, h1, h2, h3⟩ := hD.form
    have hF0 := hF
    have hwk : ∀ x ∈ f.kids, wholeB x = true := by
      rw [wholeB_eq, Bool.and_eq_true, List.all_eq_true] at hw; exact hw.2
    have hform : formed1 f = true := by
      rw [wholeB_eq, Bool.and_eq_true] at hw; exact hw.1
    have HI := Lib.hid (fun x hx t cs ds w a b c => ih x hx t cs ds w a b c (hwk x hx))
    clear ih hw hwk
    unfold fmC at hF ⊢
    have e5 : Ext w ((((w.alloc (.cells #[.pointer (some ⟨B, 0, none⟩)] 100)).alloc (.cells #[.int .i64 f.op, .int .i64 f.n, .slice a3 f.inn.length c3, .slice a4 f.kids.length c4] 50)).alloc (.cells #[.slice b1 t.cls.length d1, .slice b2 t.vals.length d2, .slice b3 t.parts.length d3] 107)).alloc (.cells #[.func (.func 130) #[] #[.pointer (some ⟨w.heap.size, 0, none⟩), .pointer (some ⟨w.heap.size + 1 + 1, 0, none⟩)]] 99)) := xE
    have o3 : Own ((((w.alloc (.cells #[.pointer (some ⟨B, 0, none⟩)] 100)).alloc (.cells #[.int .i64 f.op, .int .i64 f.n, .slice a3 f.inn.length c3, .slice a4 f.kids.length c4] 50)).alloc (.cells #[.slice b1 t.cls.length d1, .slice b2 t.vals.length d2, .slice b3 t.parts.length d3] 107)).alloc (.cells #[.func (.func 130) #[] #[.pointer (some ⟨w.heap.size, 0, none⟩), .pointer (some ⟨w.heap.size + 1 + 1, 0, none⟩)]] 99)) w.heap.size #[.pointer (some ⟨B, 0, none⟩)] 100 := oE
    have o4 : Own ((((w.alloc (.cells #[.pointer (some ⟨B, 0, none⟩)] 100)).alloc (.cells #[.int .i64 f.op, .int .i64 f.n, .slice a3 f.inn.length c3, .slice a4 f.kids.length c4] 50)).alloc (.cells #[.slice b1 t.cls.length d1, .slice b2 t.vals.length d2, .slice b3 t.parts.length d3] 107)).alloc (.cells #[.func (.func 130) #[] #[.pointer (some ⟨w.heap.size, 0, none⟩), .pointer (some ⟨w.heap.size + 1 + 1, 0, none⟩)]] 99)) (w.heap.size + 1) #[.int .i64 f.op, .int .i64 f.n, .slice a3 f.inn.length c3, .slice a4 f.kids.length c4] 50 := oE
    have o5 : Own ((((w.alloc (.cells #[.pointer (some ⟨B, 0, none⟩)] 100)).alloc (.cells #[.int .i64 f.op, .int .i64 f.n, .slice a3 f.inn.length c3, .slice a4 f.kids.length c4] 50)).alloc (.cells #[.slice b1 t.cls.length d1, .slice b2 t.vals.length d2, .slice b3 t.parts.length d3] 107)).alloc (.cells #[.func (.func 130) #[] #[.pointer (some ⟨w.heap.size, 0, none⟩), .pointer (some ⟨w.heap.size + 1 + 1, 0, none⟩)]] 99)) (w.heap.size + 1 + 1) #[.slice b1 t.cls.length d1, .slice b2 t.vals.length d2, .slice b3 t.parts.length d3] 107 := oE
    have o7 : Own ((((w.alloc (.cells #[.pointer (some ⟨B, 0, none⟩)] 100)).alloc (.cells #[.int .i64 f.op, .int .i64 f.n, .slice a3 f.inn.length c3, .slice a4 f.kids.length c4] 50)).alloc (.cells #[.slice b1 t.cls.length d1, .slice b2 t.vals.length d2, .slice b3 t.parts.length d3] 107)).alloc (.cells #[.func (.func 130) #[] #[.pointer (some ⟨w.heap.size, 0, none⟩), .pointer (some ⟨w.heap.size + 1 + 1, 0, none⟩)]] 99)) (w.heap.size + 1 + 1 + 1) #[.func (.func 130) #[] #[.pointer (some ⟨w.heap.size, 0, none⟩), .pointer (some ⟨w.heap.size + 1 + 1, 0, none⟩)]] 99 := oE
    go_enter Tryz.func101, Tryz.ntmps101
    go_upto_region 2 with (fail)
    generalize World.alloc _ _ = w5 at *
    generalize hB7 : w.heap.size + 1 + 1 + 1 = g7 at *
    generalize hB5 : w.heap.size + 1 + 1 = g5 at *
    generalize hB4 : w.heap.size + 1 = g4 at *
    generalize w.heap.size = g3 at *
    clear hB7 hB5 hB4
    have u3 : w5.cell? ⟨g3, 0, none⟩ = some (.pointer (some ⟨B, 0, none⟩)) := o3.facts.1 0
    have u40 : w5.cell? ⟨g4, 0, none⟩ = some (.int .i64 f.op) := o4.facts.1 0
    have u41 : w5.cell? ⟨g4, 1, none⟩ = some (.int .i64 f.n) := o4.facts.1 1
    have u42 : w5.cell? ⟨g4, 2, none⟩ = some (.slice a3 f.inn.length c3) := o4.facts.1 2
    have u43 : w5.cell? ⟨g4, 3, none⟩ = some (.slice a4 f.kids.length c4) := o4.facts.1 3
    have u50 : w5.cell? ⟨g5, 0, none⟩ = some (.slice b1 t.cls.length d1) := o5.facts.1 0
    have u51 : w5.cell? ⟨g5, 1, none⟩ = some (.slice b2 t.vals.length d2) := o5.facts.1 1
    have u52 : w5.cell? ⟨g5, 2, none⟩ = some (.slice b3 t.parts.length d3) := o5.facts.1 2
    have u7 : w5.cell? ⟨g7, 0, none⟩ = some (.func (.func 130) #[] #[.pointer (some ⟨g3, 0, none⟩), .pointer (some ⟨g5, 0, none⟩)]) := o7.facts.1 0
    have l3 := o3.lt
    have l4 := o4.lt
    have l5 := o5.lt
    have l7 := o7.lt
    clear o3 o4 o5 o7 hF
    have hself : ∀ x ∈ f.kids, ∀ wr cs', Ext w5 wr → FmR (ph w) cs' x → Calls Tryz.prog 130 (#[.agg cs'.toArray] ++ #[.pointer (some ⟨g3, 0, none⟩), .pointer (some ⟨g5, 0, none⟩)]) wr (RetV wr (.bool (hold ps x t))) := by
      intro x hx wr cs' he hE
      have hE0 := hE
      obtain ⟨p3, q3, p4, q4, rfl, -⟩ := hE.form
      unfold fmC at *
      replace u3 := he.cell1 u3
      replace u50 := he.cell1 u50
      replace u51 := he.cell1 u51
      replace u52 := he.cell1 u52
      replace l3 := cell_lt u3
      replace l5 := cell_lt u50
      replace hT := (hT.keep e5).keep he
      have hD' := mono_ThingR _ _ _ _ (e5.then he).ple hD
      have hE' := mono_FmR _ _ _ _ (e5.then he).ple hE0
      clear u40 u41 u42 u43 u7 l4 l7 hE hE0 h1 h2 h3 hfi hfk hF0 hform
      go_enter Tryz.func130, Tryz.ntmps130
      go_wp2_with fail
      refine RetV_at (HI.out x hx t _ _ _ (hT.keep xE) (mono_FmR _ _ _ _ (Ext.ple xE) hE') (mono_ThingR _ _ _ _ (Ext.ple xE) hD')) ?_
      intro w9 hx9
      go_wp2_with fail
      go_ret
      exact ⟨rfl, xE⟩
    replace hself := Lib.hid hself
    by_cases q1 : f.op = 1
    · have hv : Hid (hold ps f t = t.cls.any fun c => Proofs.YtnpnjcaomakehaaGreat.B (isTx ps c f.n)) := by show _ = _; rw [hold_eq, if_pos q1]
      have b1 : (f.op == 1) = true := by simpa using q1
      have hc := containsInt_P 131 #[.pointer (some ⟨g3, 0, none⟩), .pointer (some ⟨g4, 0, none⟩)] _ t.cls (h1.mono mono_IntR e5.ple) (fun c => Proofs.YtnpnjcaomakehaaGreat.B (isTx ps c f.n)) w5 (fun _ _ h => h) (fun args w => enterFn Tryz.func131 rfl rfl args w) (fun k hk wr hx hi => holds2_c hn _ f.n B g3 g4 wr hi i2 (hx.cell1 u3) (hx.cell1 u41) ((hT.keep e5).keep hx))
      rw [← hv.out] at hc
      generalize hold ps f t = res at *
      clear hv q1
      go_wp2_with fail
      refine RetV_at hc ?_
      intro w6 hx6
      go_wp2_with fail
      go_ret
      exact ⟨rfl, e5.then hx6⟩
    have b1 : (f.op == 1) = false := by simpa using q1
    by_cases q2 : f.op = 2
    · have hv : Hid (hold ps f t = (match getVal t.vals f.n with | some r => hasL f.inn r | none => false)) := by show _ = _; rw [hold_eq, if_neg q1, if_pos q2] <;> (cases getVal t.vals f.n <;> rfl)
      have b2 : (f.op == 2) = true := by simpa using q2
      have hval := tvalue_c t f.n _ w5 (mono_ThingR _ _ _ _ e5.ple hD)
      have hfi5 := hfi.mono mono_ItvR e5.ple
      cases hg : getVal t.vals f.n with
      | none =>
        rw [hg] at hval hv
        unfold optRat at hval
        dsimp only at hval hv
        clear q1 q2
        go_wp2_with fail
        refine RetV_at hval ?_
        intro w6 hx6
        replace u42 := hx6.cell1 u42
        replace l4 := cell_lt u42
        clear hval
        go_wp2_with fail
        go_ret
        exact ⟨by rw [hv.out]; rfl, xE⟩
      | some r =>
        have hrI := getVal_I h2 hg
        rw [hg] at hval hv
        unfold optRat at hval
        dsimp only at hval hv
        clear q1 q2
        go_wp2_with fail
        refine RetV_at hval ?_
        intro w6 hx6
        replace u42 := hx6.cell1 u42
        replace l4 := cell_lt u42
        clear hval
        go_wp2_with fail
        refine RetV_at (hasL_c _ f.inn r _ (hfi5.mono mono_ItvR (Ext.ple xE)) hrI) ?_
        intro w7 hx7
        rw [← hv.out]
        go_wp2_with fail
        go_ret
        exact ⟨rfl, xE⟩
    have b2 : (f.op == 2) = false := by simpa using q2
    by_cases q3 : f.op = 3
    · have hv : Hid (hold ps f t = t.parts.any fun p => holdFst ps f.kids p) := by show _ = _; rw [hold_eq, if_neg q1, if_neg q2, if_pos q3]
      have b3' : (f.op == 3) = true := by simpa using q3
      obtain ⟨g0, hk0⟩ : ∃ g0, f.kids = [g0] := by
        obtain ⟨op, n, inn, kids⟩ := f
        simp only [Fm.op, Fm.kids] at *
        subst q3
        rw [formed1_mk] at hform
        have hl : kids.length = 1 := by
          split at hform
          · cases hform
          · simpa using hform
        exact List.length_eq_one_iff.1 hl
      have hc := containsFunc_thing (fun p => holdFst ps f.kids p) 135 #[.pointer (some ⟨g3, 0, none⟩), .pointer (some ⟨g4, 0, none⟩)] _ t.parts w5 (h3.mono mono_ThingR e5.ple) (fun args w => enterFn Tryz.func135 rfl rfl args w) (by
        intro wr hx p hp cs' hE
        have hE0 := hE
        obtain ⟨p1, r1, p2, r2, p3, r3, rfl, -⟩ := hE.form
        have hkr := hfk.mono mono_FmR (e5.then hx).ple
        obtain ⟨kb, ko, k3, m3, k4, m4, ek, z0, z1, z2, z3, hEk, zl⟩ := FmsR.at hkr 0 (by rw [hk0]; simp)
        have hg0 : f.kids[0]'(by rw [hk0]; simp) = g0 := by simp [hk0]
        rw [hg0] at z0 z1 z2 z3 hEk
        simp only [Nat.zero_mul, Nat.add_zero] at z0 z1 z2 z3
        have hhf : holdFst ps f.kids p = hold ps g0 p := by rw [hk0]; rfl
        have hkl : f.kids.length = 1 := by rw [hk0]; rfl
        rw [hhf]
        subst ek
        have hIk := HI.out g0 (by rw [hk0]; simp) p
        unfold fmC at hEk
        replace u3 := hx.cell1 u3
        replace u43 := hx.cell1 u43
        rw [hkl] at u43
        replace l3 := cell_lt u3
        replace l4 := cell_lt u43
        replace hT := (hT.keep e5).keep hx
        have hb0 : (0 : Nat) < 1 := by omega
        clear u40 u41 u42 u50 u51 u52 u7 l5 l7 h1 h2 h3 hfi hfk hF0 hform hE hkr hhf hg0 hself hv hkl
        replace hIk := Lib.hid hIk
        go_enter Tryz.func135, Tryz.ntmps135
        go_upto_region 1 with (fail)
        have ex := Ext.new wr (.cells #[.slice p1 p.cls.length r1, .slice p2 p.vals.length r2, .slice p3 p.parts.length r3] 107)
        have ox := Own.new wr #[.slice p1 p.cls.length r1, .slice p2 p.vals.length r2, .slice p3 p.parts.length r3] 107
        replace u3 := ex.cell1 u3
        replace u43 := ex.cell1 u43
        replace z0 := ex.cell1 z0
        replace z1 := ex.cell1 z1
        replace z2 := ex.cell1 z2
        replace z3 := ex.cell1 z3
        replace l3 := cell_lt u3
        replace l4 := cell_lt u43
        replace zl := cell_lt z0
        replace hT := hT.keep ex
        replace hEk := mono_FmR _ _ _ _ ex.ple hEk
        have hEp := mono_ThingR _ _ _ _ ex.ple hE0
        generalize wr.alloc _ = w8 at *
        generalize wr.heap.size = g8 at *
        have y0 : w8.cell? ⟨g8, 0, none⟩ = some (.slice p1 p.cls.length r1) := ox.facts.1 0
        have y1 : w8.cell? ⟨g8, 1, none⟩ = some (.slice p2 p.vals.length r2) := ox.facts.1 1
        have y2 : w8.cell? ⟨g8, 2, none⟩ = some (.slice p3 p.parts.length r3) := ox.facts.1 2
        have yl := ox.lt
        clear ox
        (refine wp_region_I 8 (by kernel_rfl) (by kernel_rfl) ?_; simp only [List.toList_toArray, List.take_succ_cons, List.take_zero, List.drop_succ_cons, List.drop_zero])
        iterate 6 (refine wiA rfl (by simp) rfl ?_; (try simp only [List.nil_append, List.cons_append]))
        (refine walkI_is (u := ?_) rfl (by simp) rfl ?_ ?_; rotate_left; (focus (intro A w' hS hA K hK; (simp only [List.map_cons, List.map_nil, knows, Is, Op.operands, Call.operands, List.lookup_cons, List.lookup_nil, Nat.reduceBEq, Bool.false_eq_true, if_false, if_true, Act.eval, Array.getD_eq_getD_getElem?, List.getElem?_toArray, List.getElem?_cons_succ, List.getElem?_cons_zero, Option.getD_some, and_true, true_and, List.append_toArray, List.nil_append, List.cons_append, List.toList_toArray, Array.toList_append, Option.toArray, List.append_nil] at hA); first | (go_simp; refine (hIk.out _ _ _ (hT.keep hS) (mono_FmR _ _ _ _ hS.ple hEk) (mono_ThingR _ _ _ _ hS.ple hEp)).mono ?_; rintro e w9 ⟨rfl, hx9⟩; exact hK _ hx9) | (obtain ⟨hSc, hSf, hSs⟩ := hS.cells; go_simp; exact hK _ xN))); (try simp only [List.nil_append, List.cons_append]))
        (refine wiA rfl (by simp) rfl ?_; (try simp only [List.nil_append, List.cons_append]))
        (refine walkI_nil ?_; simp only [List.nil_append, List.cons_append, fins, Is, forall_eq, Act.put, List.setIfInBounds_toArray, List.set_cons_zero, List.set_cons_succ])
        intro w9 hx9
        go_wp2_with fail
        go_ret
        exact ⟨rfl, ex.then hx9⟩)
      rw [← hv.out] at hc
      generalize hold ps f t = res at *
      clear hv q1 q2 q3
      go_wp2_with fail
      refine RetV_at hc ?_
      intro w6 hx6
      go_wp2_with fail
      go_ret
      exact ⟨rfl, e5.then hx6⟩
    have b3' : (f.op == 3) = false := by simpa using q3
    have hfn := fun args w => enterFn Tryz.func130 rfl rfl args w
    by_cases q4 : f.op = 4
    · have hv : Hid (hold ps f t = !(f.kids.any fun g => !hold ps g t)) := by
        show _ = _
        rw [hold_eq, if_neg q1, if_neg q2, if_neg q3, if_pos q4, List.not_any_eq_all_not]
        simp
      have b4' : (f.op == 4) = true := by simpa using q4
      have hc := containsFm_P 136 #[.pointer (some ⟨g7, 0, none⟩)] _ f.kids hfk (fun g => !hold ps g t) w5 e5.ple (fun args w => enterFn Tryz.func136 rfl rfl args w) (by
        intro x hx wr cs' he hE
        have hE0 := hE
        obtain ⟨p3, q3', p4, q4', rfl, -⟩ := hE.form
        unfold fmC at *
        replace u7 := he.cell1 u7
        replace l7 := cell_lt u7
        have hs := fun w' (e : Ext wr w') => hself.out x hx w' _ (he.then e) hE0
        replace hs := Lib.hid hs
        generalize hold ps x t = rx at *
        clear u3 u40 u41 u42 u43 u50 u51 u52 l3 l4 l5 h1 h2 h3 hfi hfk hF0 hform hE hE0 hself hv
        go_enter Tryz.func136, Tryz.ntmps136
        go_wp2_with fail
        refine RetV_at (hs.out _ xE) ?_
        intro w9 hx9
        go_wp2_with fail
        go_ret
        exact ⟨rfl, xE⟩)
      generalize (f.kids.any fun g => !hold ps g t) = res at *
      clear q1 q2 q3 q4 hfn
      go_wp2_with fail
      refine RetV_at hc ?_
      intro w6 hx6
      go_wp2_with fail
      go_ret
      exact ⟨by rw [hv.out]; rfl, e5.then hx6⟩
    have b4' : (f.op == 4) = false := by simpa using q4
    by_cases q5 : f.op = 5
    · have hv : Hid (hold ps f t = f.kids.any fun g => hold ps g t) := by show _ = _; rw [hold_eq, if_neg q1, if_neg q2, if_neg q3, if_neg q4, if_pos q5]
      have b5' : (f.op == 5) = true := by simpa using q5
      have hc := containsFm_P 130 #[.pointer (some ⟨g3, 0, none⟩), .pointer (some ⟨g5, 0, none⟩)] _ f.kids hfk (fun g => hold ps g t) w5 e5.ple hfn (fun x hx wr cs' he hE => hself.out x hx wr cs' he hE)
      rw [← hv.out] at hc
      generalize hold ps f t = res at *
      clear hv q1 q2 q3 q4 q5 hfn
      go_wp2_with fail
      refine RetV_at hc ?_
      intro w6 hx6
      go_wp2_with fail
      go_ret
      exact ⟨rfl, e5.then hx6⟩
    have b5' : (f.op == 5) = false := by simpa using q5
    by_cases q6 : f.op = 6
    · have hv : Hid (hold ps f t = !holdFst ps f.kids t) := by show _ = _; rw [hold_eq, if_neg q1, if_neg q2, if_neg q3, if_neg q4, if_neg q5, if_pos q6]
      have b6' : (f.op == 6) = true := by simpa using q6
      obtain ⟨g0, hk0⟩ : ∃ g0, f.kids = [g0] := by
        obtain ⟨op, n, inn, kids⟩ := f
        simp only [Fm.op, Fm.kids] at *
        subst q6
        rw [formed1_mk] at hform
        have hl : kids.length = 1 := by
          split at hform
          · cases hform
          · simpa using hform
        exact List.length_eq_one_iff.1 hl
      obtain ⟨kb, ko, k3, m3, k4, m4, ek, z0, z1, z2, z3, hEk, zl⟩ := FmsR.atH hfk e5.ple 0 (by rw [hk0]; simp)
      have hg0 : f.kids[0]'(by rw [hk0]; simp) = g0 := by simp [hk0]
      rw [hg0] at z0 z1 z2 z3 hEk
      simp only [Nat.zero_mul, Nat.add_zero] at z0 z1 z2 z3
      have hhf : holdFst ps f.kids t = hold ps g0 t := by rw [hk0]; rfl
      have hkl : f.kids.length = 1 := by rw [hk0]; rfl
      rw [hhf] at hv
      subst ek
      have hs := fun w' (e : Ext w5 w') => hself.out g0 (by rw [hk0]; simp) w' _ e hEk
      unfold fmC at hs
      replace hs := Lib.hid hs
      rw [hkl] at u43
      have hb0 : (0 : Nat) < 1 := by omega
      generalize hold ps g0 t = rx at *
      clear q1 q2 q3 q4 q5 q6 hself hhf hg0 hEk hkl
      go_upto_region 15 with (fail)
      (refine wp_region_I 8 (by kernel_rfl) (by kernel_rfl) ?_; simp only [List.toList_toArray, List.take_succ_cons, List.take_zero, List.drop_succ_cons, List.drop_zero])
      iterate 5 (refine wiA rfl (by simp) rfl ?_; (try simp only [List.nil_append, List.cons_append]))
      (refine walkI_is (u := ?_) rfl (by simp) rfl ?_ ?_; rotate_left; (focus (intro A w' hS hA K hK; (simp only [List.map_cons, List.map_nil, knows, Is, Op.operands, Call.operands, List.lookup_cons, List.lookup_nil, Nat.reduceBEq, Bool.false_eq_true, if_false, if_true, Act.eval, Array.getD_eq_getD_getElem?, List.getElem?_toArray, List.getElem?_cons_succ, List.getElem?_cons_zero, Option.getD_some, and_true, true_and, List.append_toArray, List.nil_append, List.cons_append, List.toList_toArray, Array.toList_append, Option.toArray, List.append_nil] at hA); first | (go_simp; refine (hs.out _ hS).mono ?_; rintro e w9 ⟨rfl, hx9⟩; exact hK _ hx9) | (obtain ⟨hSc, hSf, hSs⟩ := hS.cells; go_simp; exact hK _ xN))); (try simp only [List.nil_append, List.cons_append]))
      iterate 2 (refine wiA rfl (by simp) rfl ?_; (try simp only [List.nil_append, List.cons_append]))
      (refine walkI_nil ?_; simp only [List.nil_append, List.cons_append, fins, Is, forall_eq, Act.put, List.setIfInBounds_toArray, List.set_cons_zero, List.set_cons_succ])
      intro w9 hx9
      go_wp2_with fail
      go_ret
      exact ⟨by rw [hv.out]; rfl, e5.then hx9⟩
    have b6' : (f.op == 6) = false := by simpa using q6
    have hv : Hid (hold ps f t = true) := by show _ = _; rw [hold_eq, if_neg q1, if_neg q2, if_neg q3, if_neg q4, if_neg q5, if_neg q6]
    clear q1 q2 q3 q4 q5 q6 hself
    go_wp2_with fail
    go_ret
    exact ⟨by rw [hv.out]; rfl, e5⟩
end Go.Proofs.YtnpnjcaomakehaaGreat
namespace Go.Proofs.YtnpnjcaomakehaaGreat
open Go.RowKit Go.Shelf
def HoldsP (w : World) (r : Bool) (e : Ending) (w' : World) : Prop := e = .returned (.tuple #[.bool r, .int .i64 0]) ∧ Ext w w'
end Go.Proofs.YtnpnjcaomakehaaGreat
namespace Go.Proofs.YtnpnjcaomakehaaGreat
open Go.RowKit
section
variable {ps : List (List Int)} {t : Thing}
end
end Go.Proofs.YtnpnjcaomakehaaGreat
namespace Go.Proofs.YtnpnjcaomakehaaGreat
open Go.RowKit Go.Shelf
end Go.Proofs.YtnpnjcaomakehaaGreat
