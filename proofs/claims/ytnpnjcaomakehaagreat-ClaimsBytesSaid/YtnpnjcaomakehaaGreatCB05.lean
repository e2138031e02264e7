/- Lemmas for CB, part 6: A map of the call's own, keyed by the numbers from 0 on, as a chunk of its memory, and more. -/
import Derived.Maps.OwnSet
import Derived.Deep.CutBlock
import Derived.Test.YtnpnjcaomakehaaGreatCB00
import Derived.Test.YtnpnjcaomakehaaGreatCB01
import Derived.Test.YtnpnjcaomakehaaGreatCB02
import Derived.Test.YtnpnjcaomakehaaGreatCB04
set_option linter.unusedSimpArgs false
set_option linter.unusedVariables false
namespace Go.Proofs.YtnpnjcaomakehaaGreat
open Go.RowKit Go.Maps
def heldR (v : Value) : Option (DataW Value × List MemPlace) := some (.held v, [])
theorem keyInt : Keyed Tryz.prog 3 := int_keyed Tryz.underlying3
def TabD (D : DataW Value) (acc : List (Option Value)) : Prop := IsMap D ∧ ∀ k : Nat, Maps.has D (.int .i64 k) = ((acc[k]?).join).isSome ∧ ∀ v, (acc[k]?).join = some v → ∀ z, D.atKey (.int .i64 k) z = .held v
theorem TabD.nil : TabD (.map []) [] := ⟨⟨_, rfl⟩, fun k => ⟨by simp [Maps.has], fun v h => by simp at h⟩⟩
theorem isKey_int (n : Int) : WideAt.IsKeyLit (.int .i64 n) := trivial
theorem TabD.put {D : DataW Value} {acc : List (Option Value)} (h : TabD D acc) (v : Value) : TabD (D.put (.int .i64 acc.length) (.held v)) (acc ++ [some v]) := by
  refine ⟨h.1.put _ _, fun k => ?_⟩
  by_cases hk : k = acc.length
  · subst hk
    rw [has_put_same h.1 (isKey_int _)]
    refine ⟨by simp, fun u hu z => ?_⟩
    simp at hu
    rw [atKey_put_same h.1 (isKey_int _), hu]
  · have hne : Lit.int .i64 (k : Int) ≠ Lit.int .i64 (acc.length : Int) := by intro e; cases e; omega
    have e : ((acc ++ [some v])[k]?).join = (acc[k]?).join := by
      by_cases h1 : k < acc.length
      · rw [List.getElem?_append_left h1]
      · rw [List.getElem?_append_right (by omega), List.getElem?_eq_none (by simp; omega), List.getElem?_eq_none (by omega)]
    rw [has_put_other hne, e]
    refine ⟨(h.2 k).1, fun u hu z => ?_⟩
    rw [atKey_put_other hne]
    exact (h.2 k).2 u hu z
theorem TabD.skip {D : DataW Value} {acc : List (Option Value)} (h : TabD D acc) : TabD D (acc ++ [none]) := by
  refine ⟨h.1, fun k => ?_⟩
  have e : ((acc ++ [none])[k]?).join = (acc[k]?).join := by
    by_cases h1 : k < acc.length
    · rw [List.getElem?_append_left h1]
    · rw [List.getElem?_append_right (by omega), List.getElem?_eq_none (l := acc) (by omega)]
      by_cases h2 : k = acc.length
      · subst h2; simp
      · rw [List.getElem?_eq_none (by simp; omega)]
  rw [e]; exact h.2 k
def tabM (b : Nat) (acc : List (Option Value)) : Chunk where
  foot := some b
  ok := fun _ w => ∃ n D, n ≤ acc.length ∧ w.ownsMap Tryz.prog 3 heldR b n D ∧ TabD D acc
  lt := fun h e => by cases e; obtain ⟨n, D, -, h, -⟩ := h; exact h.lt
  loc := fun h e => by
    obtain ⟨n, D, h1, ⟨es, cl, h2, h3⟩, h4⟩ := h
    exact ⟨n, D, h1, ⟨es, cl, by rw [e b rfl]; exact h2, h3⟩, h4⟩
  mono := fun h _ => h
section
variable {w0 w : World} {H0 H : PH} {L : List Chunk}
theorem Mem.newMap (h : Mem w0 H0 L H w) : Mem w0 H0 (L ++ [tabM w.heap.size []]) H (w.alloc (.map #[] 0)) := by
  refine (h.ext (Ext.new w _)).add _ ⟨0, _, Nat.le_refl _, World.ownsMap_made _ _ _ _, TabD.nil⟩ fun k hk => ?_
  cases hk
  exact ⟨h.ex.size, fresh_none h.ple (Nat.le_refl _), fun i d hi he => by have := h.lt hi he; omega⟩
theorem Mem.skipT (h : Mem w0 H0 L H w) (i : Nat) {b : Nat} {acc : List (Option Value)} (hi : L[i]? = some (tabM b acc)) : Mem w0 H0 (L.set i (tabM b (acc ++ [none]))) H w := by
  obtain ⟨n, D, h1, h2, h3⟩ := h.ok i _ hi
  exact h.put i hi (c' := tabM b (acc ++ [none])) ⟨n, D, by simp; omega, h2, h3.skip⟩ (fun k hk => .inl hk) h.ex fun _ _ _ => rfl
variable {ops : Array Oper} {rest : List Oper} {o : Oper} {a : Act} {Q : Exit → Act → World → Prop}
theorem wpList_look_T (i : Nat) (hg : o.guard = none) (m x : Operand) (t e : TypeId) (hop : o.op = Op.lookup t m x true) (ht : Tryz.prog.underlying t = some (.map 3 e)) {z : Value} (hz : (zeroValue e).run Tryz.prog w = .ok z w)
    {b : Nat} {acc : List (Option Value)} (hm : a.eval m = .map (some b)) (hS : Mem w0 H0 L H w) (hi : L[i]? = some (tabM b acc)) {r : Int} (hx : a.eval x = .int .i64 r) (hr0 : 0 ≤ r) (hr1 : r ≤ 9223372036854775807)
    {u : Value} (hu : ((acc[r.toNat]?).join).getD z = u) {ok : Bool} (hok : ((acc[r.toNat]?).join).isSome = ok)
    (hK : wpList Tryz.prog ops Q rest (a.put o.dst (.tuple #[u, .bool ok])) w) : wpList Tryz.prog ops Q (o :: rest) a w := by
  subst hu hok
  obtain ⟨k, rfl⟩ : ∃ k : Nat, r = (k : Int) := ⟨r.toNat, by omega⟩
  simp only [Int.toNat_natCast] at hK
  obtain ⟨n, D, h1, h2, h3⟩ := hS.ok i _ hi
  have hkey : keyOf Tryz.prog 3 (.int .i64 (k : Int)) = some (.int .i64 k) := keyOf_int_mk Tryz.underlying3 (WalkArith.wf_i64 (by omega))
  refine wpList_plain hg fun K' hK' => ?_
  have hrun : (Instr.lookup t (.map (some b)) (.int .i64 (k : Int)) true).run Tryz.prog w = .ok (.tuple #[((acc[k]?).join).getD z, .bool ((acc[k]?).join).isSome]) w := by
    rw [← (h3.2 k).1]
    obtain ⟨es, clock, hb, F, _, rfl⟩ := h2
    rcases Maps.fit_look true keyInt ht hz hb F hkey with ⟨hrun, _, hat⟩ | ⟨e0, y, _, _, hrun, hRv, hat, _⟩
    · have hh := Maps.has_false_of_atKey hat
      rw [hh]
      have h4 := (h3.2 k).1
      rw [hh] at h4
      cases hv : (acc[k]?).join with
      | some v => rw [hv] at h4; cases h4
      | none => exact hrun
    · have hh := Maps.has_true_of_atKey hat
      rw [hh]
      have h4 := (h3.2 k).1
      rw [hh] at h4
      cases hv : (acc[k]?).join with
      | none => rw [hv] at h4; cases h4
      | some v =>
        have h5 := (h3.2 k).2 v hv .nil
        rw [hat] at h5
        cases hRv
        cases h5
        exact hrun
  unfold Oper.wp
  simp only [execOp, hop, hm, hx, Sem.run_bind, hrun, Result.andThen_ok, Sem.run_pure]
  exact hK' _ _ hK
theorem wpList_put_T (i : Nat) (hg : o.guard = none) (m x v : Operand) (t e : TypeId) (hop : o.op = Op.mapUpdate t m x v) (ht : Tryz.prog.underlying t = some (.map 3 e))
    {b : Nat} {acc : List (Option Value)} (hm : a.eval m = .map (some b)) (hS : Mem w0 H0 L H w) (hi : L[i]? = some (tabM b acc)) (hx : a.eval x = .int .i64 acc.length) (hk : acc.length < maxLen) {val : Value} (hv : a.eval v = val)
    (hK : ∀ w', Mem w0 H0 (L.set i (tabM b (acc ++ [some val]))) H w' → wpList Tryz.prog ops Q rest (a.put o.dst undef) w') : wpList Tryz.prog ops Q (o :: rest) a w := by
  obtain ⟨n, D, h1, h2, h3⟩ := hS.ok i _ hi
  have hkey : keyOf Tryz.prog 3 (.int .i64 (acc.length : Int)) = some (.int .i64 acc.length) := keyOf_int_mk Tryz.underlying3 (WalkArith.wf_i64 (by unfold maxLen at hk; omega))
  refine wpList_mapUpdate_own w hg m x v t hop _ e keyInt ht heldR b n D hm h2 (by omega) _ _ _ hx hv hkey (.held val) [] rfl fun w' h4 h5 => hK w' ?_
  refine hS.put i hi (c' := tabM b (acc ++ [some val])) ⟨n + 1, _, by simp; omega, h4, h3.put val⟩ (fun k hk => .inl hk) (hS.ex.grown h5 fun k hk => by cases hk; exact (hS.fr i _ hi b rfl).1) fun k hk hne => h5.block k hk fun e => hne e.symm
end
end Go.Proofs.YtnpnjcaomakehaaGreat
namespace Go.Proofs.YtnpnjcaomakehaaGreat
open Go.RowKit
theorem setE_len {l : List Itv} (h : setE l = 0) : l.length ≤ 32 := by
  have hE : setE l = if setF none l = false then 1 else if 32 < l.length then 4 else 0 := rfl
  rw [hE] at h
  split at h
  · cases h
  · split at h
    · cases h
    · omega
theorem formed_inn {f : Fm} (h : formed1 f = true) : f.inn.length ≤ 32 := by
  obtain ⟨op, n, inn, kids⟩ := f
  rw [formed1_mk] at h
  simp only [Fm.inn]
  split at h
  · cases h
  · rename_i h1
    by_cases h2 : op = 2
    · subst h2
      simp at h
      exact setE_len h.2
    · have : inn = [] := by
        cases inn with
        | nil => rfl
        | cons x xs => exact absurd (.inl ⟨h2, by simp⟩) h1
      rw [this]; simp
theorem whole_bulk (f : Fm) (h : wholeB f = true) : f.bulk ≤ 33 * f.size := by
  induction f using Fm.ind with
  | h f ih =>
    rw [wholeB_eq, Bool.and_eq_true, List.all_eq_true] at h
    have h1 := formed_inn h.1
    have h2 : sumN Fm.bulk f.kids ≤ 33 * sumN Fm.size f.kids := by
      have : ∀ l : List Fm, (∀ x ∈ l, x.bulk ≤ 33 * x.size) → sumN Fm.bulk l ≤ 33 * sumN Fm.size l := by
        intro l
        induction l with
        | nil => intro _; simp [sumN]
        | cons x xs ih2 =>
          intro hx
          have h3 := hx x (by simp)
          have h4 := ih2 fun y hy => hx y (by simp [hy])
          simp only [sumN]; omega
      exact this _ fun x hx => ih x hx (h.2 x hx)
    rw [Fm.bulk_eq, Fm.size_eq]; omega
theorem valid_bulk {f : Fm} (h : validF f = 0) : f.bulk ≤ 3168 := by
  obtain ⟨h1, h2, h3⟩ := validF_0 h
  have := whole_bulk f h3
  omega
theorem sumN_const {α : Type} {f : α → Nat} {c : Nat} : ∀ {l : List α}, (∀ x ∈ l, f x ≤ c) → sumN f l ≤ l.length * c
  | [], _ => by simp [sumN]
  | x :: xs, h => by
    have h1 := h x (by simp)
    have h2 := sumN_const (f := f) (c := c) (l := xs) fun y hy => h y (by simp [hy])
    simp only [sumN, List.length_cons, Nat.succ_mul]; omega
theorem infoFm : (Tryz.prog.info? 50).map (fun i => (i.zero, i.size, i.bytes)) = some (some (.agg #[.int .i64 0, .int .i64 0, .slice none 0 0, .slice none 0 0]), 4, 64) := by kernel_rfl
theorem one_FmR {h : PH} : ∀ cs x, FmR h cs x → ∀ u ∈ cs, u.oneCell' = true := by
  intro cs x hr u hu
  obtain ⟨a3, c3, a4, c4, rfl, -⟩ := hr.form
  simp only [fmC, List.mem_cons, List.not_mem_nil, or_false] at hu
  rcases hu with rfl | rfl | rfl | rfl <;> rfl
abbrev fmV (f : Fm) (a3 : Option Addr) (c3 : Nat) (a4 : Option Addr) (c4 : Nat) : Value := .agg #[.int .i64 f.op, .int .i64 f.n, .slice a3 f.inn.length c3, .slice a4 f.kids.length c4]
abbrev zeroFv : Value := .agg #[.int .i64 0, .int .i64 0, .slice none 0 0, .slice none 0 0]
def AccR (H : PH) (acc : List (Option Value)) (ms : List (Option Fm)) : Prop := acc.length = ms.length ∧
  ∀ k : Nat, (∃ f b3 d3 b4 d4, (acc[k]?).join = some (fmV f b3 d3 b4 d4) ∧ (ms[k]?).join = some f ∧ FmR H (fmC f b3 d3 b4 d4) f) ∨ ((acc[k]?).join = none ∧ (ms[k]?).join = none)
theorem AccR.mono {H H' : PH} {acc : List (Option Value)} {ms : List (Option Fm)} (h : AccR H acc ms) (hl : PLe H H') : AccR H' acc ms := by
  refine ⟨h.1, fun k => ?_⟩
  rcases h.2 k with ⟨f, b3, d3, b4, d4, h1, h2, h3⟩ | h1
  · exact .inl ⟨f, b3, d3, b4, d4, h1, h2, mono_FmR _ _ _ _ hl h3⟩
  · exact .inr h1
theorem AccR.nil (H : PH) : AccR H [] [] := ⟨rfl, fun k => .inr (by simp)⟩
theorem get_snoc {α : Type} (l : List α) (x : α) (k : Nat) : (l ++ [x])[k]? = if k < l.length then l[k]? else if k = l.length then some x else none := by
  split
  · rename_i h; rw [List.getElem?_append_left h]
  · split
    · rename_i h; subst h; simp
    · rw [List.getElem?_eq_none (by simp; omega)]
theorem AccR.snoc {H : PH} {acc : List (Option Value)} {ms : List (Option Fm)} (h : AccR H acc ms) {f : Fm} {b3 : Option Addr} {d3 : Nat} {b4 : Option Addr} {d4 : Nat} (hf : FmR H (fmC f b3 d3 b4 d4) f) : AccR H (acc ++ [some (fmV f b3 d3 b4 d4)]) (ms ++ [some f]) := by
  refine ⟨by simp [h.1], fun k => ?_⟩
  rw [get_snoc, get_snoc, ← h.1]
  split
  · exact h.2 k
  · split
    · exact .inl ⟨f, b3, d3, b4, d4, rfl, rfl, hf⟩
    · exact .inr ⟨rfl, rfl⟩
theorem AccR.skip {H : PH} {acc : List (Option Value)} {ms : List (Option Fm)} (h : AccR H acc ms) : AccR H (acc ++ [none]) (ms ++ [none]) := by
  refine ⟨by simp [h.1], fun k => ?_⟩
  rw [get_snoc, get_snoc, ← h.1]
  split
  · exact h.2 k
  · split <;> exact .inr ⟨rfl, rfl⟩
theorem noF_R (H : PH) : FmR H (fmC noF none 0 none 0) noF := FmR.of (by simp [noF, Fm.op, I64]) (by simp [noF, Fm.n, I64]) (SliceRep.nil _ _ _) (SliceRep.nil _ _ _)
theorem AccR.get {H : PH} {acc : List (Option Value)} {ms : List (Option Fm)} (h : AccR H acc ms) (r : Int) :
    ∃ f b3 d3 b4 d4, (at? ms r).getD noF = f ∧ ((acc[r.toNat]?).join).getD zeroFv = fmV f b3 d3 b4 d4 ∧ ((acc[r.toNat]?).join).isSome = (at? ms r).isSome ∧ FmR H (fmC f b3 d3 b4 d4) f := by
  rcases h.2 r.toNat with ⟨f, b3, d3, b4, d4, h1, h2, h3⟩ | ⟨h1, h2⟩
  · exact ⟨f, b3, d3, b4, d4, by unfold at?; rw [h2]; rfl, by rw [h1]; rfl, by unfold at?; rw [h1, h2]; rfl, h3⟩
  · exact ⟨noF, none, 0, none, 0, by unfold at?; rw [h2]; rfl, by rw [h1]; rfl, by unfold at?; rw [h1, h2]; rfl, noF_R H⟩
theorem kidsOf_snoc (acc : List (Option Fm)) (l : List Int) (r : Int) : kidsOf acc (l ++ [r]) = kidsOf acc l ++ [(at? acc r).getD noF] := by simp [kidsOf]
theorem goodOf_snoc {α : Type} (acc : List (Option α)) (l : List Int) (r : Int) : goodOf acc (l ++ [r]) = (goodOf acc l && (at? acc r).isSome) := by simp [goodOf, List.all_append]
theorem kidsOf_len (acc : List (Option Fm)) (l : List Int) : (kidsOf acc l).length = l.length := List.length_map _
theorem means_valid {l : List Cl} (hv : validC l = 0) (r : Int) {f : Fm} (h : at? (meansL l) r = some f) : validF f = 0 := by
  have hr : r.toNat < l.length := by
    unfold at? at h
    by_cases h1 : r.toNat < l.length
    · exact h1
    · rw [List.getElem?_eq_none (by unfold meansL; rw [tabl_len]; omega)] at h; cases h
  refine meanC_valid hv r.toNat hr (f := f) ?_
  unfold meanC
  unfold at? at *
  rw [Int.toNat_natCast]; exact h
end Go.Proofs.YtnpnjcaomakehaaGreat
namespace Go.Proofs.YtnpnjcaomakehaaGreat
open Go.RowKit
theorem zeroFm (w : World) : (zeroValue 50).run Tryz.prog w = .ok zeroFv w := by kernel_rfl
def MeanP (w : World) (H0 : PH) (l : List Cl) (n : Nat) (e : Ending) (w' : World) : Prop :=
  ∃ b acc H, e = .returned (.map (some b)) ∧ Mem w H0 [tabM b acc] H w' ∧ AccR H acc (meansL (l.take n))
theorem take_snocC (l : List Cl) (k : Nat) (h : k < l.length) : meansL (l.take (k + 1)) = meansL (l.take k) ++ [meanOf (meansL (l.take k)) l[k]] := by
  rw [List.take_succ_eq_append_getElem h]
  exact tabl_snoc _ _
set_option maxRecDepth 100000 in
set_option maxHeartbeats 4000000 in
theorem meanings_c {H0 : PH} (v : Value) (l : List Cl) (i : Nat) (w : World) (hH : PLe H0 (ph w)) (hr : ClsR H0 v l) (hv : validC l = 0) (hi : i < l.length) : Calls Tryz.prog 81 #[v, .int .i64 i] w (MeanP w H0 l (i + 1)) := by
  obtain ⟨a, c, rfl, hlen, hr⟩ := hr.form
  have hc : l.length ≤ c := by obtain ⟨a', c', h1, h2, -⟩ := hr; cases h1; exact h2
  have hmax := validC_0 hv
  have hc64 : c ≤ 9223372036854775807 := by obtain ⟨a', c', h1, -, h2, -⟩ := hr; cases h1; unfold maxLen at h2; omega
  have hmm := @run_makeMap Tryz.prog
  go_enter Tryz.func81, Tryz.ntmps81
  go_wp2_with fail
  have hM := (Mem.start w H0 hH).newMap
  simp only [List.nil_append] at hM
  clear hmm
  go_loopw [21] (fun j wr => ∃ (k : Nat) (acc : List (Option Value)) (H : PH), k ≤ i + 1 ∧ j = .int .i64 k ∧ Mem w H0 [tabM w.heap.size acc] H wr ∧ AccR H acc (meansL (l.take k))) (fun j _ => i + 1 - (intOf j).toNat)
  case atStart => exact ⟨0, [], _, Nat.zero_le _, rfl, hM, AccR.nil _⟩
  case round =>
    obtain ⟨k, acc, H, hk, rfl, hM, hA⟩ := hrel
    have hal : acc.length = k := by rw [hA.1]; unfold meansL; rw [tabl_len, List.length_take]; omega
    by_cases hlt : k < i + 1
    · have hkl : k < l.length := by omega
      have b0 : decide ((k : Int) < (i : Int) + 1) = true := by simp; omega
      obtain ⟨b, o, a1, c1, a3, c3, a4, c4, rfl, h0, h1, h2, h3, h4, hbl, hrl, hri, hE⟩ := ClsR.atH hr (hM.le.trans hM.ple) k hkl
      obtain ⟨v1, v2, v3⟩ := hmax.2 k hkl
      have hsn := Lib.hid (take_snocC l k hkl)
      have hmv := Lib.hid (fun r f => means_valid (l := l.take k) (r := r) (f := f) (by
        refine validC_of (by rw [List.length_take]; omega) fun q hq => ?_
        rw [List.length_take] at hq
        rw [List.getElem_take]; exact hmax.2 q (by omega)))
      generalize meansL (l.take k) = ms at *
      generalize l[k] = x at *
      unfold fmC at hE
      have hbk := valid_bulk v3
      by_cases hrf : x.refs = []
      · have b1 : decide (0 < x.refs.length) = false := by rw [hrf]; rfl
        have hme : Hid (meanOf ms x = some x.body) := by show _ = _; unfold meanOf; rw [if_pos hrf]
        have hEH := mono_FmR _ _ _ _ hM.le hE
        have hM1 := hM.ext (((Ext.new wr (.cells #[.slice a1 x.refs.length c1, .int .i64 x.body.op, .int .i64 x.body.n, .slice a3 x.body.inn.length c3, .slice a4 x.body.kids.length c4] 58)).alloc' (.cells #[.int .i64 x.body.op, .int .i64 x.body.n, .slice a3 x.body.inn.length c3, .slice a4 x.body.kids.length c4] 50)))
        have hA2 := hA.snoc hEH
        rw [← hme.out, ← hsn.out] at hA2
        clear hrf hri hr
        go_wp2_with fail
        refine RetV_at (fvalid_c x.body _ _ (mono_FmR _ _ _ _ hM1.ple hEH) (by omega)) ?_
        intro w2 hx2
        rw [v3]
        have hM2 := hM1.ext hx2
        have oB := Own.keep (Own.new' (wr.alloc (.cells #[.slice a1 x.refs.length c1, .int .i64 x.body.op, .int .i64 x.body.n, .slice a3 x.body.inn.length c3, .slice a4 x.body.kids.length c4] 58)) #[.int .i64 x.body.op, .int .i64 x.body.n, .slice a3 x.body.inn.length c3, .slice a4 x.body.kids.length c4] 50 (n := wr.heap.size + 1) (by simp)) hx2
        obtain ⟨gc, gf⟩ := oB.facts
        have gl := oB.lt
        clear hM1 hx2 oB
        go_wp2_with (at_mapUpdate; refine wpList_put_T 0 rfl _ _ _ 126 50 rfl Tryz.underlying126 rfl hM2 rfl (by rw [hal]; rfl) (by unfold maxLen; omega) rfl ?_; intro w3 hM3)
        try simp only [List.set_cons_succ, List.set_cons_zero] at hM3
        go_roundw
        case rel => exact ⟨k + 1, _, H, by omega, by go_num, hM3, hA2⟩
        case measure => simp [intOf]; omega
      · have hrp : 0 < x.refs.length := List.length_pos_iff.2 hrf
        have b1 : decide (0 < x.refs.length) = true := by simpa using hrp
        have hme : Hid (meanOf ms x = if goodOf ms x.refs = true ∧ validF (andF x.body (kidsOf ms x.refs)) = 0 then some (andF x.body (kidsOf ms x.refs)) else none) := by show _ = _; unfold meanOf; rw [if_neg hrf]
        have hM1 := ((((hM.new #[.slice a1 x.refs.length c1, .int .i64 x.body.op, .int .i64 x.body.n, .slice a3 x.body.inn.length c3, .slice a4 x.body.kids.length c4] 58).new' #[.int .i64 x.body.op, .int .i64 x.body.n, .slice a3 x.body.inn.length c3, .slice a4 x.body.kids.length c4] 50 (n := wr.heap.size + 1) (by simp)).new' #[.int .i64 5, .int .i64 0, .slice none 0 0, .slice none 0 0] 50 (n := wr.heap.size + 1 + 1) (by simp)).nil mono_FmR 4 50)
        simp only [List.nil_append, List.cons_append] at hM1
        clear hrf
        go_wp2_with fail
        generalize ((wr.alloc _).alloc _).alloc _ = W1 at *
        have hBd : Hid (∀ r ∈ x.refs, 0 ≤ r ∧ r ≤ 9223372036854775807) := fun r hr => by have := refsB_mem v2 r hr; omega
        generalize hB7 : wr.heap.size = B7 at *
        go_loopw [9, 36] (fun gd j wx => ∃ (m : Nat) (kv : Value), m ≤ x.refs.length ∧ j = .int .i64 m ∧ gd = .bool (goodOf ms (x.refs.take m)) ∧ Mem w H0 [tabM w.heap.size acc, box B7 #[.slice a1 x.refs.length c1, .int .i64 x.body.op, .int .i64 x.body.n, .slice a3 x.body.inn.length c3, .slice a4 x.body.kids.length c4] 58, box (B7 + 1) #[.int .i64 x.body.op, .int .i64 x.body.n, .slice a3 x.body.inn.length c3, .slice a4 x.body.kids.length c4] 50, box (B7 + 1 + 1) #[.int .i64 5, .int .i64 0, .slice none 0 0, kv] 50, own mono_FmR 4 50 kv (kidsOf ms (x.refs.take m))] H wx) (fun _ j _ => x.refs.length - (intOf j).toNat)
        case atStart => exact ⟨0, _, Nat.zero_le _, rfl, rfl, hM1⟩
        case round =>
          obtain ⟨m, kv, hm, rfl, rfl, hM2⟩ := hrel
          by_cases hltm : m < x.refs.length
          · obtain ⟨rb, ro, rfl, r0, ri, rbl⟩ := IntsR.at (hri.mono mono_IntR (hM2.le.trans hM2.ple)) m hltm
            obtain ⟨ka, kc, rfl, -⟩ := hM2.form 4 rfl
            obtain ⟨g, p3, e3, p4, e4, g1, g2, g3, gR⟩ := hA.get x.refs[m]
            have hr0 := hBd.out _ (List.getElem_mem hltm)
            have hks := kidsOf_snoc ms (x.refs.take m) x.refs[m]
            have hgs := goodOf_snoc ms (x.refs.take m) x.refs[m]
            rw [← List.take_succ_eq_append_getElem hltm] at hks hgs
            rw [g1] at hks
            have hkl8 : (kidsOf ms (x.refs.take m)).length ≤ 8 := by rw [kidsOf_len, List.length_take]; omega
            replace hks := Lib.hid hks
            replace hgs := Lib.hid hgs
            obtain ⟨tc, tf⟩ := (hM2.box 3 rfl).facts
            have t3 : _ = some (Value.slice ka (kidsOf ms (x.refs.take m)).length kc) := tc 3
            have tf3 := tf 3
            have tl := (hM2.box 3 rfl).lt
            generalize x.refs[m] = r at *
            generalize kidsOf ms (x.refs.take m) = ks at *
            unfold fmC at gR
            have hM3 := hM2.ext (((Ext.new wr (.cells #[.int .i64 g.op, .int .i64 g.n, .slice p3 g.inn.length e3, .slice p4 g.kids.length e4] 50)).alloc' (.cells #[.int .i64 g.op, .int .i64 g.n, .slice p3 g.inn.length e3, .slice p4 g.kids.length e4] 50)))
            have hS := Src.lit1 (E := FmR) (H := H) (w := (wr.alloc (.cells #[.int .i64 g.op, .int .i64 g.n, .slice p3 g.inn.length e3, .slice p4 g.kids.length e4] 50)).alloc (.cells #[.int .i64 g.op, .int .i64 g.n, .slice p3 g.inn.length e3, .slice p4 g.kids.length e4] 50)) (b := wr.heap.size + 1) (sz := 4) gR rfl (fun j => by rw [(Own.new' (wr.alloc (.cells #[.int .i64 g.op, .int .i64 g.n, .slice p3 g.inn.length e3, .slice p4 g.kids.length e4] 50)) #[.int .i64 g.op, .int .i64 g.n, .slice p3 g.inn.length e3, .slice p4 g.kids.length e4] 50 (n := wr.heap.size + 1) (by simp)).facts.1 j]; simp)
            generalize hgd : goodOf ms (x.refs.take m) = gd at *
            replace hgd := Lib.hid hgd
            clear tc tf g1
            cases gd
            all_goals
              go_wp2_with (first | (at_lookup; refine wpList_look_T 0 rfl _ _ 126 50 rfl Tryz.underlying126 (zeroFm _) rfl hM2 rfl rfl hr0.1 hr0.2 g2 g3 ?_) | (at_builtin; refine wpList_append_M 4 rfl _ _ 45 rfl Tryz.underlying45 infoFm rfl rfl rfl (hM3) rfl (hS) one_FmR ?c3 ?c4 ?c5))
              case c3 => simp; omega
              case c4 => simp; omega
              case c5 =>
                intro v' w3 hM4
                try simp only [List.set_cons_succ, List.set_cons_zero] at hM4
                obtain ⟨na, nc, rfl, -⟩ := hM4.form 4 rfl
                obtain ⟨uc, uf⟩ := (hM4.box 3 rfl).facts
                have uf3 := uf 3
                have uc3 : _ = some (Value.slice ka ks.length kc) := uc 3
                have ul := (hM4.box 3 rfl).lt
                have hM5 := hM4.set 3 rfl 3 (.slice na (ks ++ [g]).length nc)
                simp only [List.set_cons_succ, List.set_cons_zero, List.setIfInBounds_toArray] at hM5
                rw [show (ks ++ [g]).length = ks.length + 1 by simp] at hM5
                rw [← hks.out] at hM5
                clear uc uf hM3 hM4 hM2 hS
                go_wp2_with fail
                go_roundw
                case rel => exact ⟨m + 1, _, by omega, by go_num, by rw [hgs.out]; simp, hM5⟩
                case measure => simp [intOf]; omega
          · obtain rfl : m = x.refs.length := by omega
            rw [List.take_length] at hM2 ⊢
            obtain ⟨ka, kc, rfl, -⟩ := hM2.form 4 rfl
            obtain ⟨H1, hl1, hM3, hkR⟩ := hM2.freezeS 4 rfl
            simp only [List.set_cons_succ, List.set_cons_zero] at hM3
            have hk8 : (kidsOf ms x.refs).length ≤ 8 := by rw [kidsOf_len]; exact v1
            have hkb : sumN Fm.bulk (kidsOf ms x.refs) ≤ 8 * 3168 := by
              refine Nat.le_trans (sumN_const (c := 3168) fun g hg => ?_) (Nat.mul_le_mul_right _ hk8)
              obtain ⟨r, -, rfl⟩ := List.mem_map.1 hg
              cases hq : at? ms r with
              | none => simp [noF, Fm.bulk, fbulks]
              | some f => exact valid_bulk (hmv.out r f hq)
            generalize kidsOf ms x.refs = ks at *
            have hoR : FmR H1 (fmC (.mk 5 0 [] ks) none 0 ka kc) (.mk 5 0 [] ks) := FmR.of (by simp [Fm.op, I64]) (by simp [Fm.n, I64]) (SliceRep.nil _ _ _) hkR
            have hbR := mono_FmR _ _ _ _ hM3.le hE
            obtain ⟨q7, -⟩ := (hM3.box 1 rfl).facts
            obtain ⟨q10, -⟩ := (hM3.box 3 rfl).facts
            obtain ⟨q8, qf8⟩ := (hM3.box 2 rfl).facts
            have l7 := (hM3.box 1 rfl).lt
            have l8 := (hM3.box 2 rfl).lt
            have l10 := (hM3.box 3 rfl).lt
            have q70 : _ = some (Value.slice a1 x.refs.length c1) := q7 0
            have q71 : _ = some (Value.int .i64 x.body.op) := q7 1
            have q72 : _ = some (Value.int .i64 x.body.n) := q7 2
            have q73 : _ = some (Value.slice a3 x.body.inn.length c3) := q7 3
            have q74 : _ = some (Value.slice a4 x.body.kids.length c4) := q7 4
            have q100 : _ = some (Value.int .i64 5) := q10 0
            have q101 : _ = some (Value.int .i64 0) := q10 1
            have q102 : _ = some (Value.slice none 0 0) := q10 2
            have q103 : _ = some (Value.slice ka ks.length kc) := q10 3
            have q80 : _ = some (Value.int .i64 x.body.op) := q8 0
            have q81 : _ = some (Value.int .i64 x.body.n) := q8 1
            have q82 : _ = some (Value.slice a3 x.body.inn.length c3) := q8 2
            have q83 : _ = some (Value.slice a4 x.body.kids.length c4) := q8 3
            have hM4 := ((((hM3.set 2 rfl 0 (.int .i64 4)).set 2 rfl 1 (.int .i64 0)).set 2 rfl 2 (.slice none 0 0)).set 2 rfl 3 (.slice (some ⟨wr.heap.size, 0, none⟩) 2 2)).new' #[.int .i64 x.body.op, .int .i64 x.body.n, .slice a3 x.body.inn.length c3, .slice a4 x.body.kids.length c4, .int .i64 5, .int .i64 0, .slice none 0 0, .slice ka ks.length kc] 50 (n := wr.heap.size) (by simp)
            simp only [List.set_cons_succ, List.set_cons_zero, List.setIfInBounds_toArray, List.nil_append, List.cons_append] at hM4
            have hM5 := hM4.asOwn 5 rfl mono_FmR (sz := 4) (xs := [x.body, .mk 5 0 [] ks]) (n := 2) (by simp) (by simp [maxLen]) rfl ⟨_, _, rfl, rfl, hbR, _, [], rfl, rfl, hoR, rfl⟩
            simp only [List.set_cons_succ, List.set_cons_zero, List.length_cons, List.length_nil, Nat.zero_add, Nat.reduceAdd] at hM5
            obtain ⟨H2, hl2, hM6, hR2⟩ := hM5.freezeS 5 rfl
            simp only [List.set_cons_succ, List.set_cons_zero] at hM6
            have hfR : FmR H2 (fmC (andF x.body ks) none 0 (some ⟨wr.heap.size, 0, none⟩) 2) (andF x.body ks) := FmR.of (by simp [andF, Fm.op, I64]) (by simp [andF, Fm.n, I64]) (SliceRep.nil _ _ _) hR2
            have hAt := (hA.mono (hl1.trans hl2)).snoc hfR
            have hAn := (hA.mono (hl1.trans hl2)).skip
            have hfb : (andF x.body ks).bulk ≤ 900000 := by
              rw [andF, Fm.bulk_eq]; simp only [Fm.inn, Fm.kids, sumN, List.length_nil]
              rw [Fm.bulk_eq (.mk 5 0 [] ks)]; simp only [Fm.inn, Fm.kids, List.length_nil]; omega
            clear q7 q10 q8 hM2 hM3 hM4 hM5 hR2 hkR hri hr
            cases hgd : goodOf ms x.refs with
            | false =>
              have hme2 : meanOf ms x = none := by rw [hme.out, if_neg (by rw [hgd]; simp)]
              have hM7 := (hM6.pick [0] (by simp)).skipT 0 rfl
              simp only [List.map_cons, List.map_nil, List.getElem?_cons_zero, Option.getD_some, List.set_cons_zero] at hM7
              rw [← hme2, ← hsn.out] at hAn
              replace hAn := Lib.hid hAn
              clear hgd hme2 hAt
              go_wp2_with fail
              exact ⟨⟨k + 1, acc ++ [none], H2, by omega, by go_num, hM7, hAn.out⟩, by simp [intOf]; omega⟩
            | true =>
              go_wp2_with fail
              refine RetV_at (fvalid_c _ _ _ (mono_FmR _ _ _ _ hM6.ple hfR) hfb) ?_
              intro w2 hx2
              have hM8 := hM6.ext hx2
              have g8 := (hM8.box 2 rfl).facts.1
              have l8' := (hM8.box 2 rfl).lt
              have g80 : _ = some (Value.int .i64 4) := g8 0
              have g81 : _ = some (Value.int .i64 0) := g8 1
              have g82 : _ = some (Value.slice none 0 0) := g8 2
              have g83 : _ = some (Value.slice (some ⟨wr.heap.size, 0, none⟩) 2 2) := g8 3
              have hM9 := hM8.pick [0] (by simp)
              simp only [List.map_cons, List.map_nil, List.getElem?_cons_zero, Option.getD_some] at hM9
              clear g8 hM6 hM8 hx2 q70 q71 q72 q73 q74 q100 q101 q102 q103 q80 q81 q82 q83
              by_cases he : validF (andF x.body ks) = 0
              · have hme2 : meanOf ms x = some (andF x.body ks) := by rw [hme.out, if_pos ⟨hgd, he⟩]
                rw [← hme2, ← hsn.out] at hAt
                replace hAt := Lib.hid hAt
                rw [he]
                clear hgd hme2 hAn he
                go_wp2_with (at_mapUpdate; refine wpList_put_T 0 rfl _ _ _ 126 50 rfl Tryz.underlying126 rfl hM9 rfl (by rw [hal]; rfl) (by unfold maxLen; omega) rfl ?_; intro w3 hMa)
                try simp only [List.set_cons_succ, List.set_cons_zero] at hMa
                exact ⟨⟨k + 1, _, H2, by omega, by go_num, hMa, hAt.out⟩, by simp [intOf]; omega⟩
              · have hme2 : meanOf ms x = none := by rw [hme.out, if_neg (fun h => he h.2)]
                have hMb := hM9.skipT 0 rfl
                simp only [List.set_cons_zero] at hMb
                rw [← hme2, ← hsn.out] at hAn
                replace hAn := Lib.hid hAn
                have b3 : (validF (andF x.body ks) == 0) = false := by simpa using he
                generalize validF (andF x.body ks) = e at *
                clear hgd hme2 hAt he
                go_wp2_with fail
                exact ⟨⟨k + 1, acc ++ [none], H2, by omega, by go_num, hMb, hAn.out⟩, by simp [intOf]; omega⟩
    · obtain rfl : k = i + 1 := by omega
      go_wp2_with fail
      go_ret
      exact ⟨_, acc, H, rfl, hM, hA⟩
theorem Mem.H_none {w0 w : World} {H0 H : PH} {L : List Chunk} (h : Mem w0 H0 L H w) {k : Nat} (hk : k < w0.heap.size) (h0 : H0 k = none) : H k = none := by
  cases hq : H k with
  | none => rfl
  | some o =>
    have := h.ub k o hq
    unfold Proofs.YtnpnjcaomakehaaGreat.up at this
    rw [if_pos hk, h0] at this
    cases this
theorem PLe.setC {H : PH} {w : World} (h : PLe H (ph w)) {b : Nat} (hb : H b = none) (j : Nat) (u : Value) : PLe H (ph (w.setCell ⟨b, j, none⟩ u)) := by
  intro k o hk
  show (w.setCell ⟨b, j, none⟩ u).heap[k]? = some o
  rw [Below.heap_setCell _ _ _ _ (fun e => by rw [e, hb] at hk; cases hk)]
  exact h k o hk
def meaningE (l : List Cl) (i : Int) : Fm × Int := if checkC l i ≠ 0 then (noF, checkC l i) else match meanC l i.toNat with | some f => (f, 0) | none => (noF, 4)
def FmE (w : World) (r : Fm × Int) (e : Ending) (w' : World) : Prop := ∃ b3 d3 b4 d4, e = .returned (.tuple #[fmV r.1 b3 d3 b4 d4, .int .i64 r.2]) ∧ Ext w w' ∧ FmR (ph w') (fmC r.1 b3 d3 b4 d4) r.1
set_option maxHeartbeats 1000000 in
theorem meaning_c (v : Value) (l : List Cl) (i : Int) (w : World) (hr : ClsR (ph w) v l) (hs : ∀ c ∈ l, c.body.bulk ≤ 900000) : Calls Tryz.prog 49 #[v, .int .i64 i] w (FmE w (meaningE l i)) := by
  have hr' := hr
  obtain ⟨a, c, rfl, hlen, -⟩ := hr.form
  go_enter Tryz.func49, Tryz.ntmps49
  go_wp2_with fail
  refine RetV_at (ccheck_c _ l i _ (hr'.mono mono_ClR (Ext.ple xE)) hs) ?_
  intro w1 hx1
  have ho : Own w1 w.heap.size #[.int .i64 0, .int .i64 0, .slice none 0 0, .slice none 0 0] 50 := oE
  have hx : Ext w w1 := xE
  obtain ⟨hoc, hof⟩ := ho.facts
  have hol := ho.lt
  by_cases he : checkC l i = 0
  · obtain ⟨hv, h0, h1⟩ := checkC_0 he
    have hm : Hid (meaningE l i = match meanC l i.toNat with | some f => (f, 0) | none => (noF, 4)) := by show _ = _; unfold meaningE; rw [if_neg (by simpa using he)]
    obtain ⟨n, rfl⟩ : ∃ n : Nat, i = (n : Int) := ⟨i.toNat, by omega⟩
    rw [he]
    clear he hoc hof hol
    go_wp2_with fail
    refine (meanings_c (H0 := ph w) _ l n _ hx.ple hr' hv (by omega)).mono ?_
    rintro e w2 ⟨b, acc, H, rfl, hM, hA⟩
    have hx2 := hM.ex
    replace ho := ho.keep hx2
    replace hx := hx.then hx2
    obtain ⟨hoc, hof⟩ := ho.facts
    have hol := ho.lt
    obtain ⟨g, p3, e3, p4, e4, g1, g2, g3, gR⟩ := hA.get (n : Int)
    have hat : at? (meansL (l.take (n + 1))) (n : Int) = meanC l n := by
      unfold meanC meansL
      rw [tabl_take, at?_take _ _ _ (by omega) (by omega)]
    rw [hat] at g1 g3
    replace hm := hm.out
    rw [Int.toNat_natCast] at hm
    have hHb : H w.heap.size = none := hM.H_none (by have := (Own.new w #[.int .i64 0, .int .i64 0, .slice none 0 0, .slice none 0 0] 50).lt; have := hx1.size; omega) (by simp [ph])
    clear hr hr' hx1 hx2
    cases hq : meanC l n with
    | some f =>
      rw [hq] at g1 g3 hm
      simp only [Option.getD_some] at g1
      subst g1
      replace hm : meaningE l n = (f, 0) := hm
      have hE := Lib.hid hm
      clear hm hat hq
      go_wp2_with (at_lookup; refine wpList_look_T 0 rfl _ _ 126 50 rfl Tryz.underlying126 (zeroFm _) rfl hM rfl rfl (by omega) (by omega) g2 g3 ?_)
      have o9 := ((((ho.set 0 (.int .i64 f.op)).set 1 (.int .i64 f.n)).set 2 (.slice p3 f.inn.length e3)).set 3 (.slice p4 f.kids.length e4)).alloc (.cells #[.int .i64 f.op, .int .i64 f.n, .slice p3 f.inn.length e3, .slice p4 f.kids.length e4] 50)
      simp only [List.setIfInBounds_toArray, List.set_cons_succ, List.set_cons_zero] at o9
      have hl9 := ((((hM.ple.setC hHb 0 (.int .i64 f.op)).setC hHb 1 (.int .i64 f.n)).setC hHb 2 (.slice p3 f.inn.length e3)).setC hHb 3 (.slice p4 f.kids.length e4)).trans (Ext.ple (Ext.new _ (.cells #[.int .i64 f.op, .int .i64 f.n, .slice p3 f.inn.length e3, .slice p4 f.kids.length e4] 50)))
      obtain ⟨q, -⟩ := o9.facts
      have q0 : _ = some (Value.int .i64 f.op) := q 0
      have q1 : _ = some (Value.int .i64 f.n) := q 1
      have q2 : _ = some (Value.slice p3 f.inn.length e3) := q 2
      have q3 : _ = some (Value.slice p4 f.kids.length e4) := q 3
      have hx9 : Ext w _ := ((((hx.set' (p := ⟨w.heap.size, 0, none⟩) (Nat.le_refl _) (.int .i64 f.op)).set' (p := ⟨w.heap.size, 1, none⟩) (Nat.le_refl _) (.int .i64 f.n)).set' (p := ⟨w.heap.size, 2, none⟩) (Nat.le_refl _) (.slice p3 f.inn.length e3)).set' (p := ⟨w.heap.size, 3, none⟩) (Nat.le_refl _) (.slice p4 f.kids.length e4)).alloc' (.cells #[.int .i64 f.op, .int .i64 f.n, .slice p3 f.inn.length e3, .slice p4 f.kids.length e4] 50)
      generalize World.alloc _ _ = w9 at *
      refine bodyPost_ret (v := .tuple #[fmV f p3 e3 p4 e4, .int .i64 0]) (by simp [results, Tryz.results49, go_sem, q0, q1, q2, q3]) rfl ?_
      exact ⟨p3, e3, p4, e4, by rw [hE.out], hx9, by rw [hE.out]; exact mono_FmR _ _ _ _ hl9 gR⟩
    | none =>
      rw [hq] at g1 g3 hm
      replace hm : meaningE l n = (noF, 4) := hm
      have hE := Lib.hid hm
      clear hm hat hq
      go_wp2_with (at_lookup; refine wpList_look_T 0 rfl _ _ 126 50 rfl Tryz.underlying126 (zeroFm _) rfl hM rfl rfl (by omega) (by omega) g2 g3 ?_)
      have o9 := ((((ho.set 0 (.int .i64 0)).set 1 (.int .i64 0)).set 2 (.slice none 0 0)).set 3 (.slice none 0 0)).alloc (.cells #[.int .i64 g.op, .int .i64 g.n, .slice p3 g.inn.length e3, .slice p4 g.kids.length e4] 50)
      simp only [List.setIfInBounds_toArray, List.set_cons_succ, List.set_cons_zero] at o9
      obtain ⟨q, -⟩ := o9.facts
      have q0 : _ = some (Value.int .i64 0) := q 0
      have q1 : _ = some (Value.int .i64 0) := q 1
      have q2 : _ = some (Value.slice none 0 0) := q 2
      have q3 : _ = some (Value.slice none 0 0) := q 3
      have hx9 : Ext w _ := ((((hx.set' (p := ⟨w.heap.size, 0, none⟩) (Nat.le_refl _) (.int .i64 0)).set' (p := ⟨w.heap.size, 1, none⟩) (Nat.le_refl _) (.int .i64 0)).set' (p := ⟨w.heap.size, 2, none⟩) (Nat.le_refl _) (.slice none 0 0)).set' (p := ⟨w.heap.size, 3, none⟩) (Nat.le_refl _) (.slice none 0 0)).alloc' (.cells #[.int .i64 g.op, .int .i64 g.n, .slice p3 g.inn.length e3, .slice p4 g.kids.length e4] 50)
      generalize World.alloc _ _ = w9 at *
      refine bodyPost_ret (v := .tuple #[zeroFv, .int .i64 4]) (by simp [results, Tryz.results49, go_sem, q0, q1, q2, q3]) rfl ?_
      exact ⟨none, 0, none, 0, by rw [hE.out]; rfl, hx9, by rw [hE.out]; exact noF_R _⟩
  · have hm : meaningE l i = (noF, checkC l i) := by unfold meaningE; rw [if_pos he]
    have hE := Lib.hid hm
    have b3 : (checkC l i == 0) = false := by simpa using he
    generalize checkC l i = e at *
    clear he hm
    go_wp2_with fail
    have o9 := ((((ho.set 0 (.int .i64 0)).set 1 (.int .i64 0)).set 2 (.slice none 0 0)).set 3 (.slice none 0 0))
    simp only [List.setIfInBounds_toArray, List.set_cons_succ, List.set_cons_zero] at o9
    obtain ⟨q, -⟩ := o9.facts
    have q0 : _ = some (Value.int .i64 0) := q 0
    have q1 : _ = some (Value.int .i64 0) := q 1
    have q2 : _ = some (Value.slice none 0 0) := q 2
    have q3 : _ = some (Value.slice none 0 0) := q 3
    have hx9 : Ext w _ := ((((hx.set' (p := ⟨w.heap.size, 0, none⟩) (Nat.le_refl _) (.int .i64 0)).set' (p := ⟨w.heap.size, 1, none⟩) (Nat.le_refl _) (.int .i64 0)).set' (p := ⟨w.heap.size, 2, none⟩) (Nat.le_refl _) (.slice none 0 0)).set' (p := ⟨w.heap.size, 3, none⟩) (Nat.le_refl _) (.slice none 0 0))
    refine bodyPost_ret (v := .tuple #[zeroFv, .int .i64 e]) (by simp [results, Tryz.results49, go_sem, q0, q1, q2, q3]) rfl ?_
    exact ⟨none, 0, none, 0, by rw [hE.out]; rfl, hx9, by rw [hE.out]; exact noF_R _⟩
end Go.Proofs.YtnpnjcaomakehaaGreat
namespace Go.Proofs.YtnpnjcaomakehaaGreat
open Go.RowKit
theorem Mem.set4 {w0 w : World} {H0 H : PH} {L : List Chunk} (h : Mem w0 H0 L H w) (i : Nat) {b : Nat} {a0 a1 a2 a3 : Value} {T : TypeId} (hi : L[i]? = some (Proofs.YtnpnjcaomakehaaGreat.box b #[a0, a1, a2, a3] T)) (p q r s : Value) :
    Mem w0 H0 (L.set i (Proofs.YtnpnjcaomakehaaGreat.box b #[p, q, r, s] T)) H ((((w.setCell ⟨b, 0, none⟩ p).setCell ⟨b, 1, none⟩ q).setCell ⟨b, 2, none⟩ r).setCell ⟨b, 3, none⟩ s) := by
  have hil : i < L.length := (List.getElem?_eq_some_iff.1 hi).1
  have h1 := h.set i hi 0 p
  have h2 := h1.set i (List.getElem?_set_self hil) 1 q
  rw [List.set_set] at h2
  have h3 := h2.set i (List.getElem?_set_self hil) 2 r
  rw [List.set_set] at h3
  have h4 := h3.set i (List.getElem?_set_self hil) 3 s
  rw [List.set_set] at h4
  simpa using h4
def MemG (ws : World) (g : Nat) (c : Array Value) (T : TypeId) (L : List Chunk) (H : PH) (w : World) : Prop :=
  ∃ w0 : World, w0.heap.size = ws.heap.size ∧ g < ws.heap.size ∧ Own w g c T ∧ Mem w0 noH L H w ∧ ws.grownBy w (some g)
theorem grownBy_rfl (w : World) (r : Option Nat) : w.grownBy w r := ⟨rfl, rfl, rfl, Nat.le_refl _, fun _ _ _ => rfl⟩
theorem Ext.grownG {w w' : World} (e : Ext w w') (r : Option Nat) : w.grownBy w' r := ⟨e.os, e.tape, e.output, e.size, fun k hk _ => e.block k hk⟩
theorem MemG.start {ws : World} {g : Nat} {c : Array Value} {T : TypeId} (h : Own ws g c T) : MemG ws g c T [] noH ws := ⟨ws, rfl, h.lt, h, Mem.start ws noH (noH_le _), grownBy_rfl _ _⟩
section
variable {ws w w' : World} {g : Nat} {c c' : Array Value} {T : TypeId} {L L' : List Chunk} {H H' : PH}
theorem MemG.lt (h : MemG ws g c T L H w) : g < ws.heap.size := by obtain ⟨w0, h1, h2, h3, h4⟩ := h; exact h2
theorem MemG.own (h : MemG ws g c T L H w) : Own w g c T := by obtain ⟨w0, h1, h2, h3, h4⟩ := h; exact h3
theorem MemG.size (h : MemG ws g c T L H w) : ws.heap.size ≤ w.heap.size := by obtain ⟨w0, h1, h2, h3, h4, h5⟩ := h; exact h5.size
theorem MemG.grown (h : MemG ws g c T L H w) : ws.grownBy w (some g) := by obtain ⟨w0, h1, h2, h3, h4, h5⟩ := h; exact h5
theorem MemG.step (h : MemG ws g c T L H w) (f : ∀ w0, w0.heap.size = ws.heap.size → Mem w0 noH L H w → Mem w0 noH L' H' w') : MemG ws g c T L' H' w' := by
  obtain ⟨w0, h1, h2, h3, h4, h5⟩ := h
  have hM := f w0 h1 h4
  have hs : ∀ k, k < w0.heap.size → w'.heap[k]? = w.heap[k]? := fun k hk => by rw [hM.ex.block k hk, h4.ex.block k hk]
  refine ⟨w0, h1, h2, ?_, hM, ?_⟩
  · unfold Own at *; rw [hs g (by omega)]; exact h3
  · have := hM.ex.size
    refine ⟨?_, ?_, ?_, by omega, fun k hk hr => ?_⟩
    · rw [← h5.os, h4.ex.os, hM.ex.os]
    · rw [← h5.tape, h4.ex.tape, hM.ex.tape]
    · rw [← h5.output, h4.ex.output, hM.ex.output]
    · rw [hs k (by omega)]; exact h5.block k hk hr
theorem MemG.mem (h : MemG ws g c T L H w) {P : Prop} (f : ∀ w0, w0.heap.size = ws.heap.size → Mem w0 noH L H w → P) : P := by
  obtain ⟨w0, h1, h2, h3, h4, h5⟩ := h; exact f w0 h1 h4
theorem MemG.call (h : MemG ws g c T L H w) (e : w.grownBy w' (some g)) (ho : Own w' g c' T) : MemG ws g c' T L (up H w w') w' := by
  obtain ⟨w0, h1, h2, h3, hM, h5⟩ := h
  have hgl' : g < w'.heap.size := ho.lt
  have hne : ∀ {i : Nat} {c : Chunk}, L[i]? = some c → ∀ k, c.foot = some k → k ≠ g := fun hi k hk => by have := (hM.fr _ _ hi k hk).1; omega
  have hHg : ∀ k o, H k = some o → w0.heap.size ≤ k := by
    intro k o hk
    have := hM.ub k o hk
    unfold up at this
    split at this
    · cases this
    · omega
  have eb : ∀ k, k < w.heap.size → k ≠ g → w'.heap[k]? = w.heap[k]? := fun k hk hn => e.block k hk (fun h => hn (Option.some.inj h))
  refine ⟨{ w0 with heap := w0.heap.setIfInBounds g w'.heap[g] }, by simpa using h1, h2, ho, ?_, h5.trans e⟩
  have hex : Ext { w0 with heap := w0.heap.setIfInBounds g w'.heap[g] } w' := by
    refine ⟨e.os.trans hM.ex.os, e.tape.trans hM.ex.tape, e.output.trans hM.ex.output, by simpa using Nat.le_trans hM.ex.size e.size, fun k hk => ?_⟩
    have hk' : k < w0.heap.size := by simpa using hk
    show w'.heap[k]? = (w0.heap.setIfInBounds g w'.heap[g])[k]?
    by_cases hkg : g = k
    · subst hkg
      rw [Array.getElem?_setIfInBounds_self_of_lt hk']; simp [hgl']
    · rw [Array.getElem?_setIfInBounds_ne hkg, eb k (Nat.lt_of_lt_of_le hk' hM.ex.size) (fun h => hkg h.symm)]
      exact hM.ex.block k hk'
  have hl : PLe H (up H w w') := ple_up hM.ple
  refine ⟨noH_le _, noH_le _, fun k o hk => ?_, hex, fun i c hi => c.mono (c.loc (hM.ok i c hi) fun k hk => eb k (hM.lt hi hk) (hne hi k hk)) hl, fun i c hi k hk => ⟨by simpa using (hM.fr i c hi k hk).1, up_none (hM.fr i c hi k hk).2 (hM.lt hi hk)⟩, hM.ap⟩
  unfold up at hk ⊢
  split at hk
  · have h1 := hM.ub k o hk
    have h2 := hHg k o hk
    unfold up at h1
    rw [if_neg (by omega)] at h1
    rw [if_neg (by simp; omega)]
    show w'.heap[k]? = some o
    rw [eb k (ph_lt h1) (by omega)]; exact h1
  · have := hM.ex.size
    rw [if_neg (by simp; omega)]; exact hk
theorem MemG.set (h : MemG ws g c T L H w) (j : Nat) (u : Value) : MemG ws g (c.setIfInBounds j u) T L H (w.setCell ⟨g, j, none⟩ u) := by
  have hg : w.grownBy (w.setCell ⟨g, j, none⟩ u) (some g) := ⟨rfl, rfl, rfl, by simp, fun k hk hn => Below.heap_setCell _ _ _ _ (fun e => hn (by rw [e]))⟩
  have h2 := h.call hg (h.own.set j u)
  obtain ⟨w0, h1, h3, h4, hM, h5⟩ := h2
  refine ⟨w0, h1, h3, h4, ?_, h5⟩
  have hl : PLe H (up H w (w.setCell ⟨g, j, none⟩ u)) := ple_up (by obtain ⟨_, _, _, _, hM0, _⟩ := h; exact hM0.ple)
  obtain ⟨w1, k1, k2, k3, hM1, k5⟩ := h
  refine ⟨hM.l0, noH_le _, hl.trans hM.ub, hM.ex, fun i d hi => ?_, fun i d hi k hk => ?_, hM.ap⟩
  · exact d.loc (hM1.ok i d hi) fun k hk => Below.heap_setCell _ _ _ _ (fun e => by have := (hM1.fr i d hi k hk).1; dsimp only at e; omega)
  · have := hM1.fr i d hi k hk; exact ⟨by omega, this.2⟩
end
end Go.Proofs.YtnpnjcaomakehaaGreat
namespace Go.Proofs.YtnpnjcaomakehaaGreat
open Go.RowKit Go.Shelf
def RetIn (w : World) (lo hi : Int) (e : Ending) (w' : World) : Prop := ∃ r, e = .returned (.int .i64 r) ∧ lo ≤ r ∧ r < hi ∧ Ext w w'
def pickV (l : List Int) (i m : Int) : Int := if i < 0 then 0 else (l[i.toNat]?.map fun x => aroundV x m).getD 0
def RetOf (w : World) (lo hi v : Int) (e : Ending) (w' : World) : Prop := e = .returned (.int .i64 v) ∧ lo ≤ v ∧ v < hi ∧ Ext w w'
theorem pickF_c (l : List Int) (vl : Value) (i m : Int) (w : World) (hl : IntsR (ph w) vl l) (hi : I64 i) (hm : 0 < m) (hm' : m ≤ 9223372036854775807) :
    Calls Tryz.prog 27 #[vl, .int .i64 i, .int .i64 m] w (RetOf w 0 m (pickV l i m)) := by
  obtain ⟨a, c, rfl, hll, hl⟩ := hl.form
  have hi' := hi
  unfold I64 at hi'
  by_cases h0 : i < 0
  · clear hl
    have hp : pickV l i m = 0 := by unfold pickV; rw [if_pos h0]
    rw [hp]
    clear hp
    go_enter Tryz.func27, Tryz.ntmps27
    go_wp2_with fail
    go_ret
    exact ⟨rfl, by omega, by omega, xE⟩
  · by_cases h1 : i < l.length
    · obtain ⟨k, rfl⟩ : ∃ k : Nat, i = k := ⟨i.toNat, by omega⟩
      obtain ⟨b, o, rfl, h2, h3, hbl⟩ := IntsR.at hl k (by omega)
      have hp : pickV l k m = aroundV l[k] m := by unfold pickV; rw [if_neg h0, Int.toNat_natCast, List.getElem?_eq_getElem (by omega)]; rfl
      rw [hp]
      clear hp
      generalize l[k] = x at *
      have hr := aroundV_range h3 hm
      clear hl
      go_enter Tryz.func27, Tryz.ntmps27
      go_wp2_with fail
      refine (around_c x m _ h3 hm hm').mono ?_
      rintro e w1 ⟨rfl, hb1⟩
      generalize aroundV x m = r at *
      go_wp2_with fail
      go_ret
      exact ⟨rfl, hr.1, hr.2, xE⟩
    · clear hl
      have hp : pickV l i m = 0 := by unfold pickV; rw [if_neg h0, List.getElem?_eq_none (by omega)]; rfl
      rw [hp]
      clear hp
      go_enter Tryz.func27, Tryz.ntmps27
      go_wp2_with fail
      go_ret
      exact ⟨rfl, by omega, by omega, xE⟩
theorem pick1_c (l : List Int) (vl : Value) (i m : Int) (w : World) (hl : IntsR (ph w) vl l) (hi : I64 i) (hm : 0 < m) (hm' : m ≤ 9223372036854775807) :
    Calls Tryz.prog 27 #[vl, .int .i64 i, .int .i64 m] w (RetIn w 0 m) :=
  (pickF_c l vl i m w hl hi hm hm').mono fun e w' ⟨h1, h2, h3, h4⟩ => ⟨_, h1, h2, h3, h4⟩
theorem MemG.ub {ws w : World} {g : Nat} {c : Array Value} {T : TypeId} {L : List Chunk} {H : PH} (h : MemG ws g c T L H w) : PLe H (Proofs.YtnpnjcaomakehaaGreat.up noH ws w) := by
  obtain ⟨w0, h1, h2, h3, h4, h5⟩ := h
  intro k o hk
  have := h4.ub k o hk
  unfold Proofs.YtnpnjcaomakehaaGreat.up at this ⊢
  rw [h1] at this
  exact this
theorem MemG.ple {ws w : World} {g : Nat} {c : Array Value} {T : TypeId} {L : List Chunk} {H : PH} (h : MemG ws g c T L H w) : PLe H (ph w) := by
  obtain ⟨w0, h1, h2, h3, h4, h5⟩ := h; exact h4.ple
theorem MemG.box {ws w : World} {g : Nat} {c : Array Value} {T : TypeId} {L : List Chunk} {H : PH} (h : MemG ws g c T L H w) (i : Nat) {b : Nat} {c' : Array Value} {T' : TypeId} (hi : L[i]? = some (Proofs.YtnpnjcaomakehaaGreat.box b c' T')) : Own w b c' T' := by
  obtain ⟨w0, h1, h2, h3, h4, h5⟩ := h; exact h4.box i hi
theorem PLe.grownG {Hl : PH} {w w' : World} {g : Nat} (h : PLe Hl (ph w)) (e : w.grownBy w' (some g)) (hg : Hl g = none) : PLe Hl (ph w') := by
  intro k o hk
  show w'.heap[k]? = some o
  rw [e.block k (ph_lt (h k o hk)) (fun e => by cases e; rw [hg] at hk; cases hk)]
  exact h k o hk
abbrev mkA (vl : Value) (at' cl lf : Int) : Array Value := #[vl, .int .i64 at', .int .i64 cl, .int .i64 lf]
def NextP (w : World) (g : Nat) (l : List Int) (vl : Value) (at' cl lf n : Int) (e : Ending) (w' : World) : Prop :=
  ∃ r, e = .returned (.int .i64 r) ∧ r = pickV l at' n ∧ 0 ≤ r ∧ r < n ∧ w.grownBy w' (some g) ∧ Own w' g (mkA vl (at' + 1) cl lf) 115
set_option maxRecDepth 100000 in
theorem mnext_c {Hl : PH} (l : List Int) (vl : Value) (g : Nat) (at' cl lf n : Int) (w : World) (hl : PLe Hl (ph w)) (hr : IntsR Hl vl l) (hg : Hl g = none) (ho : Own w g (mkA vl at' cl lf) 115) (h0 : 0 ≤ at') (h1 : at' ≤ 1000000) (hn : 0 < n) (hn' : n ≤ 9223372036854775807) :
    Calls Tryz.prog 109 #[.pointer (some ⟨g, 0, none⟩), .int .i64 n] w (NextP w g l vl at' cl lf n) := by
  obtain ⟨a, c, rfl, hll, hr⟩ := hr.form
  obtain ⟨kc, kf⟩ := ho.facts
  have k0 : _ = some (Value.slice a l.length c) := kc 0
  have k1 : _ = some (Value.int .i64 at') := kc 1
  have f1 := kf 1
  have hgl := ho.lt
  have hg1 : w.grownBy (w.setCell ⟨g, 1, none⟩ (.int .i64 (at' + 1))) (some g) := ⟨rfl, rfl, rfl, by simp, fun k hk hn => Below.heap_setCell _ _ _ _ (fun e => hn (by rw [e]))⟩
  have ho1 := ho.set 1 (.int .i64 (at' + 1))
  simp only [List.setIfInBounds_toArray, List.set_cons_succ, List.set_cons_zero] at ho1
  have hl1 := hl.grownG hg1 hg
  clear kc kf
  go_enter Tryz.func109, Tryz.ntmps109
  go_wp2_with fail
  generalize w.setCell _ _ = W at *
  clear k0 k1 f1 hgl
  obtain ⟨kc, kf⟩ := ho1.facts
  have k0 : _ = some (Value.slice a l.length c) := kc 0
  have k1 : _ = some (Value.int .i64 (at' + 1)) := kc 1
  have hgl := ho1.lt
  have hp := Lib.hid (fun W' (hW : Ext W W') => pickF_c l (.slice a l.length c) at' n W' ((hr.mono mono_IntR (hl1.trans hW.ple))) (by unfold I64; omega) hn hn')
  have hq : IntKind.i64.wrap at' = at' := by rw [IntKind.wrap_i64]; omega
  clear hr kc kf
  (refine wp_region_I 11 (by kernel_rfl) (by kernel_rfl) ?_; simp only [List.toList_toArray, List.take_succ_cons, List.take_zero, List.drop_succ_cons, List.drop_zero])
  iterate 10 (refine wiA rfl (by simp) rfl ?_; (try simp only [List.nil_append, List.cons_append]))
  (refine walkI_step (fun v w' => v = .int .i64 (pickV l at' n) ∧ 0 ≤ pickV l at' n ∧ pickV l at' n < n) rfl (by simp) rfl (fun v a b _ h e => h) ?_ ?_; (focus (intro A w' hS hA K hK; (simp only [List.map_cons, List.map_nil, knows, Is, Op.operands, Call.operands, List.lookup_cons, List.lookup_nil, Nat.reduceBEq, Bool.false_eq_true, if_false, if_true, Act.eval, Array.getD_eq_getD_getElem?, List.getElem?_toArray, List.getElem?_cons_succ, List.getElem?_cons_zero, Option.getD_some, and_true, true_and, List.append_toArray, List.nil_append, List.cons_append, List.toList_toArray, Array.toList_append, Option.toArray, List.append_nil] at hA); (go_simp; refine (hp.out _ hS).mono ?_; rintro e w5 ⟨rfl, h5, h6, h7⟩; exact hK _ _ h7 ⟨rfl, h5, h6⟩))); (try simp only [List.nil_append, List.cons_append]))
  (refine walkI_nil ?_; simp only [List.nil_append, List.cons_append, fins, Is, forall_eq, Act.put, List.setIfInBounds_toArray, List.set_cons_zero, List.set_cons_succ])
  rintro w2 hx2 v ⟨rfl, h5, h6⟩
  go_wp2_with fail
  go_ret
  exact ⟨_, rfl, rfl, h5, h6, hg1.trans (hx2.grownG _), ho1.keep hx2⟩
end Go.Proofs.YtnpnjcaomakehaaGreat
namespace Go.Proofs.YtnpnjcaomakehaaGreat
open Go.RowKit Go.Shelf
def wholeN (cl : Int) (f : Fm) : Bool := f.pre.all fun g => formed1 g && (!decide (g.op = 1) || decide (g.n < cl))
theorem wholeN_eq (cl : Int) (f : Fm) : wholeN cl f = ((formed1 f && (!decide (f.op = 1) || decide (f.n < cl))) && f.kids.all (wholeN cl)) := by
  unfold wholeN
  rw [Fm.pre_eq, List.all_cons]
  congr 1
  induction f.kids with
  | nil => rfl
  | cons x xs ih => rw [List.flatMap_cons, List.all_append, List.all_cons, ih]
theorem wholeN_B {cl : Int} {f : Fm} (h : wholeN cl f = true) : wholeB f = true := by
  unfold wholeN at h
  unfold wholeB
  rw [List.all_eq_true] at h ⊢
  exact fun x hx => by have := h x hx; rw [Bool.and_eq_true] at this; exact this.1
theorem whole_leaf {cl op n : Int} {inn : List Itv} (h : formed1 (.mk op n inn []) = true) (h2 : op = 1 → n < cl) : wholeN cl (.mk op n inn []) = true := by
  rw [wholeN_eq, h]
  by_cases h3 : op = 1
  · simp [Fm.op, Fm.n, Fm.kids, h2 h3]
  · simp [Fm.op, Fm.kids, h3]
def leafF (l : List Int) (cl a : Int) : Fm × Int :=
  if pickV l a 11 < 6 then (.mk 1 (pickV l (a + 1) cl) [] [], a + 1 + 1)
  else if pickV l a 11 = 10 then (noF, a + 1)
  else (.mk 2 (pickV l (a + 1) 3) (rngF (aroundV (pickV l (a + 1 + 1) 1048576) 1048576)) [], a + 1 + 1 + 1)
def TreeP (w : World) (g : Nat) (vl : Value) (at' cl lf : Int) (P : Fm → Int → Prop) (e : Ending) (w' : World) : Prop :=
  ∃ f a3 c3 a4 c4 at2, e = .returned (fmV f a3 c3 a4 c4) ∧ FmR (up noH w w') (fmC f a3 c3 a4 c4) f ∧ wholeN cl f = true ∧ P f at2 ∧ w.grownBy w' (some g) ∧ Own w' g (mkA vl at2 cl (lf - f.size)) 115 ∧ at' ≤ at2 ∧ at2 ≤ at' + 4 * f.size
theorem MemG.set4 {ws w : World} {g : Nat} {c : Array Value} {T : TypeId} {L : List Chunk} {H : PH} (h : MemG ws g c T L H w) (i : Nat) {b : Nat} {a0 a1 a2 a3 : Value} {T' : TypeId} (hi : L[i]? = some (Proofs.YtnpnjcaomakehaaGreat.box b #[a0, a1, a2, a3] T')) (p q r s : Value) :
    MemG ws g c T (L.set i (Proofs.YtnpnjcaomakehaaGreat.box b #[p, q, r, s] T')) H ((((w.setCell ⟨b, 0, none⟩ p).setCell ⟨b, 1, none⟩ q).setCell ⟨b, 2, none⟩ r).setCell ⟨b, 3, none⟩ s) := h.step fun w0 _ m => m.set4 i hi p q r s
abbrev zeroFa : Array Value := #[.int .i64 0, .int .i64 0, .slice none 0 0, .slice none 0 0]
set_option maxRecDepth 100000 in
set_option maxHeartbeats 4000000 in
theorem leaf_c {Hl : PH} (l : List Int) (vl : Value) (g : Nat) (at' cl lf : Int) (w : World) (hl : PLe Hl (ph w)) (hr : IntsR Hl vl l) (hg : Hl g = none) (ho : Own w g (mkA vl at' cl lf) 115) (h0 : 0 ≤ at') (h1 : at' ≤ 900000) (hc0 : 0 < cl) (hc1 : cl ≤ 64) :
    Calls Tryz.prog 110 #[.pointer (some ⟨g, 0, none⟩)] w fun e w' => ∃ f a3 c3 at2, e = .returned (fmV f a3 c3 none 0) ∧ FmR (up noH w w') (fmC f a3 c3 none 0) f ∧ wholeN cl f = true ∧ f.kids = [] ∧ w.grownBy w' (some g) ∧ Own w' g (mkA vl at2 cl lf) 115 ∧ at' ≤ at2 ∧ at2 ≤ at' + 3 ∧ leafF l cl at' = (f, at2) := by
  obtain ⟨xa, xc, rfl, hll, hr⟩ := hr.form
  have hgl := ho.lt
  have hG0 := (MemG.start ho).step (fun w0 _ m => m.new zeroFa 50)
  simp only [List.nil_append] at hG0
  have hl0 := hl.trans (Ext.ple (Ext.new w (.cells zeroFa 50)))
  go_enter Tryz.func110, Tryz.ntmps110
  go_wp2_with fail
  generalize w.alloc _ = W at *
  refine (mnext_c l _ g at' cl lf 11 W hl0 hr hg hG0.own h0 (by omega) (by omega) (by omega)).mono ?_
  rintro e w1 ⟨r, rfl, hrv, hr0, hr1, hgr, ho1⟩
  replace hrv := Lib.hid hrv
  have hG1 := hG0.call hgr ho1
  have hl1 := hl0.grownG hgr hg
  clear hG0 hl0 hgr
  by_cases h6 : r < 6
  · have b1 : decide (r < 6) = true := by simpa using h6
    obtain ⟨kc, -⟩ := ho1.facts
    have k2 : _ = some (Value.int .i64 cl) := kc 2
    have hgl1 := ho1.lt
    clear kc
    go_wp2_with fail
    refine (mnext_c l _ g (at' + 1) cl lf cl w1 hl1 hr hg ho1 (by omega) (by omega) hc0 (by omega)).mono ?_
    rintro e w2 ⟨s, rfl, hsv, hs0, hs1, hgr, ho2⟩
    replace hsv := Lib.hid hsv
    have hG2 := hG1.call hgr ho2
    clear hG1 hgr k2 hgl1 ho1
    have ob := hG2.box 0 rfl
    obtain ⟨uc, uf⟩ := ob.facts
    have ul := ob.lt
    have q0' : _ = some (Value.int .i64 0) := uc 0
    have q1' : _ = some (Value.int .i64 0) := uc 1
    have q2' : _ = some (Value.slice none 0 0) := uc 2
    have q3' : _ = some (Value.slice none 0 0) := uc 3
    have hG3 := hG2.set4 0 rfl (.int .i64 1) (.int .i64 s) (.slice none 0 0) (.slice none 0 0)
    simp only [List.set_cons_zero] at hG3
    clear uc
    go_wp2_with fail
    generalize ((((w2.setCell _ _).setCell _ _).setCell _ _).setCell _ _) = w9 at *
    obtain ⟨q, -⟩ := (hG3.box 0 rfl).facts
    have q0 : _ = some (Value.int .i64 1) := q 0
    have q1 : _ = some (Value.int .i64 s) := q 1
    have q2 : _ = some (Value.slice none 0 0) := q 2
    have q3 : _ = some (Value.slice none 0 0) := q 3
    refine bodyPost_ret (v := .agg #[.int .i64 1, .int .i64 s, .slice none 0 0, .slice none 0 0]) (by simp [results, Tryz.results110, go_sem, q0, q1, q2, q3]) rfl ?_
    exact ⟨.mk 1 s [] [], none, 0, at' + 1 + 1, rfl, FmR.of (by simp [Fm.op, I64]) (by simp only [Fm.n]; unfold I64; omega) (SliceRep.nil _ _ _) (SliceRep.nil _ _ _), whole_leaf (by rw [formed1_mk]; simp; omega) (fun _ => hs1), rfl, hG3.grown, hG3.own, by omega, by omega, by unfold leafF; rw [if_pos (by have := hrv.out; omega), ← hsv.out]⟩
  have b1 : decide (r < 6) = false := by simpa using h6
  by_cases h10 : r = 10
  · have b2 : (r == 10) = true := by simpa using h10
    have ob := hG1.box 0 rfl
    obtain ⟨uc, uf⟩ := ob.facts
    have ul := ob.lt
    have q0' : _ = some (Value.int .i64 0) := uc 0
    have q1' : _ = some (Value.int .i64 0) := uc 1
    have q2' : _ = some (Value.slice none 0 0) := uc 2
    have q3' : _ = some (Value.slice none 0 0) := uc 3
    have hG3 := hG1.set4 0 rfl (.int .i64 0) (.int .i64 0) (.slice none 0 0) (.slice none 0 0)
    simp only [List.set_cons_zero] at hG3
    clear uc
    go_wp2_with fail
    generalize ((((w1.setCell _ _).setCell _ _).setCell _ _).setCell _ _) = w9 at *
    obtain ⟨q, -⟩ := (hG3.box 0 rfl).facts
    have q0 : _ = some (Value.int .i64 0) := q 0
    have q1 : _ = some (Value.int .i64 0) := q 1
    have q2 : _ = some (Value.slice none 0 0) := q 2
    have q3 : _ = some (Value.slice none 0 0) := q 3
    refine bodyPost_ret (v := zeroFv) (by simp [results, Tryz.results110, go_sem, q0, q1, q2, q3]) rfl ?_
    exact ⟨noF, none, 0, at' + 1, rfl, noF_R _, whole_leaf (by rw [formed1_mk]; simp) (fun h => by omega), rfl, hG3.grown, hG3.own, by omega, by omega, by unfold leafF; rw [if_neg (by have := hrv.out; omega), if_pos (by have := hrv.out; omega)]⟩
  have b2 : (r == 10) = false := by simpa using h10
  go_wp2_with fail
  refine (mnext_c l _ g (at' + 1) cl lf 3 w1 hl1 hr hg ho1 (by omega) (by omega) (by omega) (by omega)).mono ?_
  rintro e w2 ⟨s, rfl, hsv, hs0, hs1, hgr, ho2⟩
  replace hsv := Lib.hid hsv
  have hG2 := hG1.call hgr ho2
  have hl2 := hl1.grownG hgr hg
  clear hG1 hl1 hgr ho1
  go_wp2_with fail
  refine (mnext_c l _ g (at' + 1 + 1) cl lf 1048576 w2 hl2 hr hg ho2 (by omega) (by omega) (by omega) (by omega)).mono ?_
  rintro e w3 ⟨t, rfl, htv, ht0, ht1, hgr, ho3⟩
  replace htv := Lib.hid htv
  have hG3 := hG2.call hgr ho3
  clear hG2 hl2 hgr ho2
  go_wp2_with fail
  refine (rangeF_c t w3 (by unfold I64; omega)).mono ?_
  rintro e w4 ⟨iv, il, rfl, hx4, hI, hE, hln, hlf⟩
  replace hlf := Lib.hid hlf
  have hG4 := hG3.step (fun w0 _ m => m.up hx4)
  have hI4 := hI.mono mono_ItvR (up_mono (noH_le (up (up (up noH W w1) w1 w2) w2 w3)))
  obtain ⟨ia, ic, rfl, -, hI5⟩ := hI4.form
  clear hG3 hI hI4 ho3
  have ob := hG4.box 0 rfl
  obtain ⟨uc, uf⟩ := ob.facts
  have ul := ob.lt
  have q0' : _ = some (Value.int .i64 0) := uc 0
  have q1' : _ = some (Value.int .i64 0) := uc 1
  have q2' : _ = some (Value.slice none 0 0) := uc 2
  have q3' : _ = some (Value.slice none 0 0) := uc 3
  have hG5 := hG4.set4 0 rfl (.int .i64 2) (.int .i64 s) (.slice ia il.length ic) (.slice none 0 0)
  simp only [List.set_cons_zero] at hG5
  clear uc
  go_wp2_with fail
  generalize ((((w4.setCell _ _).setCell _ _).setCell _ _).setCell _ _) = w9 at *
  obtain ⟨q, -⟩ := (hG5.box 0 rfl).facts
  have q0 : _ = some (Value.int .i64 2) := q 0
  have q1 : _ = some (Value.int .i64 s) := q 1
  have q2 : _ = some (Value.slice ia il.length ic) := q 2
  have q3 : _ = some (Value.slice none 0 0) := q 3
  refine bodyPost_ret (v := .agg #[.int .i64 2, .int .i64 s, .slice ia il.length ic, .slice none 0 0]) (by simp [results, Tryz.results110, go_sem, q0, q1, q2, q3]) rfl ?_
  exact ⟨.mk 2 s il [], ia, ic, at' + 1 + 1 + 1, rfl, mono_FmR _ _ _ _ hG5.ub (FmR.of (by simp [Fm.op, I64]) (by simp only [Fm.n]; unfold I64; omega) hI5 (SliceRep.nil _ _ _)), whole_leaf (by rw [formed1_mk]; simp; omega) (fun h => by omega), rfl, hG5.grown, hG5.own, by omega, by omega, by unfold leafF; rw [if_neg (by have := hrv.out; omega), if_neg (by have := hrv.out; omega), ← hsv.out, ← htv.out, ← hlf.out]⟩
end Go.Proofs.YtnpnjcaomakehaaGreat
namespace Go.Proofs.YtnpnjcaomakehaaGreat
open Go.RowKit Go.Shelf
section
variable {α : Type} {E : PH → List Value → α → Prop} {hm : Mono E} {sz : Nat} {T : TypeId} {v : Value} {xs ys : List α} {w0 w : World} {H0 H : PH} {L : List Chunk}
theorem oper_append_M {P : Program} {o : Oper} {a : Act} {K : Act → World → Prop} {Q : Exit → Act → World → Prop} (i : Nat) (s x : Operand) (t : TypeId)
    (ho : o.op = .call { callee := .builtin .append, args := #[s, x], argTypes := #[t, t] }) {z : Value} {bytes : Nat}
    (ht : P.underlying t = some (.slice T)) (hinfo : (P.info? T).map (fun i => (i.zero, i.size, i.bytes)) = some (some z, sz, bytes)) (hzs : z.cells.size = sz)
    {vx : Value} (hs : a.eval s = v) (hx : a.eval x = vx) (hS : Mem w0 H0 L H w) (hi : L[i]? = some (own hm sz T v xs)) (hsrc : Src w H E sz vx ys)
    (hone : ∀ cs x, E H cs x → ∀ u ∈ cs, u.oneCell' = true) (hbytes : (xs.length + ys.length) * bytes ≤ 140737488355328) (hcnt : xs.length + ys.length ≤ 140737488355328)
    (hn : ∀ v' w', Mem w0 H0 (L.set i (own hm sz T v' (xs ++ ys))) H w' → w.grownBy w' v.ownBlock → K (a.put o.dst v') w') : o.wp P a w K Q := by
  obtain ⟨i', hi', hz0, hz1, hz2⟩ := info_parts hinfo
  obtain ⟨v', w', hr, h2, h3, h4⟩ := run_append_S (P := P) (w := w) t o.type T i' z bytes ht hi' hz0 hz1 hz2 hzs (hS.ownS i hi) hsrc hS.ple hS.ex.size hone hbytes hcnt
  unfold Oper.wp execOp
  simp only [ho, resolve, invoke, builtin, Sem.run_bind, Sem.run_pure, Result.andThen_ok, List.map_toArray, List.map_cons, List.map_nil, hs, hx, hr]
  exact hn _ _ (hS.put i hi (c' := own hm sz T v' (xs ++ ys)) h2.c h4 (hS.ex.grown h3 fun k hk => (hS.fr i _ hi k hk).1) fun k hk hne => h3.block k hk (fun e => hne e.symm)) h3
end
section
variable {ws w w' : World} {g : Nat} {c c' : Array Value} {T : TypeId} {L L' : List Chunk} {H H' : PH}
theorem MemG.re {w0 : World} (h1 : w0.heap.size = ws.heap.size) (h2 : g < ws.heap.size) (h3 : Own w g c T) (h4 : Mem w0 noH L H w) (h5 : ws.grownBy w (some g)) (hM : Mem w0 noH L' H' w') : MemG ws g c T L' H' w' := by
  have hs : ∀ k, k < w0.heap.size → w'.heap[k]? = w.heap[k]? := fun k hk => by rw [hM.ex.block k hk, h4.ex.block k hk]
  refine ⟨w0, h1, h2, ?_, hM, ?_⟩
  · unfold Own at *; rw [hs g (by omega)]; exact h3
  · have := hM.ex.size
    refine ⟨?_, ?_, ?_, by omega, fun k hk hr => ?_⟩
    · rw [← h5.os, h4.ex.os, hM.ex.os]
    · rw [← h5.tape, h4.ex.tape, hM.ex.tape]
    · rw [← h5.output, h4.ex.output, hM.ex.output]
    · rw [hs k (by omega)]; exact h5.block k hk hr
theorem MemG.freezeS {α : Type} {E : PH → List Value → α → Prop} {hm : Mono E} {sz : Nat} {T' : TypeId} {v : Value} {xs : List α} (h : MemG ws g c T L H w) (i : Nat) (hi : L[i]? = some (Proofs.YtnpnjcaomakehaaGreat.own hm sz T' v xs)) : ∃ H', PLe H H' ∧ MemG ws g c T (L.set i nop) H' w ∧ SliceRep E sz H' v xs := by
  obtain ⟨w0, h1, h2, h3, h4, h5⟩ := h
  obtain ⟨H', k1, k2, k3⟩ := h4.freezeS i hi
  exact ⟨H', k1, ⟨w0, h1, h2, h3, k2, h5⟩, k3⟩
theorem MemG.form {α : Type} {E : PH → List Value → α → Prop} {hm : Mono E} {sz : Nat} {T' : TypeId} {v : Value} {xs : List α} (h : MemG ws g c T L H w) (i : Nat) (hi : L[i]? = some (Proofs.YtnpnjcaomakehaaGreat.own hm sz T' v xs)) : ∃ a cap, v = .slice a xs.length cap ∧ xs.length ≤ 9223372036854775807 := by
  obtain ⟨w0, h1, h2, h3, h4, h5⟩ := h
  exact h4.form i hi
end
theorem not7_c {H : PH} (f : Fm) (a3 : Option Addr) (c3 : Nat) (a4 : Option Addr) (c4 : Nat) (w : World) (hl : PLe H (ph w)) (hr : FmR H (fmC f a3 c3 a4 c4) f) : Calls Tryz.prog 69 #[fmV f a3 c3 a4 c4] w fun e w' =>
    ∃ b, e = .returned (.agg #[.int .i64 6, .int .i64 0, .slice none 0 0, .slice (some ⟨b, 0, none⟩) 1 1]) ∧ Ext w w' ∧ FmR (up H w w') (fmC (.mk 6 0 [] [f]) none 0 (some ⟨b, 0, none⟩) 1) (.mk 6 0 [] [f]) := by
  unfold fmC at hr
  go_enter Tryz.func69, Tryz.ntmps69
  go_wp2_with fail
  have hM := ((((Mem.start w H hl).ext (Ext.new w (.cells #[.int .i64 f.op, .int .i64 f.n, .slice a3 f.inn.length c3, .slice a4 f.kids.length c4] 50))).ext (Ext.new _ (.cells #[.int .i64 6, .int .i64 0, .slice none 0 0, .slice (some ⟨w.heap.size + 1 + 1, 0, none⟩) 1 1] 50))).new' #[.int .i64 f.op, .int .i64 f.n, .slice a3 f.inn.length c3, .slice a4 f.kids.length c4] 50 (n := w.heap.size + 1 + 1) (by simp)).asOwn 0 rfl mono_FmR (sz := 4) (xs := [f]) (n := 1) (by simp) (by simp [maxLen]) rfl ⟨_, [], rfl, rfl, hr, rfl⟩
  have hk := hM.repUp 0 rfl
  have hx : Ext w (((w.alloc (.cells #[.int .i64 f.op, .int .i64 f.n, .slice a3 f.inn.length c3, .slice a4 f.kids.length c4] 50)).alloc (.cells #[.int .i64 6, .int .i64 0, .slice none 0 0, .slice (some ⟨w.heap.size + 1 + 1, 0, none⟩) 1 1] 50)).alloc (.cells #[.int .i64 f.op, .int .i64 f.n, .slice a3 f.inn.length c3, .slice a4 f.kids.length c4] 50)) := xE
  have ho : Own (((w.alloc (.cells #[.int .i64 f.op, .int .i64 f.n, .slice a3 f.inn.length c3, .slice a4 f.kids.length c4] 50)).alloc (.cells #[.int .i64 6, .int .i64 0, .slice none 0 0, .slice (some ⟨w.heap.size + 1 + 1, 0, none⟩) 1 1] 50)).alloc (.cells #[.int .i64 f.op, .int .i64 f.n, .slice a3 f.inn.length c3, .slice a4 f.kids.length c4] 50)) (w.heap.size + 1) #[.int .i64 6, .int .i64 0, .slice none 0 0, .slice (some ⟨w.heap.size + 1 + 1, 0, none⟩) 1 1] 50 := oE
  clear hM
  generalize World.alloc _ _ = w9 at *
  obtain ⟨q, -⟩ := ho.facts
  have q0 : _ = some (Value.int .i64 6) := q 0
  have q1 : _ = some (Value.int .i64 0) := q 1
  have q2 : _ = some (Value.slice none 0 0) := q 2
  have q3 : _ = some (Value.slice (some ⟨w.heap.size + 1 + 1, 0, none⟩) 1 1) := q 3
  refine bodyPost_ret (v := .agg #[.int .i64 6, .int .i64 0, .slice none 0 0, .slice (some ⟨w.heap.size + 1 + 1, 0, none⟩) 1 1]) (by simp [results, Tryz.results69, go_sem, q0, q1, q2, q3]) rfl ?_
  exact ⟨w.heap.size + 1 + 1, rfl, hx, FmR.of (by simp [Fm.op, I64]) (by simp [Fm.n, I64]) (SliceRep.nil _ _ _) hk⟩
end Go.Proofs.YtnpnjcaomakehaaGreat
