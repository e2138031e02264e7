/- Lemmas for NI, part 10: slices.Compact at an own slice of numbers (turned out of CmV), and more. -/
import Derived.Deep.CutBlock
import Derived.Test.YtabajghokhfmhaaGreatNI00
import Derived.Test.YtabajghokhfmhaaGreatNI03
import Derived.Test.YtabajghokhfmhaaGreatNI04
import Derived.Test.YtabajghokhfmhaaGreatNI08
set_option linter.unusedSimpArgs false
set_option linter.unusedVariables false
namespace Go.Proofs.YtabajghokhfmhaaGreat
open Go.RowKit Go.Shelf
abbrev ownIn (v : Value) (xs : List Int) : Chunk := own mono_IntR 1 3 v xs
theorem inM_row {w0 W : World} {H0 H : PH} {LB : List Chunk} {oa : Option Addr} {N oc k : Nat} {xs : List Int} {x : Int} (hM : Mem w0 H0 (ownIn (.slice oa N oc) xs :: LB) H W) (hk : xs[k]? = some x) :
    ∃ g, oa = some ⟨g, 0, none⟩ ∧ g < W.heap.size ∧ W.cell? ⟨g, k, none⟩ = some (.int .i64 x) ∧ IntR H [.int .i64 x] x := by
  obtain ⟨g, cs, h1, -, h3, -, h5, h6⟩ := hM.row (i := 0) rfl hk
  obtain rfl : cs = [.int .i64 x] := h6.1
  exact ⟨g, h1, h3, by have := h5 0 _ rfl; rwa [Nat.mul_one, Nat.add_zero] at this, h6⟩
theorem wpList_store_i {P : Program} {T : TypeId} {w0 w : World} {H0 H : PH} {L : List Chunk} {xs : List Int} {ops : Array Oper} {rest : List Oper} {o : Oper} {a : Act} {Q : Exit → Act → World → Prop} (hgd : o.guard = none) (ty : TypeId) (x y : Operand) (ho : o.op = .store ty x y)
    {g n cap : Nat} (k : Nat) (hx : a.eval x = .pointer (some ⟨g, k, none⟩)) {z : Int} (hy : a.eval y = .int .i64 z) (h : Mem w0 H0 L H w) (i : Nat) (hi : L[i]? = some (own mono_IntR 1 T (.slice (some ⟨g, 0, none⟩) n cap) xs)) (hk : k < xs.length)
    (hE : IntR H [.int .i64 z] z) (hinfo : (P.info? ty).map (·.size) = some 1)
    (hn : ∀ w', Mem w0 H0 (L.set i (own mono_IntR 1 T (.slice (some ⟨g, 0, none⟩) n cap) (xs.set k z))) H w' → wpList P ops Q rest (a.put o.dst undef) w') : wpList P ops Q (o :: rest) a w :=
  wpList_plain hgd fun _ hK => oper_store_1 ty x y ho k hx (cs := [.int .i64 z]) hy h i hi hk hE rfl (by simp [Value.oneCell']) hinfo fun w' hM => hK _ _ (hn w' hM)
theorem wpList_clear_i {P : Program} {T : TypeId} {w0 w : World} {H0 H : PH} {L : List Chunk} {xs : List Int} {ops : Array Oper} {rest : List Oper} {o : Oper} {a : Act} {Q : Exit → Act → World → Prop} (hgd : o.guard = none) (s : Operand) (t : TypeId) (ho : o.op = .call { callee := .builtin .clear, args := #[s], argTypes := #[t] })
    {g n cap c : Nat} (k : Nat) (hs : a.eval s = .slice (some ⟨g, k, none⟩) (n - k) c) {z : Value} (ht : P.underlying t = some (.slice T)) (hz : ∀ w, (zeroValue T).run P w = .ok z w) (hzs : z.cells.size = 1) (hz1 : z.cells.all (·.oneCell') = true)
    (h : Mem w0 H0 L H w) (i : Nat) (hi : L[i]? = some (own mono_IntR 1 T (.slice (some ⟨g, 0, none⟩) n cap) xs)) (hk : k ≤ xs.length)
    (hn : ∀ w', Mem w0 H0 (L.set i (own mono_IntR 1 T (.slice (some ⟨g, 0, none⟩) k cap) (xs.take k))) H w' → wpList P ops Q rest (a.put o.dst (.tuple #[])) w') : wpList P ops Q (o :: rest) a w :=
  wpList_clear_M hgd s t ho k (by rw [hs, Nat.mul_one]) ht hz hzs hz1 h i hi hk hn
def OwnIP (w0 : World) (H0 : PH) (LB : List Chunk) (H : PH) (ys : List Int) (e : Ending) (w' : World) : Prop := ∃ v', e = .returned v' ∧ Mem w0 H0 (ownIn v' ys :: LB) H w'
theorem infoIn : (Tryz.prog.info? 3).map (fun i => (i.zero, i.size, i.bytes)) = some (some (.int .i64 0), 1, 8) := by kernel_rfl
theorem zeroIn1 (w : World) : (zeroValue 3).run Tryz.prog w = .ok (.int .i64 0) w := by
  obtain ⟨i, hi, hz0, hz1, hz2⟩ := info_parts infoIn
  simp [zeroValue, typeInfo, hi, hz0]
def iddP : Option Int → List Int → List Int
  | _, [] => []
  | d, x :: r => if d = some x then iddP (some x) r else x :: iddP (some x) r
def ilastD (d : Option Int) (l : List Int) : Option Int := match l.getLast? with | some x => some x | none => d
theorem ilastD_cons (d : Option Int) (x : Int) (l : List Int) : ilastD d (x :: l) = ilastD (some x) l := by
  unfold ilastD
  cases l with
  | nil => rfl
  | cons y r => rw [List.getLast?_cons_cons]; cases h : (y :: r).getLast? with
    | none => simp at h
    | some z => rfl
theorem iddP_snoc (x : Int) : ∀ (l : List Int) (d : Option Int), iddP d (l ++ [x]) = iddP d l ++ if ilastD d l = some x then [] else [x]
  | [], d => by
    show iddP d [x] = iddP d [] ++ _
    have e : ilastD d [] = d := rfl
    rw [e]
    by_cases h : d = some x
    · rw [if_pos h]; show (if d = some x then iddP (some x) [] else x :: iddP (some x) []) = _; rw [if_pos h]; rfl
    · rw [if_neg h]; show (if d = some x then iddP (some x) [] else x :: iddP (some x) []) = _; rw [if_neg h]; rfl
  | y :: r, d => by
    rw [List.cons_append, iddP, iddP, ilastD_cons, iddP_snoc x r]
    split
    · rfl
    · rfl
abbrev idd (l : List Int) : List Int := iddP none l
theorem idd_take {xs : List Int} {j : Nat} (hj : j < xs.length) (h0 : 0 < j) : idd (xs.take (j + 1)) = idd (xs.take j) ++ if (xs[j - 1]'(by omega)) = xs[j] then [] else [xs[j]] := by
  show iddP none _ = iddP none _ ++ _
  rw [List.take_add_one, List.getElem?_eq_getElem hj, Option.toList_some, iddP_snoc]
  congr 1
  have : ilastD none (xs.take j) = some (xs[j - 1]'(by omega)) := by
    unfold ilastD
    rw [List.getLast?_eq_getElem?, List.length_take, Nat.min_eq_left (by omega), List.getElem?_take_of_lt (by omega), List.getElem?_eq_getElem (by omega)]
  rw [this]
  simp only [Option.some.injEq]
def ICmpAt (xs ys : List Int) (i j : Nat) : Prop := ys.length = xs.length ∧ i < j ∧ j ≤ xs.length ∧ ys.take i = idd (xs.take j) ∧ ys.drop (j - 1) = xs.drop (j - 1)
theorem ICmpAt.at {xs ys : List Int} {i j : Nat} (h : ICmpAt xs ys i j) (hj : j < xs.length) : ys[j]? = some (xs[j]) ∧ ys[j - 1]? = some (xs[j - 1]'(by omega)) := by
  obtain ⟨h1, h2, -, -, h6⟩ := h
  have e0 := congrArg (fun l => l[0]?) h6
  have e1 := congrArg (fun l => l[1]?) h6
  simp only [List.getElem?_drop] at e0 e1
  rw [show j - 1 + 1 = j by omega] at e1
  rw [Nat.add_zero] at e0
  exact ⟨e1.trans (List.getElem?_eq_getElem hj), e0.trans (List.getElem?_eq_getElem (by omega))⟩
theorem ICmpAt.skip {xs ys : List Int} {i j : Nat} (h : ICmpAt xs ys i j) (hj : j < xs.length) (hp : (xs[j - 1]'(by omega)) = xs[j]) : ICmpAt xs ys i (j + 1) := by
  obtain ⟨h1, h2, h3, h4, h6⟩ := h
  refine ⟨h1, by omega, by omega, ?_, ?_⟩
  · rw [idd_take hj (by omega), if_pos hp, List.append_nil]; exact h4
  · have := congrArg (List.drop 1) h6
    rw [List.drop_drop, List.drop_drop] at this
    rw [show j + 1 - 1 = j - 1 + 1 by omega]; exact this
theorem ICmpAt.keep {xs ys : List Int} {i j : Nat} (h : ICmpAt xs ys i j) (hj : j < xs.length) (hp : (xs[j - 1]'(by omega)) ≠ xs[j]) : ICmpAt xs (ys.set i xs[j]) (i + 1) (j + 1) := by
  obtain ⟨h1, h2, h3, h4, h6⟩ := h
  refine ⟨by simpa using h1, by omega, by omega, ?_, ?_⟩
  · rw [idd_take hj (by omega), if_neg hp, ← h4, List.take_add_one, List.take_set_of_le (Nat.le_refl _), List.getElem?_set_self (by omega)]; rfl
  · have := congrArg (List.drop 1) h6
    rw [List.drop_drop, List.drop_drop, show j - 1 + 1 = j by omega] at this
    rw [show j + 1 - 1 = j by omega, List.drop_set_of_lt (by omega)]; exact this
theorem ICmpAt.start {xs : List Int} {i : Nat} (h0 : 0 < i) (hi : i < xs.length) (hd : idd (xs.take i) = xs.take i) (hp : (xs[i - 1]'(by omega)) = xs[i]) : ICmpAt xs xs i (i + 1) :=
  ⟨rfl, by omega, by omega, by rw [idd_take hi h0, if_pos hp, List.append_nil, hd], rfl⟩
theorem idd_go {xs : List Int} {i : Nat} (h0 : 0 < i) (hi : i < xs.length) (hd : idd (xs.take i) = xs.take i) (hp : (xs[i - 1]'(by omega)) ≠ xs[i]) : idd (xs.take (i + 1)) = xs.take (i + 1) := by
  rw [idd_take hi h0, if_neg hp, hd, List.take_add_one, List.getElem?_eq_getElem hi]; rfl
theorem ICmpAt.done {xs ys : List Int} {i : Nat} (h : ICmpAt xs ys i xs.length) : ys.take i = idd xs := by
  rw [h.2.2.2.1, List.take_length]
def BoolR (_ : PH) (cs : List Value) (b : Bool) : Prop := cs = [.bool b]
theorem mono_BoolR : Mono BoolR := fun _ _ _ _ _ h => h
theorem one_BoolR {h : PH} : ∀ cs x, BoolR h cs x → ∀ u ∈ cs, u.oneCell' = true := by
  rintro cs x rfl u hu
  obtain rfl := List.mem_singleton.1 hu
  rfl
abbrev BoolsR : PH → Value → List Bool → Prop := SliceRep BoolR 1
theorem BoolsR.at {w : World} {a : Option Addr} {n cap : Nat} {xs : List Bool} (hr : BoolsR (ph w) (.slice a n cap) xs) (k : Nat) (hk : k < xs.length) :
    ∃ b o, a = some ⟨b, o, none⟩ ∧ w.cell? ⟨b, o + k, none⟩ = some (.bool xs[k]) ∧ b < w.heap.size := by
  obtain ⟨b, o, c, h1, h2, h3⟩ := SliceRep.get1 hr k hk
  cases h3
  exact ⟨b, o, h1, h2, cell_lt h2⟩
theorem infoBool : (Tryz.prog.info? 4).map (fun i => (i.zero, i.size, i.bytes)) = some (some (.bool false), 1, 1) := by kernel_rfl
set_option maxRecDepth 100000 in
set_option maxHeartbeats 4000000 in
theorem between_c (a b : En) (w : World) : Calls Tryz.prog 218 #[enA a, enA b] w (RetV w (itA (betw a b))) := by
  have hs : Hid (itA (betw a b) = .agg #[.int .i64 (if a.far ≠ 0 then 0 else a.at'.num), .int .i64 (if a.far ≠ 0 then 0 else a.at'.den), .int .i64 (if b.far ≠ 0 then 0 else b.at'.num), .int .i64 (if b.far ≠ 0 then 0 else b.at'.den), .bool (if a.far ≠ 0 then false else a.aft), .bool (if b.far ≠ 0 then false else !b.aft), .bool (decide (a.far ≠ 0)), .bool (decide (b.far ≠ 0))]) := by
    show _ = _
    unfold itA betw
    dsimp only
    congr 1
    by_cases h1 : a.far = 0 <;> by_cases h2 : b.far = 0 <;> simp [h1, h2]
  generalize itA (betw a b) = V at hs ⊢
  obtain ⟨f, ⟨n, d⟩, t⟩ := a
  obtain ⟨f', ⟨n', d'⟩, t'⟩ := b
  unfold enA
  dsimp only at *
  have hx : Ext w ((((w.alloc (.cells #[.int .i64 f, .int .i64 n, .int .i64 d, .bool t] 214)).alloc (.cells #[.int .i64 f', .int .i64 n', .int .i64 d', .bool t'] 214)).alloc (.cells #[.int .i64 0, .int .i64 0, .int .i64 0, .int .i64 0, .bool false, .bool false, .bool false, .bool false] 91)).alloc (.cells #[.int .i64 0, .int .i64 0, .int .i64 0, .int .i64 0, .bool false, .bool false, .bool false, .bool false] 91)) := xE
  clear hx
  by_cases h1 : f = 0
  · by_cases h2 : f' = 0
    · subst h1 h2
      go_enter Tryz.func218, Tryz.ntmps218
      go_wp2_with fail
      go_region
      go_wp2_with fail
      go_region
      go_wp2_with fail
      exact bodyPost_ret (v := V) (by rw [hs.out]; simp [results, Tryz.results218, go_sem, *]) rfl ⟨rfl, xE⟩
    · subst h1
      have hb2 : (f' != 0) = true := by simpa using h2
      go_enter Tryz.func218, Tryz.ntmps218
      go_wp2_with fail
      go_region
      go_wp2_with fail
      exact bodyPost_ret (v := V) (by rw [hs.out]; simp [results, Tryz.results218, go_sem, *]) rfl ⟨rfl, xE⟩
  · have hb1 : (f != 0) = true := by simpa using h1
    by_cases h2 : f' = 0
    · subst h2
      go_enter Tryz.func218, Tryz.ntmps218
      go_wp2_with fail
      go_region
      go_wp2_with fail
      exact bodyPost_ret (v := V) (by rw [hs.out]; simp [results, Tryz.results218, go_sem, *]) rfl ⟨rfl, xE⟩
    · have hb2 : (f' != 0) = true := by simpa using h2
      go_enter Tryz.func218, Tryz.ntmps218
      go_wp2_with fail
      exact bodyPost_ret (v := V) (by rw [hs.out]; simp [results, Tryz.results218, go_sem, *]) rfl ⟨rfl, xE⟩
set_option maxRecDepth 100000 in
set_option maxHeartbeats 1000000 in
theorem cmb3_c (x : Itv) (e : En) (b : Nat) (w : World) (hx : goodB x = true) (he : e.bd) (hO : Own w b (enC e).toArray 214) :
    Calls Tryz.prog 216 #[itA x, .pointer (some ⟨b, 0, none⟩)] w (RetV w (.bool (insB x e))) := by
  have hin := fun w => inside_c x e w hx he
  generalize insB x e = q at *
  clear hx he
  obtain ⟨⟨p, r⟩, ⟨u, v⟩, lO, rO, lI, rI⟩ := x
  obtain ⟨f, ⟨n, d⟩, t⟩ := e
  unfold itA enA at *
  unfold enC at hO
  dsimp only [List.toArray] at *
  have hx := Ext.new w (.cells #[.int .i64 p, .int .i64 r, .int .i64 u, .int .i64 v, .bool lO, .bool rO, .bool lI, .bool rI] 91)
  replace hO := hO.keep hx
  have hO2 := Proofs.YtabajghokhfmhaaGreat.Own.new w #[.int .i64 p, .int .i64 r, .int .i64 u, .int .i64 v, .bool lO, .bool rO, .bool lI, .bool rI] 91
  go_enter Tryz.func216, Tryz.ntmps216
  go_upto_region 1 with (fail)
  generalize w.heap.size = b2 at *
  generalize w.alloc _ = W at *
  obtain ⟨c1, f1⟩ := hO.facts
  obtain ⟨c2, f2⟩ := hO2.facts
  have z1 := hO.lt
  have z2 := hO2.lt
  go_wp2_with fail
  refine RetV_at (hin _) ?_
  intro w2 hx2
  go_wp2_with fail
  go_ret
  exact ⟨rfl, hx.then hx2⟩
def KeepC (fid : Nat) (keep : List Bool → Bool) (m : Nat) : Prop := ∀ (w : World) (vb : Value) (bs : List Bool), BoolsR (ph w) vb bs → bs.length = m → Calls Tryz.prog fid #[vb] w (RetV w (.bool (keep bs)))
def andK (bs : List Bool) : Bool := bs.getD 0 false && bs.getD 1 false
def notK (bs : List Bool) : Bool := !bs.getD 0 false
theorem getD_get {bs : List Bool} {k : Nat} (h : k < bs.length) : bs.getD k false = bs[k] := by simp [List.getD_eq_getElem?_getD, h]
theorem keepAnd : KeepC 230 andK 2 := by
  intro w vb bs hr hl
  obtain ⟨a, c, rfl, hlen, hr⟩ := hr.form
  obtain ⟨b, o, rfl, c0, z0⟩ := BoolsR.at hr 0 (by omega)
  rw [Nat.add_zero] at c0
  obtain ⟨b', o', e, c1, -⟩ := BoolsR.at hr 1 (by omega)
  cases e
  have hs : Hid (andK bs = (bs[0] && bs[1])) := by show _ = _; unfold andK; rw [getD_get, getD_get]
  generalize andK bs = q at hs ⊢
  generalize bs[0] = p at *
  generalize bs[1] = p' at *
  rw [hl] at hlen ⊢
  clear hr
  replace hl := Lib.hid hl
  cases p with
  | true =>
    go_enter Tryz.func230, Tryz.ntmps230
    go_wp2_with fail
    go_ret
    exact ⟨ret_bool (by rw [hs.out]; simp), xE⟩
  | false =>
    go_enter Tryz.func230, Tryz.ntmps230
    go_wp2_with fail
    go_ret
    exact ⟨ret_bool (by rw [hs.out]; simp), xE⟩
theorem keepNot : KeepC 162 notK 1 := by
  intro w vb bs hr hl
  obtain ⟨a, c, rfl, hlen, hr⟩ := hr.form
  obtain ⟨b, o, rfl, c0, z0⟩ := BoolsR.at hr 0 (by omega)
  rw [Nat.add_zero] at c0
  have hs : Hid (notK bs = !bs[0]) := by show _ = _; unfold notK; rw [getD_get]
  generalize notK bs = q at hs ⊢
  generalize bs[0] = p at *
  rw [hl] at hlen ⊢
  clear hr
  replace hl := Lib.hid hl
  go_enter Tryz.func162, Tryz.ntmps162
  go_wp2_with fail
  go_ret
  exact ⟨ret_bool hs.out.symm, xE⟩
theorem Src.lit2 {α : Type} {E : PH → List Value → α → Prop} {sz : Nat} {H : PH} {w : World} {x y : α} {cs ds : List Value} {b : Nat} (hE : E H cs x) (hs : cs.length = sz) (hE2 : E H ds y) (hs2 : ds.length = sz) (hc : ∀ j, w.cell? ⟨b, j, none⟩ = (cs ++ ds)[j]?) : Src w H E sz (.slice (some ⟨b, 0, none⟩) 2 2) [x, y] :=
  ⟨_, 2, rfl, Nat.le_refl _, .inr ⟨_, cs ++ ds, rfl, ⟨cs, ds, rfl, hs, hE, ds, [], by simp, hs2, hE2, rfl⟩, fun j u hu => by rw [add0, hc]; exact hu⟩⟩
theorem En.sm.I {e : En} (h : e.sm) : e.I := by
  have := h.bd
  unfold En.bd at this
  unfold En.I Rat2.I I64; omega
def SetRes (w : World) (r : List Itv × Int) (e : Ending) (w' : World) : Prop := ∃ v, e = .returned (.tuple #[v, .int .i64 r.2]) ∧ Ext w w' ∧ ItvsR (up noH w w') v r.1
def NewSp (W : World) (n : Nat) (c : Array Value) (T : TypeId) : Prop1 := fun v w => ∃ g, v = .slice (some ⟨g, 0, none⟩) n n ∧ Own w g c T ∧ W.heap.size ≤ g
theorem stab_NewSp {W : World} (W0 : World) (n : Nat) (c : Array Value) (T : TypeId) : Stable W (NewSp W0 n c T) := fun v w w' _ ⟨g, h1, h2, h3⟩ e => ⟨g, h1, h2.keep e, h3⟩
theorem gat_take {l : List Itv} {j : Nat} (h : j < l.length) : gat (l.take (j + 1)) = gat (l.take j) ++ [loE l[j], hiE l[j]] := by
  rw [List.take_succ_eq_append_getElem h, gat_append]; rfl
theorem flat_take {ls : List (List Itv)} {k : Nat} (h : k < ls.length) : (ls.take (k + 1)).flatten = (ls.take k).flatten ++ ls[k] := by
  rw [List.take_succ_eq_append_getElem h, List.flatten_append]; simp
theorem flat_leS {ls : List (List Itv)} {k j : Nat} (h : k < ls.length) : (ls.take k).flatten.length + (ls[k].take j).length ≤ ls.flatten.length := by
  have e : ls.flatten = (ls.take k).flatten ++ (ls[k] ++ (ls.drop (k + 1)).flatten) := by
    conv => lhs; rw [← List.take_append_drop k ls, List.flatten_append, List.drop_eq_getElem_cons h]
    rfl
  rw [e]
  simp only [List.length_append, List.length_take]; omega
theorem cells_sm {H : PH} : ∀ {ys : List En} {c : List Value} (hs : ∀ e ∈ ys, e.sm), Cells H EnR 4 c ys → ∃ zs : List SmT, zs.map (·.1) = ys ∧ Cells H SmR 4 c zs
  | [], c, _, h => ⟨[], rfl, h⟩
  | y :: ys, c, hs, h => by
    obtain ⟨cs, rest, rfl, h1, h2, h3⟩ := h
    obtain ⟨zs, h4, h5⟩ := cells_sm (fun e he => hs e (List.mem_cons_of_mem _ he)) h3
    exact ⟨⟨y, hs y List.mem_cons_self⟩ :: zs, by rw [List.map_cons, h4], cs, rest, rfl, h1, h2, h5⟩
theorem cells_en {H : PH} : ∀ {zs : List SmT} {c : List Value}, Cells H SmR 4 c zs → Cells H EnR 4 c (zs.map (·.1))
  | [], c, h => h
  | z :: zs, c, h => by
    obtain ⟨cs, rest, rfl, h1, h2, h3⟩ := h
    exact ⟨cs, rest, rfl, h1, h2, cells_en h3⟩
theorem ownC_sm {H : PH} {w : World} {T : TypeId} {v : Value} {ys : List En} (h : OwnC H w EnR 4 T v ys) (hs : ∀ e ∈ ys, e.sm) : ∃ zs : List SmT, zs.map (·.1) = ys ∧ OwnC H w SmR 4 T v zs := by
  rcases h with ⟨h1, rfl⟩ | ⟨g, cap, cur, h1, h2, h3, h4, h5, h6⟩
  · exact ⟨[], rfl, .inl ⟨h1, rfl⟩⟩
  · obtain ⟨zs, h7, h8⟩ := cells_sm hs h6
    have hl : zs.length = ys.length := by rw [← h7, List.length_map]
    exact ⟨zs, h7, .inr ⟨g, cap, cur, by rw [hl]; exact h1, h2, by rw [hl]; exact h3, h4, h5, by rw [hl]; exact h8⟩⟩
theorem ownC_en {H : PH} {w : World} {T : TypeId} {v : Value} {zs : List SmT} (h : OwnC H w SmR 4 T v zs) : OwnC H w EnR 4 T v (zs.map (·.1)) := by
  rcases h with ⟨h1, rfl⟩ | ⟨g, cap, cur, h1, h2, h3, h4, h5, h6⟩
  · exact .inl ⟨h1, rfl⟩
  · exact .inr ⟨g, cap, cur, by rw [List.length_map]; exact h1, h2, by rw [List.length_map]; exact h3, h4, h5, by rw [List.length_map]; exact cells_en h6⟩
theorem fin_len (D : List En) : (fin D).length ≤ D.length + 1 := by unfold fin; split <;> simp
theorem ddP_len : ∀ (l : List En) (d : Option En), (ddP d l).length ≤ l.length
  | [], _ => Nat.le_refl _
  | x :: r, d => by
    rw [ddP]
    have := ddP_len r (some x.k)
    split
    · simp; omega
    · simp; omega
abbrev ownV (v : Value) (xs : List Itv) : Chunk := own mono_ItvR 8 91 v xs
theorem marks_drop {keep : List Bool → Bool} {ls : List (List Itv)} {E : List En} {k : Nat} (h : k < E.length) : (marks keep ls E).drop k = (E[k], decide (E[k].far ≠ 1) && keep (ls.map fun l => covB l E[k])) :: (marks keep ls E).drop (k + 1) := by
  have hl : k < (marks keep ls E).length := by unfold marks; rw [List.length_map]; exact h
  rw [List.drop_eq_getElem_cons hl]
  congr 1
  simp [marks]
theorem marks_len (keep : List Bool → Bool) (ls : List (List Itv)) (E : List En) : (marks keep ls E).length = E.length := by unfold marks; rw [List.length_map]
theorem pairs_len (l : List (En × En)) : (pairs l).length = l.length := by unfold pairs; rw [List.length_map]
theorem betw_I {a b : En} (ha : a.at'.I) (hb : b.at'.I) : (betw a b).I := by
  have z : Rat2.I ⟨0, 0⟩ := by unfold Rat2.I I64; simp
  unfold betw Itv.I
  dsimp only
  constructor
  · split
    · exact z
    · exact ha
  · split
    · exact z
    · exact hb
def ptrE (g : Nat) (f : Option Nat) : Value := .pointer (f.map fun j => ⟨g, j * 4, none⟩)
theorem last_get (D : List En) (h : 0 < D.length) : D.getLast?.getD botE = D[D.length - 1] := by
  rw [List.getLast?_eq_getElem?, List.getElem?_eq_getElem (by omega)]; rfl
set_option maxRecDepth 100000 in
set_option maxHeartbeats 8000000 in
theorem combine_c (fid : Nat) (keep : List Bool → Bool) (ls : List (List Itv)) (vl : Value) (w : World) (hr : SetsR (ph w) vl ls) (hg : ∀ x ∈ ls.flatten, goodB x = true) (hlen : ls.flatten.length ≤ 10000) (hls : ls.length ≤ 10000) (hk : KeepC fid keep ls.length)
    (hfn : ∀ args w, (callFunc fid args).run Tryz.prog w = .ok (.enter fid args) w) : Calls Tryz.prog 161 #[.func (.func fid) #[] #[], vl] w (SetRes w (fewE (combF keep ls))) := by
  obtain ⟨a, c, rfl, hlen2, hr⟩ := hr.form
  have hfin : ∀ ys : List En, ys.Perm (botE :: gat ls.flatten) → ys.Pairwise (fun x y => lessE y x = false) → Ends ls (fin (dd ys)) ∧ 0 < (dd ys).length := fun ys h1 h2 => ends_of hg h1 h2
  have hgl : Hid (∀ k (h : k < ls.length), ∀ x ∈ ls[k], goodB x = true) := Lib.hid fun k h x hx => hg x (List.mem_flatten.2 ⟨ls[k], List.getElem_mem h, hx⟩)
  have hsm : Hid (∀ e ∈ botE :: gat ls.flatten, e.sm) := Lib.hid fun e he => by
    rcases List.mem_cons.1 he with rfl | he
    · exact .inr (.inl rfl)
    · exact gat_sm hg e he
  replace hfin := Lib.hid hfin
  replace hk := Lib.hid hk
  replace hlen := Lib.hid hlen
  replace hg := Lib.hid hg
  have hM0 := ((Mem.start w noH (noH_le _)).new (enC botE).toArray 214).asOwn (xs := [botE]) (E := EnR) (sz := 4) 0 rfl mono_EnR (n := 1) (by simp) (by decide) rfl ⟨enC botE, [], rfl, rfl, ⟨rfl, En.sm.I (.inr (.inl rfl))⟩, rfl⟩
  simp only [List.nil_append, List.set_cons_zero] at hM0
  replace hM0 : Mem w noH [ownN (.slice (some ⟨w.heap.size, 0, none⟩) 1 1) [botE]] noH (w.alloc (.cells #[.int .i64 (-1), .int .i64 0, .int .i64 0, .bool false] 214)) := hM0
  go_enter Tryz.func161, Tryz.ntmps161
  go_upto_region 2 with (fail)
  generalize w.alloc _ = W0 at *
  generalize Value.slice (some ⟨w.heap.size, 0, none⟩) 1 1 = v0 at *
  go_upto_block 0 with (fail)
  go_cut [6] (fun v6 wx => ∃ (ys : List En), Hid (ys = botE :: gat ls.flatten) ∧ Mem w noH [ownN v6 ys] noH wx)
  case first =>
    go_wp2_with fail
    go_loopw [6, 26] (fun v6 vi wr => ∃ (k : Nat) (ys : List En), k ≤ ls.length ∧ vi = .int .i64 k ∧ Hid (ys = botE :: gat (ls.take k).flatten) ∧ Mem w noH [ownN v6 ys] noH wr) (fun _ vi _ => ls.length - (intOf vi).toNat)
    case atStart => exact ⟨0, [botE], by omega, rfl, Lib.hid rfl, hM0⟩
    case round =>
      clear hM0
      obtain ⟨k, ys, hkl, rfl, hys, hM⟩ := hrel
      by_cases hlt : k < ls.length
      · obtain ⟨b, o, p, q, rfl, h0, hbl, hI⟩ := SetsR.at hr k hlt
        replace h0 := hM.ex.cell1 h0
        replace hbl := cell_lt h0
        have hja : decide (k < ls.length) = true := decide_eq_true hlt
        have hgk := hgl.out k hlt
        have hle := Lib.hid (fun j => flat_leS (k := k) (j := j) hlt)
        have hfl := Lib.hid (flat_take hlt)
        obtain ⟨l, hl⟩ : ∃ l, l = ls[k] := ⟨_, rfl⟩
        rw [← hl] at h0 hI hgk
        replace hl := Lib.hid hl
        obtain ⟨n, hn⟩ : ∃ n, l.length = n := ⟨_, rfl⟩
        rw [hn] at h0 hI
        have hn6 : n ≤ 10000 := by
          have h1 := hle.out n
          have h2 := hlen.out
          rw [← hl.out, List.take_of_length_le (l := l) (by omega), hn] at h1
          omega
        replace hn := Lib.hid hn
        replace hgk := Lib.hid hgk
        have hIw : Hid (∀ w', Ext w w' → ItvsR (ph w') (.slice p n q) l) := Lib.hid fun w' hx => hI.mono mono_ItvR hx.ple
        go_wp2_with fail
        go_loopw [6, 32] (fun v6 vi wi => ∃ (j : Nat) (ys : List En), j ≤ n ∧ vi = .int .i64 j ∧ Hid (ys = botE :: gat ((ls.take k).flatten ++ l.take j)) ∧ Mem w noH [ownN v6 ys] noH wi) (fun _ vi _ => n - (intOf vi).toNat)
        case atStart => exact ⟨0, ys, by omega, rfl, Lib.hid (by rw [hys.out]; simp), hM⟩
        case round =>
          clear hM
          obtain ⟨j, zs, hjn, rfl, hzs, hM⟩ := hrel
          by_cases hlj : j < n
          · obtain ⟨b', o', rfl, x0, x1, x2, x3, x4, x5, x6, x7, hbl', hxI⟩ := ItvsR.at (hIw.out _ hM.ex) j (by rw [hn.out]; exact hlj)
            have hjb : decide (j < n) = true := decide_eq_true hlj
            have hends := fun w => ends_c (l[j]'(by rw [hn.out]; exact hlj)) w
            have hgx := hgk.out (l[j]'(by rw [hn.out]; exact hlj)) (List.getElem_mem _)
            have hz2 : Hid (zs ++ [loE (l[j]'(by rw [hn.out]; exact hlj)), hiE (l[j]'(by rw [hn.out]; exact hlj))] = botE :: gat ((ls.take k).flatten ++ l.take (j + 1))) := Lib.hid (by
              rw [hzs.out, gat_append, gat_append, gat_take (by rw [hn.out]; exact hlj)]; simp)
            have hLI := (goodB.lo hgx).I
            have hRI := (goodB.hi hgx).I
            unfold endsV at hends
            generalize loE (l[j]'(by rw [hn.out]; exact hlj)) = L at *
            generalize hiE (l[j]'(by rw [hn.out]; exact hlj)) = R at *
            generalize l[j]'(by rw [hn.out]; exact hlj) = x at *
            obtain ⟨⟨p1, p2⟩, ⟨p3, p4⟩, lO, rO, lI, rI⟩ := x
            unfold itA at hends
            dsimp only at *
            have hzl : zs.length ≤ 30000 := by
              have h1 := hle.out j
              have h2 := hlen.out
              have h3 := congrArg List.length hzs.out
              rw [List.length_cons, gat_len, List.length_append, hl.out] at h3
              omega
            replace hends := Lib.hid hends
            clear hgx
            go_upto_region 8 with (fail)
            have hM2 := hM.ext (Ext.new wr (.cells #[.int .i64 p1, .int .i64 p2, .int .i64 p3, .int .i64 p4, .bool lO, .bool rO, .bool lI, .bool rI] 91))
            have hO := Proofs.YtabajghokhfmhaaGreat.Own.new wr #[.int .i64 p1, .int .i64 p2, .int .i64 p3, .int .i64 p4, .bool lO, .bool rO, .bool lI, .bool rI] 91
            generalize wr.heap.size = b10 at *
            generalize wr.alloc _ = W1 at *
            obtain ⟨c1, f1⟩ := hO.facts
            have z1 := hO.lt
            clear x0 x1 x2 x3 x4 x5 x6 x7 hM hO
            go_wp2_with fail
            refine RetV_at (hends.out _) ?_
            intro w2 hx2
            replace hM2 := hM2.ext hx2
            clear c1 f1 z1 hx2 hends
            obtain ⟨f, ⟨n1, d1⟩, t⟩ := L
            obtain ⟨f', ⟨n', d'⟩, t'⟩ := R
            unfold enA
            dsimp only at *
            go_upto_region 9 with (fail)
            have k1 := (Proofs.YtabajghokhfmhaaGreat.Own.new w2 #[.int .i64 f, .int .i64 n1, .int .i64 d1, .bool t] 214).alloc (.cells #[.int .i64 f', .int .i64 n', .int .i64 d', .bool t'] 214)
            have k2 := Proofs.YtabajghokhfmhaaGreat.Own.new' (w2.alloc (.cells #[.int .i64 f, .int .i64 n1, .int .i64 d1, .bool t] 214)) #[.int .i64 f', .int .i64 n', .int .i64 d', .bool t'] 214 (n := w2.heap.size + 1) (by simp)
            have hy := (Ext.new w2 (.cells #[.int .i64 f, .int .i64 n1, .int .i64 d1, .bool t] 214)).alloc' (.cells #[.int .i64 f', .int .i64 n', .int .i64 d', .bool t'] 214)
            replace hM2 := hM2.ext hy
            generalize w2.heap.size = b11 at *
            generalize (w2.alloc _).alloc _ = W2 at *
            obtain ⟨c1, f1⟩ := k1.facts
            obtain ⟨c2, f2⟩ := k2.facts
            have z1 := k1.lt
            have z2 := k2.lt
            have hM3 := hM2.ext (Ext.new W2 (.cells #[.int .i64 f, .int .i64 n1, .int .i64 d1, .bool t, .int .i64 f', .int .i64 n', .int .i64 d', .bool t'] 214))
            have hS := Src.lit2 (H := noH) (E := EnR) (sz := 4) (w := W2.alloc (.cells #[.int .i64 f, .int .i64 n1, .int .i64 d1, .bool t, .int .i64 f', .int .i64 n', .int .i64 d', .bool t'] 214)) (b := W2.heap.size) (x := ⟨f, ⟨n1, d1⟩, t⟩) (y := ⟨f', ⟨n', d'⟩, t'⟩) (cs := enC ⟨f, ⟨n1, d1⟩, t⟩) (ds := enC ⟨f', ⟨n', d'⟩, t'⟩) ⟨rfl, hLI⟩ rfl ⟨rfl, hRI⟩ rfl (fun j => by rw [(Proofs.YtabajghokhfmhaaGreat.Own.new W2 _ _).facts.1]; simp [enC])
            obtain ⟨a6, c6, e6, -⟩ := hM3.form 0 rfl
            clear hM2 k1 k2 hy
            go_wp2_with (first | (at_builtin; refine wpList_append_M 0 rfl _ _ 235 rfl Tryz.underlying235 infoEn rfl rfl rfl hM3 rfl hS one_EnR (by simp; omega) (by simp; omega) ?c5))
            case c5 =>
              intro v' w' hM4
              try simp only [List.set_cons_zero] at hM4
              rw [hz2.out] at hM4
              obtain ⟨a7, c7, rfl, -⟩ := hM4.form 0 rfl
              clear hM3 hS c1 f1 c2 f2 z1 z2
              go_wp2_with fail
              go_roundw
              case rel => exact ⟨j + 1, _, by omega, by go_num, hz2 ▸ Lib.hid rfl, hM4⟩
              case measure => simp [intOf]; omega
          · have hjb : decide (j < n) = false := by simpa using hlj
            have hzs2 : Hid (zs = botE :: gat (ls.take (k + 1)).flatten) := Lib.hid (by
              rw [hzs.out, hfl.out, hl.out]
              congr 2
              rw [← hl.out, List.take_of_length_le (l := l) (i := j) (by rw [hn.out]; omega)])
            go_wp2_with fail
            go_roundw
            case rel => exact ⟨k + 1, zs, by omega, by go_num, hzs2, hM⟩
            case measure => simp [intOf]; omega
      · have hja : decide (k < ls.length) = false := by simpa using hlt
        have hys2 : Hid (ys = botE :: gat ls.flatten) := Lib.hid (by rw [hys.out, List.take_of_length_le (by omega)])
        go_wp2_with fail
        go_meet
        case rel => exact ⟨ys, hys2, hM⟩
  case rest =>
    clear hM0
    obtain ⟨ys, hys, hM⟩ := hcut
    obtain ⟨zs, hzs, hZ⟩ := ownC_sm (hM.ok 0 _ rfl) (by rw [hys.out]; exact hsm.out)
    have hzl : zs.length ≤ 30000 := by
      have h2 := hlen.out
      have h3 := congrArg List.length hys.out
      rw [List.length_cons, gat_len, ← hzs, List.length_map] at h3
      omega
    obtain ⟨a6, c6, e6, -⟩ := OwnC.form hZ
    subst e6
    have hso2 := sortE_c noH _ zs _ hZ (by omega)
    replace hso2 := Lib.hid hso2
    clear hsm hgl
    go_wp2_with fail
    refine hso2.out.mono ?_
    rintro e w3 ⟨rfl, xs, hp1, hs1, hO1, hg1⟩
    have hM3 := hM.put 0 rfl (c' := ownN (.slice a6 zs.length c6) (xs.map fun x : SmT => x.1)) (ownC_en hO1) (fun k hk => .inl hk) (hM.ex.grown hg1 fun k hk => (hM.fr 0 _ rfl k hk).1) fun k hk hne => hg1.block k hk (fun e => hne e.symm)
    simp only [List.set_cons_zero] at hM3
    have hp2 : Hid ((xs.map fun x : SmT => x.1).Perm (botE :: gat ls.flatten)) := Lib.hid (by rw [← hys.out, ← hzs]; exact hp1.map _)
    have hs2 : Hid ((xs.map fun x : SmT => x.1).Pairwise fun x y => lessE y x = false) := Lib.hid (by rw [List.pairwise_map]; exact hs1)
    have hxl : xs.length ≤ 30000 := by rw [hp1.length_eq]; exact hzl
    have hcp := compactEn_c _ (xs.map fun x : SmT => x.1) w w3 [] hM3 (by rw [List.length_map]; omega)
    have hD := hfin.out _ hp2.out hs2.out
    have hDl : (dd (xs.map fun x : SmT => x.1)).length ≤ 30000 := by
      have := ddP_len (xs.map fun x : SmT => x.1) none
      rw [List.length_map] at this
      show (ddP none _).length ≤ _
      omega
    replace hcp := Lib.hid hcp
    clear hso2 hM hM3 hg1 hO1 hs1 hp1 hp2 hs2 hxl hZ hzl hzs
    generalize dd (xs.map fun x : SmT => x.1) = D at *
    obtain ⟨hE, hD0⟩ := hD
    go_wp2_with fail
    refine hcp.out.mono ?_
    rintro e w4 ⟨v4, rfl, hM4⟩
    obtain ⟨a4, c4, rfl, -⟩ := hM4.form 0 rfl
    clear hcp hfin hys
    obtain ⟨g, rfl, hgz, gc, -⟩ := endsM_row hM4 (List.getElem?_eq_getElem (show D.length - 1 < D.length by omega))
    have hlast := last_get D hD0
    have hfd : Hid (fin D = if D[D.length - 1].far ≠ 1 then D ++ [topE] else D) := Lib.hid (by unfold fin; rw [hlast])
    generalize D[D.length - 1] = z at *
    have g0 : _ = some (Value.int .i64 z.far) := gc 0 _ rfl
    rw [Nat.add_zero] at g0
    have hwl : IntKind.i64.wrap ((D.length : Int) - 1) = ((D.length - 1 : Nat) : Int) := by rw [IntKind.wrap_i64]; omega
    clear gc hlast
    go_upto_if 59 with (fail)
    go_cut [6] (fun v6 wx => Mem w noH [ownN v6 (fin D)] noH wx)
    case first =>
      by_cases hz1 : z.far = 1
      · have hzb : (z.far != 1) = false := by simpa using hz1
        rw [if_neg (by simpa using hz1)] at hfd
        generalize z.far = zf at *
        go_wp2_with fail
        go_meet
        case rel => rw [hfd.out]; exact hM4
      · have hzb : (z.far != 1) = true := by simpa using hz1
        rw [if_pos hz1] at hfd
        generalize z.far = zf at *
        have hM5 := hM4.ext (Ext.new w4 (.cells #[.int .i64 1, .int .i64 0, .int .i64 0, .bool false] 214))
        have hS := Src.lit1 (H := noH) (E := EnR) (sz := 4) (w := w4.alloc (.cells #[.int .i64 1, .int .i64 0, .int .i64 0, .bool false] 214)) (b := w4.heap.size) (x := topE) (cs := enC topE) ⟨rfl, En.sm.I (.inr (.inr rfl))⟩ rfl (fun j => by rw [(Proofs.YtabajghokhfmhaaGreat.Own.new w4 _ _).facts.1]; simp [enC, topE])
        go_wp2_with (first | (at_builtin; refine wpList_append_M 0 rfl _ _ 235 rfl Tryz.underlying235 infoEn rfl rfl rfl hM5 rfl hS one_EnR (by simp; omega) (by simp; omega) ?d5))
        case d5 =>
          intro v' w' hM6
          try simp only [List.set_cons_zero] at hM6
          rw [← hfd.out] at hM6
          obtain ⟨a7, c7, rfl, -⟩ := hM6.form 0 rfl
          clear hM5 hS
          go_wp2_with fail
          go_meet
          case rel => exact hM6
    case rest =>
      have hDl2 : (fin D).length ≤ 30001 := by have := fin_len D; omega
      clear hM4 g0 hgz hfd hwl hDl hD0
      generalize fin D = E at *
      have hM := hcut
      clear hcut
      obtain ⟨a6, c6, rfl, -⟩ := hM.form 0 rfl
      obtain ⟨Z, hZd⟩ : ∃ Z, Z = marks keep ls E := ⟨_, rfl⟩
      have hZl : Z.length = E.length := by rw [hZd, marks_len]
      have hres : Hid (combF keep ls = pairs (runZ none Z)) := Lib.hid (by
        rw [hZd]; unfold combF
        exact Ends.uniq (ends_starts hg.out) hE)
      have hpos : 0 < E.length := by
        obtain ⟨es, he⟩ := hE.shape
        rw [he]; simp
      obtain ⟨g, rfl, -, -, -⟩ := endsM_row hM (List.getElem?_eq_getElem hpos)
      have hEsm := hE.sm
      replace hEsm := Lib.hid hEsm
      replace hE := Lib.hid hE
      have hZl2 := runZ_len Z none
      replace hZd := Lib.hid hZd
      go_upto_block 4 with (fail)
      go_cut [13] (fun v13 wx => Mem w noH [ownV v13 (pairs (runZ none Z))] noH wx)
      case first =>
        have hM1 := hM.nil mono_ItvR 8 91
        simp only [List.cons_append, List.nil_append] at hM1
        go_wp2_with fail
        go_loopw [13, 14, 66] (fun vo vf vi wr => ∃ (k : Nat) (f : Option Nat) (out : List Itv), k ≤ E.length ∧ vi = .int .i64 k ∧ vf = ptrE g f ∧ Hid ((∀ j, f = some j → j < E.length) ∧ pairs (runZ none Z) = out ++ pairs (runZ (f.map fun j => E.getD j botE) (Z.drop k))) ∧ Mem w noH [ownN (.slice (some ⟨g, 0, none⟩) E.length c6) E, ownV vo out] noH wr) (fun _ _ vi _ => E.length - (intOf vi).toNat)
        case atStart => exact ⟨0, none, [], by omega, rfl, rfl, Lib.hid ⟨(fun j h => by cases h), rfl⟩, hM1⟩
        case round =>
          clear hM hM1
          obtain ⟨k, f, out, hkE, rfl, rfl, hrun, hM⟩ := hrel
          by_cases hlt : k < E.length
          · obtain ⟨g', e', hgz, gc, hEI⟩ := endsM_row hM (List.getElem?_eq_getElem hlt)
            cases e'
            have hja : decide (k < E.length) = true := decide_eq_true hlt
            have hzk := marks_drop (keep := keep) (ls := ls) hlt
            rw [← hZd.out] at hzk
            have hesm := hEsm.out _ (List.getElem_mem hlt)
            obtain ⟨yes, hyes⟩ : ∃ yes, (decide (E[k].far ≠ 1) && keep (ls.map fun l => covB l E[k])) = yes := ⟨_, rfl⟩
            rw [hyes] at hzk
            have hgetk : E.getD k botE = E[k] := by simp [List.getD_eq_getElem?_getD, hlt]
            obtain ⟨e, he⟩ : ∃ e, e = E[k] := ⟨_, rfl⟩
            rw [← he] at gc hEI hzk hesm hyes hgetk
            replace he := Lib.hid he
            replace hzk := Lib.hid hzk
            replace hyes := Lib.hid hyes
            replace hgetk := Lib.hid hgetk
            obtain ⟨oa, oc, rfl, -⟩ := hM.form 1 rfl
            have hout : out.length ≤ 30001 := by
              have h1 := congrArg List.length hrun.out.2
              rw [pairs_len, List.length_append] at h1
              omega
            have g0 : _ = some (Value.int .i64 e.far) := gc 0 _ rfl
            have g1 : _ = some (Value.int .i64 e.at'.num) := gc 1 _ rfl
            have g2 : _ = some (Value.int .i64 e.at'.den) := gc 2 _ rfl
            have g3 : _ = some (Value.bool e.aft) := gc 3 _ rfl
            rw [Nat.add_zero] at g0
            go_upto_region 21 with (fail)
            have hM2 := hM.new #[.int .i64 e.far, .int .i64 e.at'.num, .int .i64 e.at'.den, .bool e.aft] 214
            simp only [List.cons_append, List.nil_append] at hM2
            generalize wr.heap.size = b16 at *
            generalize wr.alloc _ = W1 at *
            clear gc g0 g1 g2 g3 hM hgz
            go_upto_block 6 with (fail)
            go_cut [17] (fun v17 wx => Mem w noH [ownN (.slice (some ⟨g, 0, none⟩) E.length c6) E, ownV (.slice oa out.length oc) out, box b16 #[.int .i64 e.far, .int .i64 e.at'.num, .int .i64 e.at'.den, .bool e.aft] 214, own mono_BoolR 1 4 v17 (ls.map fun l => covB l e)] noH wx)
            case first =>
              have hM3 := hM2.nil mono_BoolR 1 4
              simp only [List.cons_append, List.nil_append] at hM3
              go_wp2_with fail
              go_loopw [17, 73] (fun vb vj wi => ∃ (j : Nat) (bs : List Bool), j ≤ ls.length ∧ vj = .int .i64 j ∧ Hid (bs = (ls.take j).map fun l => covB l e) ∧ Mem w noH [ownN (.slice (some ⟨g, 0, none⟩) E.length c6) E, ownV (.slice oa out.length oc) out, box b16 #[.int .i64 e.far, .int .i64 e.at'.num, .int .i64 e.at'.den, .bool e.aft] 214, own mono_BoolR 1 4 vb bs] noH wi) (fun _ vj _ => ls.length - (intOf vj).toNat)
              case atStart => exact ⟨0, [], by omega, rfl, Lib.hid rfl, hM3⟩
              case round =>
                clear hM2 hM3
                obtain ⟨j, bs, hjl, rfl, hbs, hM⟩ := hrel
                by_cases hlj : j < ls.length
                · obtain ⟨b, o, p, q, rfl, h0, hbl, hI⟩ := SetsR.at hr j hlj
                  replace h0 := hM.ex.cell1 h0
                  replace hbl := cell_lt h0
                  have hjb : decide (j < ls.length) = true := decide_eq_true hlj
                  have hgk : ∀ x ∈ ls[j], goodB x = true := fun x hx => hg.out x (List.mem_flatten.2 ⟨ls[j], List.getElem_mem hlj, hx⟩)
                  have hbs2 : Hid (bs ++ [covB ls[j] e] = (ls.take (j + 1)).map fun l => covB l e) := Lib.hid (by rw [hbs.out, List.take_succ_eq_append_getElem hlj, List.map_append]; rfl)
                  have hbl2 : bs.length ≤ 10000 := by rw [hbs.out, List.length_map, List.length_take]; omega
                  obtain ⟨ba, bc, rfl, -⟩ := hM.form 3 rfl
                  have hcf := fun (w' : World) (hx : Ext w w') (hO : Own w' b16 (enC e).toArray 214) => containsFunc_itv (fun x => insB x e) 216 #[.pointer (some ⟨b16, 0, none⟩)] (.slice p ls[j].length q) ls[j] w' (hI.mono mono_ItvR hx.ple) (enters_of Tryz.func216 (by kernel_rfl) rfl) (by
                    rintro w'' hx2 x hx3 cs ⟨rfl, -⟩
                    exact cmb3_c x e b16 w'' (hgk x hx3) hesm.bd (hO.keep hx2))
                  change ∀ w' hx hO, Calls _ _ _ w' (RetV w' (.bool (covB ls[j] e))) at hcf
                  have hO1 : Own wr b16 (enC e).toArray 214 := hM.box 2 rfl
                  have hcf2 := hcf _ hM.ex hO1
                  generalize covB ls[j] e = cb at *
                  generalize ls[j].length = nj at *
                  replace hcf2 := Lib.hid hcf2
                  clear hcf hgk hI
                  go_wp2_with fail
                  refine RetV_at hcf2.out ?_
                  intro w5 hx5
                  have hM5 := (hM.ext hx5).ext (Ext.new w5 (.cells #[.bool cb] 4))
                  have hS := Src.lit1 (H := noH) (E := BoolR) (sz := 1) (w := w5.alloc (.cells #[.bool cb] 4)) (b := w5.heap.size) (x := cb) (cs := [.bool cb]) rfl rfl (fun j => by rw [(Proofs.YtabajghokhfmhaaGreat.Own.new w5 _ _).facts.1]; simp)
                  clear hM hx5 hcf2 hO1
                  go_wp2_with (first | (at_builtin; refine wpList_append_M 3 rfl _ _ 186 rfl Tryz.underlying186 infoBool rfl rfl rfl hM5 rfl hS one_BoolR (by simp; omega) (by simp; omega) ?e5))
                  case e5 =>
                    intro v' w' hM6
                    try simp only [List.set_cons_zero, List.set_cons_succ] at hM6
                    rw [hbs2.out] at hM6
                    obtain ⟨a7, c7, rfl, -⟩ := hM6.form 3 rfl
                    clear hM5 hS
                    go_wp2_with fail
                    go_roundw
                    case rel => exact ⟨j + 1, _, by omega, by go_num, Lib.hid rfl, hM6⟩
                    case measure => simp [intOf]; omega
                · have hjb : decide (j < ls.length) = false := by simpa using hlj
                  have hbs2 : bs = ls.map fun l => covB l e := by rw [hbs.out, List.take_of_length_le (by omega)]
                  rw [hbs2] at hM
                  clear hbs2
                  go_wp2_with fail
                  go_meet
                  case rel => exact hM
            case rest =>
              clear hM2
              have hM := hcut
              clear hcut
              obtain ⟨ba, bc, rfl, -⟩ := hM.form 3 rfl
              have hbr := hM.rep 3 rfl
              rw [List.length_map] at hbr hM ⊢
              have hkc := hk.out _ _ (ls.map fun l => covB l e) hbr (by rw [List.length_map])
              generalize keep (ls.map fun l => covB l e) = kp at *
              replace hkc := Lib.hid hkc
              clear hbr
              obtain ⟨q0, q1⟩ := (hM.box 2 rfl).facts
              have qz := (hM.box 2 rfl).lt
              go_upto_region 27 with (fail)
              go_cut [20] (fun v20 wx => v20 = .bool yes ∧ Mem w noH [ownN (.slice (some ⟨g, 0, none⟩) E.length c6) E, ownV (.slice oa out.length oc) out, box b16 #[.int .i64 e.far, .int .i64 e.at'.num, .int .i64 e.at'.den, .bool e.aft] 214] noH wx)
              case first =>
                by_cases hf1 : e.far = 1
                · have hfb : (e.far != 1) = false := by simpa using hf1
                  have hy2 : Hid (yes = false) := Lib.hid (by rw [← hyes.out]; simp [hf1])
                  generalize e.far = ef at *
                  go_wp2_with fail
                  go_meet
                  case rel => exact ⟨by rw [hy2.out], by simpa using hM.pick [0, 1, 2] (by decide)⟩
                · have hfb : (e.far != 1) = true := by simpa using hf1
                  have hy2 : Hid (yes = kp) := Lib.hid (by rw [← hyes.out]; simp [hf1])
                  generalize e.far = ef at *
                  go_wp2_with fail
                  refine RetV_at hkc.out ?_
                  intro w6 hx6
                  have hM6 := hM.ext hx6
                  go_wp2_with fail
                  go_meet
                  case rel => exact ⟨by rw [hy2.out], by simpa using hM6.pick [0, 1, 2] (by decide)⟩
              case rest =>
                clear hM hkc q0 q1 qz
                obtain ⟨rfl, hM⟩ := hcut
                have hMo : Hid (Mem w noH [ownN (.slice (some ⟨g, 0, none⟩) E.length c6) E, ownV (.slice oa out.length oc) out] noH wc) := Lib.hid (by simpa using hM.pick [0, 1] (by decide))
                cases yes with
                | true =>
                  cases f with
                  | none =>
                    have hrun2 : Hid ((∀ j, some k = some j → j < E.length) ∧ pairs (runZ none Z) = out ++ pairs (runZ ((some k).map fun j => E.getD j botE) (Z.drop (k + 1)))) := Lib.hid ⟨(fun j h => by cases h; exact hlt), by
                      rw [hrun.out.2, hzk.out, Option.map_none, Option.map_some, hgetk.out]; rfl⟩
                    simp only [ptrE, Option.map_none]
                    clear hM
                    go_wp2_with fail
                    go_roundw
                    case rel => exact ⟨k + 1, some k, out, by omega, by go_num, rfl, hrun2, hMo.out⟩
                    case measure => simp [intOf]; omega
                  | some j =>
                    have hrun2 : Hid ((∀ i, some j = some i → i < E.length) ∧ pairs (runZ none Z) = out ++ pairs (runZ ((some j).map fun j => E.getD j botE) (Z.drop (k + 1)))) := Lib.hid ⟨hrun.out.1, by
                      rw [hrun.out.2, hzk.out, Option.map_some]; rfl⟩
                    simp only [ptrE, Option.map_some]
                    clear hM
                    go_wp2_with fail
                    go_roundw
                    case rel => exact ⟨k + 1, some j, out, by omega, by go_num, rfl, hrun2, hMo.out⟩
                    case measure => simp [intOf]; omega
                | false =>
                  cases f with
                  | none =>
                    have hrun2 : Hid ((∀ j, (none : Option Nat) = some j → j < E.length) ∧ pairs (runZ none Z) = out ++ pairs (runZ ((none : Option Nat).map fun j => E.getD j botE) (Z.drop (k + 1)))) := Lib.hid ⟨(fun j h => by cases h), by
                      rw [hrun.out.2, hzk.out, Option.map_none]; rfl⟩
                    simp only [ptrE, Option.map_none]
                    clear hM
                    go_wp2_with fail
                    go_roundw
                    case rel => exact ⟨k + 1, none, out, by omega, by go_num, rfl, hrun2, hMo.out⟩
                    case measure => simp [intOf]; omega
                  | some j =>
                    have hjE := hrun.out.1 j rfl
                    have hgj : E.getD j botE = E[j] := by simp [List.getD_eq_getElem?_getD, hjE]
                    have hrun2 : Hid ((∀ i, (none : Option Nat) = some i → i < E.length) ∧ pairs (runZ none Z) = (out ++ [betw E[j] e]) ++ pairs (runZ ((none : Option Nat).map fun j => E.getD j botE) (Z.drop (k + 1)))) := Lib.hid ⟨(fun j h => by cases h), by
                      rw [hrun.out.2, hzk.out, Option.map_some, Option.map_none, hgj, List.append_assoc]; rfl⟩
                    obtain ⟨g', e', hgz, gc, hEI2⟩ := endsM_row hM (List.getElem?_eq_getElem hjE)
                    cases e'
                    have hsj := hEsm.out _ (List.getElem_mem hjE)
                    have hgood : Hid ((betw E[j] e).I) := Lib.hid (betw_I hEI2.2 hEI.2)
                    have hbt := fun w => between_c E[j] e w
                    generalize E[j] = s at *
                    have g0 : _ = some (Value.int .i64 s.far) := gc 0 _ rfl
                    have g1 : _ = some (Value.int .i64 s.at'.num) := gc 1 _ rfl
                    have g2 : _ = some (Value.int .i64 s.at'.den) := gc 2 _ rfl
                    have g3 : _ = some (Value.bool s.aft) := gc 3 _ rfl
                    rw [Nat.add_zero] at g0
                    obtain ⟨q0, q1⟩ := (hM.box 2 rfl).facts
                    have qz := (hM.box 2 rfl).lt
                    have r0 : _ = some (Value.int .i64 e.far) := q0 0
                    have r1 : _ = some (Value.int .i64 e.at'.num) := q0 1
                    have r2 : _ = some (Value.int .i64 e.at'.den) := q0 2
                    have r3 : _ = some (Value.bool e.aft) := q0 3
                    obtain ⟨bt, hbtd⟩ : ∃ bt, betw s e = bt := ⟨_, rfl⟩
                    rw [hbtd] at hbt hrun2 hgood
                    unfold enA itA at hbt
                    replace hbt := Lib.hid hbt
                    clear gc q0 q1 hM hbtd
                    simp only [ptrE, Option.map_some]
                    go_wp2_with fail
                    (refine wp_region_I 7 (by kernel_rfl) (by kernel_rfl) ?_; simp only [List.toList_toArray, List.take_succ_cons, List.take_zero, List.drop_succ_cons, List.drop_zero])
                    iterate 5 (refine wiA rfl (by simp) rfl ?_; (try simp only [List.nil_append, List.cons_append]))
                    (refine walkI_is (u := ?_) rfl (by simp) rfl ?_ ?_; rotate_left; (focus (intro A w' hS hA K hK; (simp only [List.map_cons, List.map_nil, knows, Is, Op.operands, Call.operands, List.lookup_cons, List.lookup_nil, Nat.reduceBEq, Bool.false_eq_true, if_false, if_true, Act.eval, Array.getD_eq_getD_getElem?, List.getElem?_toArray, List.getElem?_cons_succ, List.getElem?_cons_zero, Option.getD_some, and_true, true_and, List.append_toArray, List.nil_append, List.cons_append, List.toList_toArray, Array.toList_append, Option.toArray, List.append_nil] at hA); first | (go_simp; refine RetV_at (hbt.out w') ?_; intro w6 hx6; exact hK _ hx6) | (obtain ⟨hSc, hSf, hSs⟩ := hS.cells; go_simp; exact hK _ xN))); (try simp only [List.nil_append, List.cons_append]))
                    (refine walkI_step (NewSp wc 1 #[.int .i64 bt.lo.num, .int .i64 bt.lo.den, .int .i64 bt.hi.num, .int .i64 bt.hi.den, .bool bt.loO, .bool bt.hiO, .bool bt.loI, .bool bt.hiI] 91) rfl (by simp) rfl (stab_NewSp _ _ _ _) ?_ ?_; (focus (intro A w' hS hA K hK; (simp only [List.map_cons, List.map_nil, knows, Is, Op.operands, Call.operands, List.lookup_cons, List.lookup_nil, Nat.reduceBEq, Bool.false_eq_true, if_false, if_true, Act.eval, Array.getD_eq_getD_getElem?, List.getElem?_toArray, List.getElem?_cons_succ, List.getElem?_cons_zero, Option.getD_some, and_true, true_and, List.append_toArray, List.nil_append, List.cons_append, List.toList_toArray, Array.toList_append, Option.toArray, List.append_nil] at hA); (go_simp; exact hK _ _ (Ext.new _ _) ⟨_, rfl, Proofs.YtabajghokhfmhaaGreat.Own.new _ _ _, hS.size⟩))); (try simp only [List.nil_append, List.cons_append]))
                    (refine walkI_nil ?_; simp only [List.nil_append, List.cons_append, fins, Is, forall_eq, Act.put, List.setIfInBounds_toArray, List.set_cons_zero, List.set_cons_succ])
                    rintro w7 hx7 v ⟨gq, rfl, hO2, hgq⟩
                    have hM7 := hMo.out.ext hx7
                    have hS := Src.lit1 (H := noH) (E := ItvR) (sz := 8) (w := w7) (b := gq) (x := bt) (cs := itC bt) ⟨rfl, hgood.out⟩ rfl (fun j => by rw [hO2.facts.1]; simp [itC])
                    clear hO2 hgq hx7 g0 g1 g2 g3 r0 r1 r2 r3 hbt
                    go_wp2_with (first | (at_builtin; refine wpList_append_M 1 rfl _ _ 27 rfl Tryz.underlying27 infoItv rfl rfl rfl hM7 rfl hS one_ItvR (by simp; omega) (by simp; omega) ?f5))
                    case f5 =>
                      intro v' w' hM8
                      try simp only [List.set_cons_zero, List.set_cons_succ] at hM8
                      clear hM7 hS hMo
                      go_wp2_with fail
                      go_roundw
                      case rel => exact ⟨k + 1, none, _, by omega, by go_num, rfl, hrun2, hM8⟩
                      case measure => simp [intOf]; omega
          · have hja : decide (k < E.length) = false := by simpa using hlt
            have hfin2 : Hid (pairs (runZ none Z) = out) := Lib.hid (by
              rw [hrun.out.2, List.drop_of_length_le (by omega)]
              cases f <;> simp [runZ, pairs])
            have hM9 := hM.pick [1] (by decide)
            simp only [List.nil_append, List.cons_append, List.map_cons, List.map_nil, List.getElem?_cons_zero, List.getElem?_cons_succ, Option.getD_some] at hM9
            go_wp2_with fail
            go_meet
            case rel => rw [hfin2.out]; exact hM9
      case rest =>
        clear hM
        have hM := hcut
        clear hcut
        rw [← hres.out] at hM
        obtain ⟨oa, oc, rfl, -⟩ := hM.form 0 rfl
        have hrp := hM.repUp 0 rfl
        have hfw := few_c _ _ _ (hM.rep 0 rfl)
        have hxx := hM.ex
        have hfe : Hid (fewE (combF keep ls) = if 32 < (combF keep ls).length then ([], 4) else (combF keep ls, 0)) := rfl
        generalize combF keep ls = out at *
        replace hrp := Lib.hid hrp
        by_cases h32 : 32 < out.length
        · rw [if_pos h32] at hfe
          rw [hfe.out] at hfw
          replace hfw := Lib.hid hfw
          clear hM hE hEsm
          go_wp2_with fail
          refine RetV_at hfw.out ?_
          intro w5 hx5
          go_wp2_with fail
          go_ret2
          rw [hfe.out]
          exact ⟨_, rfl, xE, SliceRep.nil _ _ _⟩
        · rw [if_neg h32] at hfe
          rw [hfe.out] at hfw
          replace hfw := Lib.hid hfw
          clear hM hE hEsm
          go_wp2_with fail
          refine RetV_at hfw.out ?_
          intro w5 hx5
          go_wp2_with fail
          go_ret2
          rw [hfe.out]
          exact ⟨_, rfl, xE, hrp.out.mono mono_ItvR (up_then hxx hx5)⟩
theorem setF_all : ∀ {l : List Itv} {p : Option Itv}, setF p l = true → ∀ x ∈ l, goodB x = true
  | [], p, _ => fun x hx => by cases hx
  | y :: r, p, h => by
    rw [setF_cons, Bool.and_eq_true, Bool.and_eq_true] at h
    intro x hx
    rcases List.mem_cons.1 hx with rfl | hx
    · exact h.1.1
    · exact setF_all h.2 x hx
theorem setE_0 {l : List Itv} (h : setE l = 0) : (∀ x ∈ l, goodB x = true) ∧ l.length ≤ 32 := by
  unfold setE at h
  split at h
  · cases h
  · rename_i h1
    split at h
    · cases h
    · rename_i h2
      exact ⟨setF_all (by simpa using h1), by omega⟩
theorem setsE_2 (a b : List Itv) : setsE [a, b] = if setE a ≠ 0 then setE a else setE b := by
  unfold setsE
  by_cases h1 : setE a = 0
  · by_cases h2 : setE b = 0 <;> simp [h1, h2]
  · simp [h1]
theorem setsE_20 {a b : List Itv} (h : setsE [a, b] = 0) : setE a = 0 ∧ setE b = 0 := by
  rw [setsE_2] at h
  split at h
  · rename_i h1; exact absurd h h1
  · rename_i h1; exact ⟨by simpa using h1, h⟩
theorem setsR2 {W w : World} {b : Nat} {va vb : Value} {A B : List Itv} {T : TypeId} (hO : Own w b #[va, vb] T) (hx : Ext W w) (ha : ItvsR (ph W) va A) (hb : ItvsR (ph W) vb B) : SetsR (ph w) (.slice (some ⟨b, 0, none⟩) 2 2) [A, B] := by
  obtain ⟨p, q, rfl, -, ha⟩ := ha.form
  obtain ⟨p', q', rfl, -, hb⟩ := hb.form
  exact sliceArr hO ⟨[_], [_], rfl, rfl, ⟨p, q, rfl, ha.mono mono_ItvR hx.ple⟩, [_], [], rfl, rfl, ⟨p', q', rfl, hb.mono mono_ItvR hx.ple⟩, rfl⟩ rfl (by decide)
theorem setsR1 {W w : World} {b : Nat} {va : Value} {A : List Itv} {T : TypeId} (hO : Own w b #[va] T) (hx : Ext W w) (ha : ItvsR (ph W) va A) : SetsR (ph w) (.slice (some ⟨b, 0, none⟩) 1 1) [A] := by
  obtain ⟨p, q, rfl, -, ha⟩ := ha.form
  exact sliceArr hO ⟨[_], [], rfl, rfl, ⟨p, q, rfl, ha.mono mono_ItvR hx.ple⟩, rfl⟩ rfl (by decide)
def twoS (keep : List Bool → Bool) (a b : List Itv) : List Itv × Int := if setsE [a, b] ≠ 0 then ([], setsE [a, b]) else fewE (combF keep [a, b])
def notS (a : List Itv) : List Itv × Int := if setE a ≠ 0 then ([], setE a) else fewE (combF notK [a])
set_option maxRecDepth 100000 in
set_option maxHeartbeats 1000000 in
theorem meet_c (va vb : Value) (a b : List Itv) (w : World) (ha : ItvsR (ph w) va a) (hb : ItvsR (ph w) vb b) : Calls Tryz.prog 198 #[va, vb] w (SetRes w (twoS andK a b)) := by
  have hv := fun w (h : SetsR (ph w) (.slice (some ⟨w.heap.size - 1, 0, none⟩) 2 2) [a, b]) => valids_c _ [a, b] w h
  have hcm := fun (v : Value) (w : World) (h : SetsR (ph w) v [a, b]) (h0 : setsE [a, b] = 0) => combine_c 230 andK [a, b] v w h (by
      intro x hx
      have := setsE_20 h0
      simp only [List.flatten_cons, List.flatten_nil, List.append_nil, List.mem_append] at hx
      rcases hx with hx | hx
      · exact (setE_0 this.1).1 x hx
      · exact (setE_0 this.2).1 x hx) (by
      have := setsE_20 h0
      have h1 := (setE_0 this.1).2
      have h2 := (setE_0 this.2).2
      simp; omega) (by simp) keepAnd (enters_of Tryz.func230 (by kernel_rfl) rfl)
  have hs : Hid (twoS andK a b = if setsE [a, b] ≠ 0 then ([], setsE [a, b]) else fewE (combF andK [a, b])) := rfl
  have hS2 := fun W (hx : Ext w W) => setsR2 (Proofs.YtabajghokhfmhaaGreat.Own.new W #[va, vb] 27) (hx.then (Ext.new W (.cells #[va, vb] 27))) ha hb
  have hv2 := valids_c _ [a, b] _ (hS2 w (Ext.rfl' _))
  replace hS2 := Lib.hid hS2
  replace hcm := Lib.hid hcm
  obtain ⟨pa, ca, rfl, -, -⟩ := ha.form
  obtain ⟨pb, cb, rfl, -, -⟩ := hb.form
  generalize setsE [a, b] = e at *
  replace hv2 := Lib.hid hv2
  clear hv ha hb
  have hx1 := Ext.new w (.cells #[.slice pa a.length ca, .slice pb b.length cb] 27)
  go_enter Tryz.func198, Tryz.ntmps198
  go_wp2_with fail
  refine RetV_at hv2.out ?_
  intro w2 hx2
  replace hx1 := hx1.then hx2
  by_cases he : e = 0
  · subst he
    rw [if_neg (by simp)] at hs
    have hcm2 := hcm.out _ _ (hS2.out w2 hx1) rfl
    replace hcm2 := Lib.hid hcm2
    have hx3 := hx1.then (Ext.new w2 (.cells #[.slice pa a.length ca, .slice pb b.length cb] 27))
    clear hx2
    go_wp2_with fail
    refine hcm2.out.mono ?_
    rintro e w4 ⟨v, rfl, hx4, hr⟩
    go_wp2_with fail
    go_ret2
    rw [hs.out]
    exact ⟨v, rfl, hx3.then hx4, hr.mono mono_ItvR (up_sub (noH_le _) hx3)⟩
  · rw [if_pos he] at hs
    have heb : (e != 0) = true := by simpa using he
    go_wp2_with fail
    go_ret2
    rw [hs.out]
    exact ⟨_, rfl, hx1, SliceRep.nil _ _ _⟩
set_option maxRecDepth 100000 in
set_option maxHeartbeats 1000000 in
theorem not_c (va : Value) (a : List Itv) (w : World) (ha : ItvsR (ph w) va a) : Calls Tryz.prog 101 #[va] w (SetRes w (notS a)) := by
  have hv2 := valid_c _ a w ha
  have hcm := fun (v : Value) (w : World) (h : SetsR (ph w) v [a]) (h0 : setE a = 0) => combine_c 162 notK [a] v w h (by
      intro x hx
      simp only [List.flatten_cons, List.flatten_nil, List.append_nil] at hx
      exact (setE_0 h0).1 x hx) (by
      have h1 := (setE_0 h0).2
      simp; omega) (by simp) keepNot (enters_of Tryz.func162 (by kernel_rfl) rfl)
  have hs : Hid (notS a = if setE a ≠ 0 then ([], setE a) else fewE (combF notK [a])) := rfl
  have hS2 := fun W (hx : Ext w W) => setsR1 (Proofs.YtabajghokhfmhaaGreat.Own.new W #[va] 27) (hx.then (Ext.new W (.cells #[va] 27))) ha
  replace hS2 := Lib.hid hS2
  replace hcm := Lib.hid hcm
  obtain ⟨pa, ca, rfl, -, -⟩ := ha.form
  generalize setE a = e at *
  replace hv2 := Lib.hid hv2
  clear ha
  go_enter Tryz.func101, Tryz.ntmps101
  go_wp2_with fail
  refine RetV_at hv2.out ?_
  intro w2 hx1
  by_cases he : e = 0
  · subst he
    rw [if_neg (by simp)] at hs
    have hcm2 := hcm.out _ _ (hS2.out w2 hx1) rfl
    replace hcm2 := Lib.hid hcm2
    have hx3 := hx1.then (Ext.new w2 (.cells #[.slice pa a.length ca] 27))
    go_wp2_with fail
    refine hcm2.out.mono ?_
    rintro e w4 ⟨v, rfl, hx4, hr⟩
    go_wp2_with fail
    go_ret2
    rw [hs.out]
    exact ⟨v, rfl, hx3.then hx4, hr.mono mono_ItvR (up_sub (noH_le _) hx3)⟩
  · rw [if_pos he] at hs
    have heb : (e != 0) = true := by simpa using he
    go_wp2_with fail
    go_ret2
    rw [hs.out]
    exact ⟨_, rfl, hx1, SliceRep.nil _ _ _⟩
end Go.Proofs.YtabajghokhfmhaaGreat
namespace Go.Proofs.YtabajghokhfmhaaGreat
theorem stS_permG {α : Type} {c : α → α → Int} (hc : Ordr c) (l : List α) : (stS c l).Perm l := by
  have h := stT_in hc (tag l) [] List.Pairwise.nil (.inl (tag_up l))
  have := h.2.map Prod.fst
  rw [stT_fst, tag_fst, List.nil_append, tag_fst] at this
  exact this
theorem stS_sortedG {α : Type} {c : α → α → Int} (hc : Ordr c) (l : List α) : (stS c l).Pairwise (fun x y => ¬ c y x < 0) := by
  have h := (stT_in hc (tag l) [] List.Pairwise.nil (.inl (tag_up l))).1
  have e : stS c l = (stT c (tag l) []).map Prod.fst := by rw [stT_fst, tag_fst]; rfl
  rw [e, List.pairwise_map]
  refine List.Pairwise.imp ?_ h
  rintro p q (h1 | ⟨h1, -⟩)
  · exact hc.asym _ _ h1
  · exact h1
theorem ordrI : Ordr cmpJ where
  asym x y h := by have := cmpJ_neg x y; omega
  neg x y z h1 h2 h3 := by
    unfold cmpJ at *
    repeat' split at h1
    all_goals repeat' split at h2
    all_goals repeat' split at h3
    all_goals omega
theorem ordrF : Ordr fcmpJ where
  asym x y h := by have := fcmpJ_neg x y; omega
  neg x y z h1 h2 h3 := by
    have a1 := fcmpJ_neg x y
    have a2 := fcmpJ_neg y z
    have a3 := fcmpJ_neg x z
    have := fcmpJ_le (show fcmpJ z y ≤ 0 by omega) (show fcmpJ y x ≤ 0 by omega)
    omega
def putC (n : Int) : List Int → List Int
  | [] => [n]
  | x :: l => if x < n then x :: putC n l else if x = n then x :: l else n :: x :: l
def addC (a b : List Int) : List Int := b.foldl (fun l n => putC n l) a
abbrev ascI (l : List Int) : Prop := l.Pairwise (· < ·)
theorem putC_mem (n z : Int) : ∀ l : List Int, z ∈ putC n l ↔ z = n ∨ z ∈ l
  | [] => by simp [putC]
  | x :: l => by
    unfold putC
    split
    · simp only [List.mem_cons, putC_mem n z l]
      constructor
      · rintro (h | h | h) <;> simp [h]
      · rintro (h | h | h) <;> simp [h]
    · split
      · next h => subst h; simp
      · simp
theorem putC_asc (n : Int) : ∀ l : List Int, ascI l → ascI (putC n l)
  | [], _ => List.pairwise_singleton _ _
  | x :: l, h => by
    obtain ⟨h1, h2⟩ := List.pairwise_cons.1 h
    unfold putC
    split
    · next hx => exact List.pairwise_cons.2 ⟨fun z hz => by
        rcases (putC_mem n z l).1 hz with rfl | hz
        · exact hx
        · exact h1 z hz, putC_asc n l h2⟩
    · split
      · exact h
      · exact List.pairwise_cons.2 ⟨fun z hz => by
          rcases List.mem_cons.1 hz with rfl | hz
          · omega
          · have := h1 z hz; omega, h⟩
theorem putC_len (n : Int) : ∀ l : List Int, (putC n l).length ≤ l.length + 1
  | [] => by simp [putC]
  | x :: l => by
    have := putC_len n l
    unfold putC
    split
    · simp; omega
    · split <;> simp
theorem addC_law : ∀ (b a : List Int), ascI a → ascI (addC a b) ∧ ∀ z, z ∈ addC a b ↔ z ∈ a ∨ z ∈ b
  | [], a, h => ⟨h, fun z => by simp [addC]⟩
  | x :: b, a, h => by
    obtain ⟨k1, k2⟩ := addC_law b (putC x a) (putC_asc x a h)
    refine ⟨k1, fun z => ?_⟩
    show z ∈ addC (putC x a) b ↔ _
    rw [k2, putC_mem, List.mem_cons]
    constructor
    · rintro ((h | h) | h) <;> simp [h]
    · rintro (h | h | h) <;> simp [h]
theorem addC_len : ∀ (b a : List Int), (addC a b).length ≤ a.length + b.length
  | [], a => by simp [addC]
  | x :: b, a => by
    have h1 := addC_len b (putC x a)
    have h2 := putC_len x a
    show (addC (putC x a) b).length ≤ _
    rw [List.length_cons]; omega
theorem ascI_uniq : ∀ {l m : List Int}, ascI l → ascI m → (∀ x, x ∈ l ↔ x ∈ m) → l = m
  | [], [], _, _, _ => rfl
  | [], y :: m, _, _, h => by have := (h y).2 (by simp); cases this
  | x :: l, [], _, _, h => by have := (h x).1 (by simp); cases this
  | x :: l, y :: m, hl, hm, h => by
    obtain ⟨l1, l2⟩ := List.pairwise_cons.1 hl
    obtain ⟨m1, m2⟩ := List.pairwise_cons.1 hm
    have hxy : x = y := by
      rcases List.mem_cons.1 ((h x).1 (by simp)) with e | h1
      · exact e
      · rcases List.mem_cons.1 ((h y).2 (by simp)) with e | h2
        · exact e.symm
        · have := m1 x h1; have := l1 y h2; omega
    subst hxy
    rw [ascI_uniq l2 m2 fun z => ⟨fun hz => by
      rcases List.mem_cons.1 ((h z).1 (List.mem_cons_of_mem _ hz)) with rfl | h1
      · have := l1 z hz; omega
      · exact h1, fun hz => by
      rcases List.mem_cons.1 ((h z).2 (List.mem_cons_of_mem _ hz)) with rfl | h1
      · have := m1 z hz; omega
      · exact h1⟩]
theorem iddP_lawG : ∀ (l : List Int) (d : Option Int), l.Pairwise (fun x y => x ≤ y) → (∀ y, d = some y → ∀ x ∈ l, y ≤ x) →
    ascI (iddP d l) ∧ (∀ x ∈ iddP d l, x ∈ l ∧ ∀ y, d = some y → y < x) ∧ ∀ x ∈ l, x ∈ iddP d l ∨ d = some x
  | [], d, _, _ => ⟨List.Pairwise.nil, fun x (hx : x ∈ []) => (by cases hx), fun x (hx : x ∈ []) => (by cases hx)⟩
  | z :: l, d, hp, hd => by
    obtain ⟨hp1, hp2⟩ := List.pairwise_cons.1 hp
    obtain ⟨i1, i2, i3⟩ := iddP_lawG l (some z) hp2 (fun y hy x hx => by cases hy; exact hp1 x hx)
    rw [iddP]
    split
    · rename_i h
      refine ⟨i1, fun x hx => ⟨by simp [(i2 x hx).1], fun y hy => ?_⟩, fun x hx => ?_⟩
      · rw [h] at hy; exact (i2 x hx).2 y hy
      · rcases List.mem_cons.1 hx with rfl | hx
        · exact .inr h
        · rcases i3 x hx with h3 | h3
          · exact .inl h3
          · exact .inr (h.trans h3)
    · rename_i h
      have hlt : ∀ y, d = some y → y < z := fun y hy => by
        have h1 := hd y hy z (by simp)
        have h2 : y ≠ z := fun e => h (by rw [hy, e])
        omega
      refine ⟨List.pairwise_cons.2 ⟨fun x hx => (i2 x hx).2 z rfl, i1⟩, fun x hx => ?_, fun x hx => ?_⟩
      · rcases List.mem_cons.1 hx with rfl | hx
        · exact ⟨by simp, hlt⟩
        · exact ⟨by simp [(i2 x hx).1], fun y hy => by have := hlt y hy; have := hp1 x (i2 x hx).1; omega⟩
      · rcases List.mem_cons.1 hx with rfl | hx
        · exact .inl (by simp)
        · rcases i3 x hx with h3 | h3
          · exact .inl (by simp [h3])
          · cases h3; exact .inl (by simp)
theorem mergeI_eq {a b : List Int} (ha : ascI a) : idd (stS cmpJ (a ++ b)) = addC a b := by
  have hs : (stS cmpJ (a ++ b)).Pairwise (fun x y => x ≤ y) := (stS_sortedG ordrI (a ++ b)).imp fun {x y} h => by unfold cmpJ at h; split at h <;> omega
  obtain ⟨h1, h2, h3⟩ := iddP_lawG _ none hs (fun y hy => by cases hy)
  obtain ⟨k1, k2⟩ := addC_law b a ha
  refine ascI_uniq h1 k1 fun x => ?_
  rw [k2, ← List.mem_append, ← (stS_permG ordrI (a ++ b)).mem_iff]
  exact ⟨fun hx => (h2 x hx).1, fun hx => (h3 x hx).resolve_right (by simp)⟩
theorem fddP_lawG : ∀ (l : List Fm) (d : Option Fm), l.Pairwise (fun x y : Fm => fcmpJ x y ≤ 0) → (∀ y, d = some y → ∀ x ∈ l, fcmpJ y x ≤ 0) →
    ascF (fddP d l) ∧ (∀ x ∈ fddP d l, x ∈ l ∧ ∀ y, d = some y → fcmpJ y x < 0) ∧ ∀ x ∈ l, x ∈ fddP d l ∨ d = some x
  | [], d, _, _ => ⟨List.Pairwise.nil, fun x (hx : x ∈ []) => (by cases hx), fun x (hx : x ∈ []) => (by cases hx)⟩
  | z :: l, d, hp, hd => by
    obtain ⟨hp1, hp2⟩ := List.pairwise_cons.1 hp
    obtain ⟨i1, i2, i3⟩ := fddP_lawG l (some z) hp2 (fun y hy x hx => by cases hy; exact hp1 x hx)
    rw [fddP]
    split
    · rename_i h
      refine ⟨i1, fun x hx => ⟨by simp [(i2 x hx).1], fun y hy => ?_⟩, fun x hx => ?_⟩
      · rw [h] at hy; exact (i2 x hx).2 y hy
      · rcases List.mem_cons.1 hx with rfl | hx
        · exact .inr h
        · rcases i3 x hx with h3 | h3
          · exact .inl h3
          · exact .inr (h.trans h3)
    · rename_i h
      have hlt : ∀ y, d = some y → fcmpJ y z < 0 := fun y hy => by
        have h1 := hd y hy z (by simp)
        have h2 : fcmpJ y z ≠ 0 := fun e => h (by rw [hy, fcmpJ_0.1 e])
        omega
      refine ⟨List.pairwise_cons.2 ⟨fun x hx => (i2 x hx).2 z rfl, i1⟩, fun x hx => ?_, fun x hx => ?_⟩
      · rcases List.mem_cons.1 hx with rfl | hx
        · exact ⟨by simp, hlt⟩
        · exact ⟨by simp [(i2 x hx).1], fun y hy => fcmpJ_lt (hlt y hy) (hp1 x (i2 x hx).1)⟩
      · rcases List.mem_cons.1 hx with rfl | hx
        · exact .inl (by simp)
        · rcases i3 x hx with h3 | h3
          · exact .inl (by simp [h3])
          · cases h3; exact .inl (by simp)
def addF (a b : List Fm) : List Fm := b.foldl (fun l f => insF f l) a
theorem addF_mem {a b : List Fm} {y : Fm} : y ∈ addF a b ↔ y ∈ a ∨ y ∈ b := fold_mem
theorem addF_asc {a b : List Fm} (h : ascF a) : ascF (addF a b) := fold_asc h
theorem insF_lenG (f : Fm) : ∀ l : List Fm, (insF f l).length ≤ l.length + 1
  | [] => by simp [insF]
  | x :: xs => by
    rw [insF]
    have := insF_lenG f xs
    split
    · simp only [List.length_cons]; omega
    · split <;> simp
theorem addF_len : ∀ (b a : List Fm), (addF a b).length ≤ a.length + b.length
  | [], a => by simp [addF]
  | x :: b, a => by
    have h1 := addF_len b (insF x a)
    have h2 := insF_lenG x a
    show (addF (insF x a) b).length ≤ _
    rw [List.length_cons]; omega
theorem mergeF_eq {a b : List Fm} (ha : ascF a) : fdd (stS fcmpJ (a ++ b)) = addF a b := by
  have hs : (stS fcmpJ (a ++ b)).Pairwise (fun x y => fcmpJ x y ≤ 0) := (stS_sortedG ordrF (a ++ b)).imp fun {x y} h => by have := fcmpJ_neg x y; omega
  obtain ⟨h1, h2, h3⟩ := fddP_lawG _ none hs (fun y hy => by cases hy)
  refine asc_uniq h1 (addF_asc ha) fun x => ?_
  rw [addF_mem, ← List.mem_append, ← (stS_permG ordrF (a ++ b)).mem_iff]
  exact ⟨fun hx => (h2 x hx).1, fun hx => (h3 x hx).resolve_right (by simp)⟩
def meetN (a b : List Itv) : Option (List Itv) := if (twoS andK a b).2 = 0 then some (twoS andK a b).1 else none
def notN (a : List Itv) : Option (List Itv) := if (notS a).2 = 0 then some (notS a).1 else none
theorem meetN_some {a b s : List Itv} (h : meetN a b = some s) : twoS andK a b = (s, 0) := by
  unfold meetN at h
  split at h
  · rename_i h0; cases h; exact Prod.ext rfl h0
  · cases h
theorem meetN_none {a b : List Itv} (h : meetN a b = none) : (twoS andK a b).2 ≠ 0 := by
  unfold meetN at h
  split at h
  · cases h
  · rename_i h0; exact h0
theorem notN_some {a s : List Itv} (h : notN a = some s) : notS a = (s, 0) := by
  unfold notN at h
  split at h
  · rename_i h0; cases h; exact Prod.ext rfl h0
  · cases h
theorem notN_none {a : List Itv} (h : notN a = none) : (notS a).2 ≠ 0 := by
  unfold notN at h
  split at h
  · cases h
  · rename_i h0; exact h0
def putNm (x : Nm) : List Nm → Option (List Nm)
  | [] => some [x]
  | y :: l => if y.attr < x.attr then (putNm x l).map (y :: ·) else if y.attr = x.attr then (meetN y.inn x.inn).map (fun s => ⟨x.attr, s, y.abs && x.abs⟩ :: l) else some (x :: y :: l)
def joinN (a : List Nm) : List Nm → Option (List Nm)
  | [] => some a
  | x :: b => (putNm x a).bind fun r => joinN r b
abbrev ascN (l : List Nm) : Prop := l.Pairwise fun x y => x.attr < y.attr
theorem joinN_snoc (x : Nm) : ∀ (b a : List Nm), joinN a (b ++ [x]) = (joinN a b).bind (putNm x)
  | [], a => by
    show (putNm x a).bind (fun r => some r) = putNm x a
    cases putNm x a <;> rfl
  | y :: b, a => by
    show (putNm y a).bind (fun r => joinN r (b ++ [x])) = ((putNm y a).bind fun r => joinN r b).bind (putNm x)
    cases putNm y a with
    | none => rfl
    | some r => exact joinN_snoc x b r
structure IsJ (a b r : List Nm) : Prop where
  asc : ascN r
  mem : ∀ z, z ∈ r ↔ (z ∈ a ∧ ∀ y ∈ b, y.attr ≠ z.attr) ∨ (z ∈ b ∧ ∀ y ∈ a, y.attr ≠ z.attr) ∨ ∃ x ∈ a, ∃ y ∈ b, ∃ s, x.attr = y.attr ∧ meetN x.inn y.inn = some s ∧ z = ⟨y.attr, s, x.abs && y.abs⟩
theorem ascN_uniq : ∀ {l m : List Nm}, ascN l → ascN m → (∀ x, x ∈ l ↔ x ∈ m) → l = m
  | [], [], _, _, _ => rfl
  | [], y :: m, _, _, h => by have := (h y).2 (by simp); cases this
  | x :: l, [], _, _, h => by have := (h x).1 (by simp); cases this
  | x :: l, y :: m, hl, hm, h => by
    obtain ⟨l1, l2⟩ := List.pairwise_cons.1 hl
    obtain ⟨m1, m2⟩ := List.pairwise_cons.1 hm
    have hxy : x = y := by
      rcases List.mem_cons.1 ((h x).1 (by simp)) with e | h1
      · exact e
      · rcases List.mem_cons.1 ((h y).2 (by simp)) with e | h2
        · exact e.symm
        · have := m1 x h1; have := l1 y h2; omega
    subst hxy
    rw [ascN_uniq l2 m2 fun z => ⟨fun hz => by
      rcases List.mem_cons.1 ((h z).1 (List.mem_cons_of_mem _ hz)) with rfl | h1
      · have := l1 z hz; omega
      · exact h1, fun hz => by
      rcases List.mem_cons.1 ((h z).2 (List.mem_cons_of_mem _ hz)) with rfl | h1
      · have := m1 z hz; omega
      · exact h1⟩]
theorem IsJ.uniq {a b r r' : List Nm} (h : IsJ a b r) (h' : IsJ a b r') : r = r' := ascN_uniq h.asc h'.asc fun z => (h.mem z).trans (h'.mem z).symm
theorem putNm_law (x : Nm) : ∀ (l : List Nm), ascN l → (∀ r, putNm x l = some r → ascN r ∧ ∀ z, z ∈ r ↔ (z ∈ l ∧ z.attr ≠ x.attr) ∨ (z = x ∧ ∀ y ∈ l, y.attr ≠ x.attr) ∨ ∃ y ∈ l, ∃ s, y.attr = x.attr ∧ meetN y.inn x.inn = some s ∧ z = ⟨x.attr, s, y.abs && x.abs⟩) ∧
    (putNm x l = none ↔ ∃ y ∈ l, y.attr = x.attr ∧ meetN y.inn x.inn = none)
  | [], _ => by
    refine ⟨fun r hr => ?_, by simp [putNm]⟩
    cases hr
    exact ⟨List.pairwise_singleton _ _, fun z => by simp⟩
  | y :: l, h => by
    obtain ⟨h1, h2⟩ := List.pairwise_cons.1 h
    obtain ⟨i1, i2⟩ := putNm_law x l h2
    unfold putNm
    by_cases hy : y.attr < x.attr
    · rw [if_pos hy]
      cases hp : putNm x l with
      | none =>
        refine ⟨fun r hr => (by cases hr), ?_⟩
        obtain ⟨q, hq, hq2, hq3⟩ := i2.1 hp
        simp only [Option.map_none, true_iff]
        exact ⟨q, List.mem_cons_of_mem _ hq, hq2, hq3⟩
      | some m =>
        obtain ⟨j1, j2⟩ := i1 m hp
        refine ⟨fun r hr => ?_, ?_⟩
        · simp only [Option.map_some, Option.some.injEq] at hr
          subst hr
          refine ⟨List.pairwise_cons.2 ⟨fun z hz => ?_, j1⟩, fun z => ?_⟩
          · rcases (j2 z).1 hz with ⟨h3, -⟩ | ⟨rfl, -⟩ | ⟨q, hq, s, h3, h4, rfl⟩
            · exact h1 z h3
            · exact hy
            · exact hy
          · rw [List.mem_cons, j2]
            constructor
            · rintro (rfl | ⟨h3, h4⟩ | ⟨rfl, h4⟩ | ⟨q, hq, s, h3, h4, rfl⟩)
              · exact .inl ⟨by simp, by omega⟩
              · exact .inl ⟨List.mem_cons_of_mem _ h3, h4⟩
              · exact .inr (.inl ⟨rfl, fun q hq => by
                  rcases List.mem_cons.1 hq with rfl | hq
                  · omega
                  · exact h4 q hq⟩)
              · exact .inr (.inr ⟨q, List.mem_cons_of_mem _ hq, s, h3, h4, rfl⟩)
            · rintro (⟨h3, h4⟩ | ⟨rfl, h4⟩ | ⟨q, hq, s, h3, h4, rfl⟩)
              · rcases List.mem_cons.1 h3 with rfl | h3
                · exact .inl rfl
                · exact .inr (.inl ⟨h3, h4⟩)
              · exact .inr (.inr (.inl ⟨rfl, fun q hq => h4 q (List.mem_cons_of_mem _ hq)⟩))
              · rcases List.mem_cons.1 hq with rfl | hq
                · omega
                · exact .inr (.inr (.inr ⟨q, hq, s, h3, h4, rfl⟩))
        · simp only [Option.map_some, reduceCtorEq, false_iff]
          rintro ⟨q, hq, h3, h4⟩
          rcases List.mem_cons.1 hq with rfl | hq
          · omega
          · have := i2.2 ⟨q, hq, h3, h4⟩
            rw [hp] at this; cases this
    · rw [if_neg hy]
      by_cases he : y.attr = x.attr
      · rw [if_pos he]
        cases hm : meetN y.inn x.inn with
        | none =>
          refine ⟨fun r hr => (by cases hr), ?_⟩
          simp only [Option.map_none, true_iff]
          exact ⟨y, by simp, he, hm⟩
        | some s =>
          refine ⟨fun r hr => ?_, ?_⟩
          · simp only [Option.map_some, Option.some.injEq] at hr
            subst hr
            refine ⟨List.pairwise_cons.2 ⟨fun z hz => by have := h1 z hz; show x.attr < z.attr; omega, h2⟩, fun z => ?_⟩
            rw [List.mem_cons]
            constructor
            · rintro (rfl | h3)
              · exact .inr (.inr ⟨y, by simp, s, he, hm, rfl⟩)
              · exact .inl ⟨List.mem_cons_of_mem _ h3, by have := h1 z h3; omega⟩
            · rintro (⟨h3, h4⟩ | ⟨rfl, h4⟩ | ⟨q, hq, s', h3, h4, rfl⟩)
              · rcases List.mem_cons.1 h3 with rfl | h3
                · exact absurd he h4
                · exact .inr h3
              · exact absurd he (h4 y (by simp))
              · rcases List.mem_cons.1 hq with rfl | hq
                · rw [hm] at h4; cases h4; exact .inl rfl
                · have := h1 q hq; omega
          · simp only [Option.map_some, reduceCtorEq, false_iff]
            rintro ⟨q, hq, h3, h4⟩
            rcases List.mem_cons.1 hq with rfl | hq
            · rw [hm] at h4; cases h4
            · have := h1 q hq; omega
      · rw [if_neg he]
        refine ⟨fun r hr => ?_, ?_⟩
        · cases hr
          refine ⟨List.pairwise_cons.2 ⟨fun z hz => ?_, h⟩, fun z => ?_⟩
          · rcases List.mem_cons.1 hz with rfl | hz
            · omega
            · have := h1 z hz; omega
          · rw [List.mem_cons]
            constructor
            · rintro (rfl | h3)
              · exact .inr (.inl ⟨rfl, fun q hq => by
                  rcases List.mem_cons.1 hq with rfl | hq
                  · exact he
                  · have := h1 q hq; omega⟩)
              · refine .inl ⟨h3, ?_⟩
                rcases List.mem_cons.1 h3 with rfl | h3
                · exact he
                · have := h1 z h3; omega
            · rintro (⟨h3, h4⟩ | ⟨rfl, h4⟩ | ⟨q, hq, s', h3, h4, rfl⟩)
              · exact .inr h3
              · exact .inl rfl
              · rcases List.mem_cons.1 hq with rfl | hq
                · exact absurd h3 he
                · have := h1 q hq; omega
        · simp only [reduceCtorEq, false_iff]
          rintro ⟨q, hq, h3, h4⟩
          rcases List.mem_cons.1 hq with rfl | hq
          · exact absurd h3 he
          · have := h1 q hq; omega
theorem IsJ.start {a : List Nm} (h : ascN a) : IsJ a [] a := ⟨h, fun z => by simp⟩
theorem IsJ.step {a b r r' : List Nm} {x : Nm} (h : IsJ a b r) (ha : ascN a) (hx : ∀ y ∈ b, y.attr < x.attr) (hp : putNm x r = some r') : IsJ a (b ++ [x]) r' := by
  obtain ⟨i1, i2⟩ := (putNm_law x r h.asc).1 r' hp
  refine ⟨i1, fun z => ?_⟩
  have hrx : ∀ q, q ∈ r ∧ q.attr = x.attr ↔ q ∈ a ∧ q.attr = x.attr := fun q => by
    rw [h.mem]
    constructor
    · rintro ⟨⟨h1, h2⟩ | ⟨h1, h2⟩ | ⟨p, hp, y, hy, s, h1, h2, rfl⟩, h3⟩
      · exact ⟨h1, h3⟩
      · have := hx q h1; omega
      · have := hx y hy; simp only at h3; omega
    · rintro ⟨h1, h2⟩
      exact ⟨.inl ⟨h1, fun y hy => by have := hx y hy; omega⟩, h2⟩
  rw [i2]
  constructor
  · rintro (⟨h1, h2⟩ | ⟨rfl, h2⟩ | ⟨q, hq, s, h1, h2, rfl⟩)
    · rcases (h.mem z).1 h1 with ⟨h3, h4⟩ | ⟨h3, h4⟩ | ⟨p, hp, y, hy, s, h3, h4, h5⟩
      · exact .inl ⟨h3, fun y hy => by
          rcases List.mem_append.1 hy with hy | hy
          · exact h4 y hy
          · rw [List.mem_singleton] at hy; subst hy; exact fun e => h2 e.symm⟩
      · exact .inr (.inl ⟨List.mem_append_left _ h3, h4⟩)
      · exact .inr (.inr ⟨p, hp, y, List.mem_append_left _ hy, s, h3, h4, h5⟩)
    · exact .inr (.inl ⟨by simp, fun y hy e => h2 y ((hrx y).2 ⟨hy, e⟩).1 e⟩)
    · obtain ⟨h3, -⟩ := (hrx q).1 ⟨hq, h1⟩
      exact .inr (.inr ⟨q, h3, x, by simp, s, h1, h2, rfl⟩)
  · rintro (⟨h1, h2⟩ | ⟨h1, h2⟩ | ⟨p, hpa, y, hy, s, h1, h2, rfl⟩)
    · exact .inl ⟨(h.mem z).2 (.inl ⟨h1, fun y hy => h2 y (List.mem_append_left _ hy)⟩), fun e => h2 x (by simp) e.symm⟩
    · rcases List.mem_append.1 h1 with h1 | h1
      · exact .inl ⟨(h.mem z).2 (.inr (.inl ⟨h1, h2⟩)), by have := hx z h1; omega⟩
      · rw [List.mem_singleton] at h1; subst h1
        exact .inr (.inl ⟨rfl, fun q hq e => h2 q ((hrx q).1 ⟨hq, e⟩).1 e⟩)
    · rcases List.mem_append.1 hy with hy | hy
      · exact .inl ⟨(h.mem _).2 (.inr (.inr ⟨p, hpa, y, hy, s, h1, h2, rfl⟩)), by have := hx y hy; show y.attr ≠ x.attr; omega⟩
      · rw [List.mem_singleton] at hy; subst hy
        exact .inr (.inr ⟨p, ((hrx p).2 ⟨hpa, h1⟩).1, s, h1, h2, rfl⟩)
theorem IsJ.fail {a b r : List Nm} {x : Nm} (h : IsJ a b r) (hx : ∀ y ∈ b, y.attr < x.attr) : putNm x r = none ↔ ∃ y ∈ a, y.attr = x.attr ∧ meetN y.inn x.inn = none := by
  rw [(putNm_law x r h.asc).2]
  constructor
  · rintro ⟨y, hy, h1, h2⟩
    rcases (h.mem y).1 hy with ⟨h3, -⟩ | ⟨h3, -⟩ | ⟨p, hp, q, hq, s, h3, h4, rfl⟩
    · exact ⟨y, h3, h1, h2⟩
    · have := hx y h3; omega
    · have := hx q hq; simp only at h1; omega
  · rintro ⟨y, hy, h1, h2⟩
    exact ⟨y, (h.mem y).2 (.inl ⟨hy, fun q hq => by have := hx q hq; omega⟩), h1, h2⟩
theorem joinN_law {a : List Nm} (ha : ascN a) : ∀ {b : List Nm}, ascN b → (∀ r, joinN a b = some r → IsJ a b r) ∧ (joinN a b = none ↔ ∃ x ∈ a, ∃ y ∈ b, x.attr = y.attr ∧ meetN x.inn y.inn = none) := by
  intro b
  generalize hn : b.length = n
  induction n generalizing b with
  | zero =>
    obtain rfl := List.eq_nil_of_length_eq_zero hn
    intro _
    exact ⟨fun r hr => by cases hr; exact IsJ.start ha, by simp [joinN]⟩
  | succ n ih =>
    intro hb
    obtain ⟨c, x, rfl⟩ : ∃ c x, b = c ++ [x] := ⟨b.dropLast, b.getLast (by intro e; simp [e] at hn), (List.dropLast_concat_getLast _).symm⟩
    have hcl : c.length = n := by simpa using hn
    obtain ⟨hc, -, hx⟩ := List.pairwise_append.1 hb
    have hx : ∀ y ∈ c, y.attr < x.attr := fun y hy => hx y hy x (by simp)
    obtain ⟨i1, i2⟩ := ih hcl hc
    rw [joinN_snoc]
    cases hj : joinN a c with
    | none =>
      obtain ⟨p, hp, y, hy, h1, h2⟩ := i2.1 hj
      refine ⟨fun r hr => (by cases hr), ?_⟩
      simp only [Option.bind_none, true_iff]
      exact ⟨p, hp, y, List.mem_append_left _ hy, h1, h2⟩
    | some r =>
      have hI := i1 r hj
      simp only [Option.bind_some]
      refine ⟨fun r' hr' => hI.step ha hx hr', ?_⟩
      rw [hI.fail hx]
      constructor
      · rintro ⟨y, hy, h1, h2⟩
        exact ⟨y, hy, x, by simp, h1, h2⟩
      · rintro ⟨p, hp, y, hy, h1, h2⟩
        rcases List.mem_append.1 hy with hy | hy
        · have := i2.2 ⟨p, hp, y, hy, h1, h2⟩
          rw [hj] at this; cases this
        · rw [List.mem_singleton] at hy; subst hy
          exact ⟨p, hp, h1, h2⟩
end Go.Proofs.YtabajghokhfmhaaGreat
namespace Go.Proofs.YtabajghokhfmhaaGreat
open Go.RowKit
theorem Mem.re {w0 w : World} {H0 H : PH} {L L' : List Chunk} (h : Mem w0 H0 L H w) (f : Nat → Nat) (hf : ∀ i c, L'[i]? = some c → L[f i]? = some c) (hinj : ∀ i j, i ≠ j → i < L'.length → j < L'.length → f i ≠ f j) : Mem w0 H0 L' H w where
  l0 := h.l0
  le := h.le
  ub := h.ub
  ex := h.ex
  ok i c hi := h.ok (f i) c (hf i c hi)
  fr i c hi := h.fr (f i) c (hf i c hi)
  ap i j c d hij hi hj := h.ap (f i) (f j) c d (hinj i j hij (List.getElem?_eq_some_iff.1 hi).1 (List.getElem?_eq_some_iff.1 hj).1) (hf i c hi) (hf j d hj)
theorem Mem.front {w0 w : World} {H0 H : PH} {L : List Chunk} {c : Chunk} (h : Mem w0 H0 (L ++ [c]) H w) : Mem w0 H0 (c :: L) H w := by
  refine h.re (fun i => if i = 0 then L.length else i - 1) (fun i d hi => ?_) (fun i j hij h1 h2 => ?_)
  · cases i with
    | zero => cases hi; simp
    | succ i =>
      rw [List.getElem?_cons_succ] at hi
      simp only [Nat.add_one_ne_zero, if_false, Nat.add_sub_cancel]
      rw [List.getElem?_append_left (List.getElem?_eq_some_iff.1 hi).1]; exact hi
  · simp only [List.length_cons] at h1 h2
    split <;> split <;> omega
theorem Mem.only {w0 w : World} {H0 H : PH} {L : List Chunk} {c : Chunk} (h : Mem w0 H0 (c :: L) H w) : Mem w0 H0 [c] H w := by
  refine h.re (fun i => i) (fun i e hi => ?_) (fun i j hij h1 h2 => hij)
  cases i with
  | zero => exact hi
  | succ i => cases hi
theorem Mem.cellsT {w0 w : World} {H0 H : PH} {L : List Chunk} (h : Mem w0 H0 L H w) (i : Nat) {b : Nat} {a0 a1 a2 : Value} {T : TypeId} (hi : L[i]? = some (Proofs.YtabajghokhfmhaaGreat.box b #[a0, a1, a2] T)) :
    w.cell? ⟨b, 0, none⟩ = some a0 ∧ w.cell? ⟨b, 1, none⟩ = some a1 ∧ w.cell? ⟨b, 2, none⟩ = some a2 ∧ b < w.heap.size :=
  ⟨(h.box i hi).facts.1 0, (h.box i hi).facts.1 1, (h.box i hi).facts.1 2, (h.box i hi).lt⟩
theorem Mem.cellsF {w0 w : World} {H0 H : PH} {L : List Chunk} (h : Mem w0 H0 L H w) (i : Nat) {b : Nat} {a0 a1 a2 : Value} {T : TypeId} (hi : L[i]? = some (Proofs.YtabajghokhfmhaaGreat.box b #[a0, a1, a2] T)) :
    w.cell? ⟨b, 0, none⟩ = some a0 ∧ w.cell? ⟨b, 1, none⟩ = some a1 ∧ w.cell? ⟨b, 2, none⟩ = some a2 ∧ b < w.heap.size ∧ ∀ j, w.frozen? ⟨b, j, none⟩ = false :=
  ⟨(h.box i hi).facts.1 0, (h.box i hi).facts.1 1, (h.box i hi).facts.1 2, (h.box i hi).lt, (h.box i hi).facts.2⟩
end Go.Proofs.YtabajghokhfmhaaGreat
