/- Lemmas for FY, part 19: formula.Encode: the bytes of a formula, and more. -/
import Derived.Lib.AppendStr
import Derived.Deep.CutBlock
import Derived.Test.YtnpnjcaomakehaaGreatFY00
import Derived.Test.YtnpnjcaomakehaaGreatFY01
import Derived.Test.YtnpnjcaomakehaaGreatFY03
import Derived.Test.YtnpnjcaomakehaaGreatFY04
import Derived.Test.YtnpnjcaomakehaaGreatFY05
import Derived.Test.YtnpnjcaomakehaaGreatFY06
import Derived.Test.YtnpnjcaomakehaaGreatFY11
import Derived.Test.YtnpnjcaomakehaaGreatFY14
import Derived.Test.YtnpnjcaomakehaaGreatFY16
import Derived.Test.YtnpnjcaomakehaaGreatFY17
set_option linter.unusedSimpArgs false
set_option linter.unusedVariables false
namespace Go.Proofs.YtnpnjcaomakehaaGreat
open Go.RowKit Go.Shelf
attribute [local go_sem] Oper.semAt_some
theorem own_isCells {w : World} {b : Nat} {c : Array Value} {T : TypeId} (h : Own w b c T) {o : Obj} (ho : w.heap[b]? = some o) : o.isCells = true := by
  unfold Own at h
  rw [h] at ho; cases ho; rfl
theorem XB.row {Bo : Nat} {W : World} {v : Value} {T : TypeId} (h : Own W Bo #[v] T) {b : Nat} : XB Bo W b ↔ b = Bo ∨ v.ownBlock = some b := by
  unfold XB
  constructor
  · rintro (h1 | ⟨j, u, h1, h2⟩)
    · exact .inl h1
    · rw [h.facts.1 j] at h1
      match j, h1 with
      | 0, h1 => simp at h1; subst h1; exact .inr h2
      | j + 1, h1 => simp at h1
  · rintro (h1 | h1)
    · exact .inl h1
    · exact .inr ⟨0, v, by rw [h.facts.1 0]; rfl, h1⟩
theorem Wto.kx {n₀ base g : Nat} {row : Option Nat} {xs ys : List UInt8} {w w' : World} (hW : Wr base w g row xs) (h : Wto base w g row ys w') (hn : n₀ ≤ base) : Kx n₀ g w w' ∧ KeepsOthers w w' := by
  obtain ⟨row', hW', hx, hr⟩ := h
  have hrow := hW.row
  have hrow' := hW'.row
  obtain ⟨v, h1, h2, h3, h4, h5, h6⟩ := hW
  obtain ⟨v', k1, k2, k3, k4, k5, k6⟩ := hW'
  refine ⟨⟨⟨hx.os, hx.tape, hx.output, hx.size, fun k hk => hx.block k (by omega) (by omega) (fun e => by have := hrow k e; omega)⟩, hx.size, fun b c T hb hnx => ?_, fun b hb => ?_⟩, ⟨hx.size, fun k o hk ho => ?_⟩⟩
  · rw [XB.row h1] at hnx
    exact hb.keepW hx (fun e => hnx (.inl e)) (fun e => hnx (.inr (by rw [h2, e])))
  · rw [XB.row k1] at hb
    rw [XB.row h1]
    rcases hb with hb | hb
    · exact .inl (.inl hb)
    · rw [k2] at hb
      rcases hr b hb with h7 | h7
      · exact .inl (.inr (by rw [h2, h7]))
      · exact .inr ⟨h7, (hrow' b hb).2⟩
  · have hkl : k < w.heap.size := (Array.getElem?_eq_some_iff.1 hk).1
    rw [hx.block k hkl ?_ ?_]
    · exact hk
    · rintro rfl
      rw [own_isCells h1 hk] at ho; cases ho
    · intro e
      rw [e] at h2
      rcases h3 with ⟨h7, -⟩ | ⟨g', cap, cur, h7, -, -, h8, -⟩
      · rw [h7] at h2; cases h2
      · rw [h7] at h2
        have e2 : g' = k := by simpa [Value.ownBlock] using h2
        subst e2
        rw [h8] at hk; cases hk; cases ho
theorem Good.wr {base g : Nat} {row : Option Nat} {xs : List UInt8} {w : World} (hW : Wr base w g row xs) : Good g w := by
  have hrow := hW.row
  obtain ⟨v, h1, h2, h3, h4, h5, h6⟩ := hW
  refine ⟨h1.lt, fun b hb => ?_⟩
  rw [XB.row h1] at hb
  rcases hb with rfl | hb
  · exact h1.lt
  · rw [h2] at hb; exact (hrow b hb).2
theorem Wr.keptF {base g : Nat} {row r : Option Nat} {xs : List UInt8} {A B : World} (h : Wr base A g row xs) (hg : A.grownBy B r) (hr : ∀ k, r = some k → ∃ o : Obj, A.heap[k]? = some o ∧ o.isCells = false) : Wr base B g row xs := by
  obtain ⟨v, h1, h2, h3, h4, h5, h6⟩ := h
  refine ⟨v, own_keptF h1 hg hr, h2, ?_, h4, h5, Nat.le_trans h6 hg.size⟩
  rcases h3 with ⟨rfl, rfl⟩ | ⟨q, cap, cur, e1, e2, e3, e4, e5, e6, e7, e8⟩
  · exact .inl ⟨rfl, rfl⟩
  · refine .inr ⟨q, cap, cur, e1, e2, e3, ?_, e5, e6, e7, e8⟩
    have hq : q < A.heap.size := (Array.getElem?_eq_some_iff.1 e4).1
    rw [hg.block q hq (fun e => ?_)]
    · exact e4
    · obtain ⟨o, k1, k2⟩ := hr q e.symm
      rw [e4] at k1; cases k1; cases k2
def NodeR (H : PH) (cs : List Value) (g : Fm) : Prop := FmR H cs g ∧ SetsR g
theorem nodeR_F {H : PH} : ∀ cs g, NodeR H cs g → FmR H cs g := fun _ _ h => h.1
theorem nodeR_K {H : PH} : ∀ cs g, NodeR H cs g → ∀ x ∈ g.kids, ∀ ds, FmR H ds x → NodeR H ds x := fun _ _ h _ hx _ hd => ⟨hd, h.2.kid hx⟩
def NodeB {R : List Value → Fm → Prop} (tm : FmAR R → Nat → Array Value) (x : FmAR R) (a' : Act) (W : World) : Prop :=
  ∃ Bx, Bx < W.heap.size ∧ Own W Bx x.1.1.toArray 50 ∧ a' = { tmps := tm x Bx, defers := [] }
theorem NodeB.from {R : List Value → Fm → Prop} (tm : FmAR R → Nat → Array Value) (B : Nat) (x : FmAR R) (a' : Act) : OwnFrom B (fun (_ : Unit) W => NodeB tm x a' W) := by
  rintro _ A C row ⟨Bx, h1, h2, h3⟩ hg hr
  exact ⟨Bx, Nat.lt_of_lt_of_le h1 hg.size, own_keptF h2 hg fun r e => (hr r e).2, h3⟩
theorem Wto.pleG {H : PH} {base : Nat} {w w' : World} {g : Nat} {row : Option Nat} {ys : List UInt8} (hP : PLe H (ph w)) (hB : H g = none ∧ ∀ k, row = some k → H k = none) (h : Wto base w g row ys w') : PLe H (ph w') := by
  obtain ⟨r, h1, h2, h3⟩ := h
  intro k o hk
  show w'.heap[k]? = some o
  rw [h2.block k (ph_lt (hP k o hk)) (fun e => by rw [e, hB.1] at hk; cases hk) (fun e => by rw [hB.2 k e] at hk; cases hk)]
  exact hP k o hk
set_option maxHeartbeats 400000 in
theorem intsG_c (H : PH) (base g : Nat) (row : Option Nat) (xs : List UInt8) (l : List Int) (vl : Value) (w : World) (hP : PLe H (ph w)) (hB : H g = none ∧ ∀ k, row = some k → H k = none) (hl : IntsR H vl l) (hW : Wr base w g row xs) (hlen : xs.length + 10 * l.length + 10 ≤ 1000000000) :
    Calls Tryz.prog 31 #[.pointer (some ⟨g, 0, none⟩), vl] w (WrP base w g row (xs ++ encInts l)) := by
  obtain ⟨a, c, rfl, hll, hl⟩ := hl.form
  have hB' := Lib.hid hB; clear hB
  go_enter Tryz.func31, Tryz.ntmps31
  go_wp2_with fail
  refine (uint_c base g row xs l.length _ (by omega) hW (by omega)).mono ?_
  rintro e w1 ⟨rfl, hT⟩
  have hul : (uvar l.length).length ≤ 10 := uvar_len10 (by omega)
  go_wp2_with fail
  go_loopw [13] (fun i wr => ∃ k : Nat, k ≤ l.length ∧ i = .int .i64 k ∧ Wto base w g row (xs ++ uvar l.length ++ encL (l.take k)) wr) (fun i _ => l.length - (intOf i).toNat)
  case atStart => exact ⟨0, Nat.zero_le _, rfl, by simpa [encL] using hT⟩
  case round =>
    obtain ⟨k, hk, rfl, hTr⟩ := hrel
    have hPr := Wto.pleG hP hB'.out hTr
    by_cases hlt : k < l.length
    · obtain ⟨b, o, rfl, h0, hi, hbl⟩ := IntsR.at (hl.mono mono_IntR hPr) k hlt
      have hs := encL_snoc l k hlt
      have hi64 := IntsR.all hl
      have hel : (encL (l.take k)).length ≤ 10 * k := by
        have := encL_len (l := l.take k) fun x hx => hi64 x (List.mem_of_mem_take hx)
        rw [List.length_take] at this; omega
      obtain ⟨row', hWr, hx, hr⟩ := hTr
      replace hs := Lib.hid hs
      replace hr := Lib.hid hr
      generalize l[k] = x at *
      clear hl hi64
      go_wp2_with fail
      refine (int_c base g row' _ x _ hi hWr (by simp only [List.length_append]; omega)).mono ?_
      rintro e w2 ⟨rfl, hT2⟩
      have hT3 := Wto.then hx hr.out hT2
      rw [List.append_assoc _ _ (encI x), ← hs.out] at hT3
      clear hT2 hWr hx hPr
      go_wp2_with fail
      go_roundw
      case rel => exact ⟨k + 1, by omega, by go_num, hT3⟩
      case measure => simp [intOf]; omega
    · go_wp2_with fail
      rw [List.take_of_length_le (by omega), List.append_assoc] at hTr
      exact bodyPost_ret (v := .tuple #[]) (by simp [results, Tryz.results31, go_sem]) rfl ⟨rfl, hTr⟩
def EncB (w : World) (g Bx : Nat) (c4 : Array Value) (W : World) (acc : List UInt8) (Wc : World) : Prop :=
  Kx w.heap.size g W Wc ∧ KeepsOthers W Wc ∧ Ext w Wc ∧ Own Wc (g + 1) #[.pointer (some ⟨g, 0, none⟩)] 62 ∧ Own Wc Bx c4 50 ∧ w.heap.size ≤ g ∧ g ≠ Bx ∧
  ∃ row, Wr g Wc g row acc ∧ row ≠ some (g + 1) ∧ row ≠ some Bx
section
variable {w W Wc : World} {g Bx : Nat} {c4 : Array Value} {acc : List UInt8}
theorem EncB.ext {Wd : World} (h : EncB w g Bx c4 W acc Wc) (e : Ext Wc Wd) : EncB w g Bx c4 W acc Wd := by
  obtain ⟨h1, h2, h3, h4, h5, h6, h7, row, h8, h9, h10⟩ := h
  exact ⟨h1.then (Kx.ext e h8.lt.2 h3.size), h2.trans (KeepsOthers.of_grownBy (Ext.grownG' e none) (fun j o e => by cases e)), h3.then e, h4.keep e, h5.keep e, h6, h7, row, h8.keep e, h9, h10⟩
theorem EncB.wto {row : Option Nat} {ys : List UInt8} {Wd : World} (h : EncB w g Bx c4 W acc Wc) (hW : Wr g Wc g row acc) (h9 : row ≠ some (g + 1)) (h10 : row ≠ some Bx) (hT : Wto g Wc g row ys Wd) : EncB w g Bx c4 W ys Wd := by
  obtain ⟨h1, h2, h3, h4, h5, h6, h7, -⟩ := h
  obtain ⟨k1, k2⟩ := Wto.kx hW hT h6
  have l4 := h4.lt
  have l5 := h5.lt
  have o4 := Wto.own h4 hT (by omega) h9
  have o5 := Wto.own h5 hT (fun e => h7 e.symm) h10
  have hrow := hW.row
  obtain ⟨row', hW', hx, hr⟩ := hT
  refine ⟨h1.then k1, h2.trans k2, hx.toExt h3 h6 (fun i hi => by have := hrow i hi; omega), o4, o5, h6, h7, row', hW', fun e => ?_, fun e => ?_⟩
  · rcases hr _ e with h | h
    · exact h9 h
    · omega
  · rcases hr _ e with h | h
    · exact h10 h
    · omega
theorem EncB.int (h : EncB w g Bx c4 W acc Wc) (n : Int) (hn : I64 n) (hl : acc.length ≤ 1000000000) : Calls Tryz.prog 30 #[.pointer (some ⟨g, 0, none⟩), .int .i64 n] Wc (fun e Wd => e = .returned (.tuple #[]) ∧ EncB w g Bx c4 W (acc ++ encI n) Wd) := by
  obtain ⟨row, h8, h9, h10⟩ := h.2.2.2.2.2.2.2
  exact (int_c g g row acc n Wc hn h8 hl).mono fun e Wd ⟨e1, hT⟩ => ⟨e1, h.wto h8 h9 h10 hT⟩
end
theorem OwnS.putD {α : Type} {base b0 : Nat} {H : PH} {w : World} {E : PH → List Value → α → Prop} {sz : Nat} {T : TypeId} {v : Value} {xs : List α} {D : Nat} {o : Obj} (h : OwnS base H w E sz T v xs) (hD : D < base) (hb : b0 ≤ base) : OwnS b0 H (w.putObj D o) E sz T v xs := by
  rcases h with ⟨rfl, rfl⟩ | ⟨q, cap, cur, e1, e2, e3, e4, e5, e6, e7, e8⟩
  · exact .inl ⟨rfl, rfl⟩
  · refine .inr ⟨q, cap, cur, e1, by omega, e3, ?_, e5, e6, e7, e8⟩
    rw [World.putObj_heap_other (by omega)]; exact e4
def encB (f : Fm) : List UInt8 := if validF f = 0 then bytesF f else []
def EncQ (w : World) (f : Fm) (e : Ending) (w' : World) : Prop := ∃ v, e = .returned (.tuple #[v, .int .i64 (validF f)]) ∧ OwnS w.heap.size noH w' ByteR 1 5 v (encB f) ∧ Ext w w'
def EncJ (w : World) (g : Nat) (bs : List UInt8) (W : World) : Prop := ∃ row, Wr g W g row bs ∧ row ≠ some (g + 1) ∧ Own W (g + 1) #[.pointer (some ⟨g, 0, none⟩)] 62 ∧ Ext w W
theorem Wr.ne_own {base g b : Nat} {row : Option Nat} {xs : List UInt8} {W : World} {c : Array Value} {T : TypeId} (h : Wr base W g row xs) (ho : Own W b c T) (h1 : T ≠ 5) (h2 : T ≠ 64) : g ≠ b ∧ row ≠ some b := by
  obtain ⟨v, k1, k2, k3, k4, k5, k6⟩ := h
  refine ⟨?_, ?_⟩
  · rintro rfl
    unfold Own at *
    rw [k1] at ho; cases ho; exact h2 rfl
  · intro e
    rw [e] at k2
    rcases k3 with ⟨h7, -⟩ | ⟨g', cap, cur, h7, -, -, h8, -⟩
    · rw [h7] at k2; cases k2
    · rw [h7] at k2
      have e2 : g' = b := by simpa [Value.ownBlock] using k2
      subst e2
      unfold Own at ho
      rw [h8] at ho; cases ho; exact h1 rfl
theorem rowI {H : PH} {b : Nat} : ∀ (l : List Int) (o : Nat), (∀ j (h : j < l.length), cellAt H b (o + j) = some (.int .i64 l[j]) ∧ I64 l[j]) → RowRep H IntR 1 b o l
  | [], _, _ => trivial
  | x :: l, o, h => ⟨⟨[.int .i64 x], rfl, fun j hj => by
      obtain rfl : j = 0 := by omega
      exact (h 0 (by simp)).1, rfl, (h 0 (by simp)).2⟩, rowI l (o + 1) fun j hj => by
      have := h (j + 1) (by simpa using hj)
      rw [show o + 1 + j = o + (j + 1) by omega]
      exact this⟩
def apart (g : Nat) (row : Option Nat) (w : World) : PH := fun k => if k = g ∨ row = some k then none else ph w k
theorem apart_le (g : Nat) (row : Option Nat) (w : World) : PLe (apart g row w) (ph w) := by
  intro k o hk
  unfold apart at hk
  split at hk
  · cases hk
  · exact hk
section
variable {w W Wc : World} {g Bx : Nat} {c4 : Array Value} {acc : List UInt8}
theorem EncB.ints (h : EncB w g Bx c4 W acc Wc) (x : Itv) (hx : x.I) (b : Nat) (hb : Own Wc b #[.int .i64 x.lo.num, .int .i64 x.lo.den, .int .i64 x.hi.num, .int .i64 x.hi.den, .int .i64 (oneI x.loO), .int .i64 (oneI x.hiO), .int .i64 (oneI x.loI), .int .i64 (oneI x.hiI)] 3) (hl : acc.length ≤ 900000000) :
    Calls Tryz.prog 31 #[.pointer (some ⟨g, 0, none⟩), .slice (some ⟨b, 0, none⟩) 8 8] Wc (fun e Wd => e = .returned (.tuple #[]) ∧ EncB w g Bx c4 W (acc ++ itvE x) Wd) := by
  obtain ⟨row, h8, h9, h10⟩ := h.2.2.2.2.2.2.2
  obtain ⟨n1, n2⟩ := h8.ne_own hb (by decide) (by decide)
  have hI : IntsR (apart g row Wc) (.slice (some ⟨b, 0, none⟩) 8 8) (itvN x) := by
    refine ⟨_, 8, rfl, Nat.le_refl _, by simp [maxLen], .inr ⟨b, 0, rfl, rowI _ 0 fun j hj => ⟨?_, itvN_I hx _ (List.getElem_mem hj)⟩⟩⟩
    have e : apart g row Wc b = ph Wc b := by unfold apart; rw [if_neg]; rintro (e | e); exact n1 e.symm; exact n2 e
    have e2 : cellAt (apart g row Wc) b (0 + j) = Wc.cell? ⟨b, j, none⟩ := by rw [cell_ph, Nat.zero_add]; unfold cellAt; rw [e]
    rw [e2, hb.facts.1]
    rcases j with _ | _ | _ | _ | _ | _ | _ | _ | j <;> first | rfl | (simp [itvN] at hj; omega)
  refine (intsG_c (apart g row Wc) g g row acc (itvN x) _ Wc (apart_le _ _ _) ⟨by simp [apart], fun k hk => by simp [apart, hk]⟩ hI h8 (by simp [itvN]; omega)).mono ?_
  rintro e Wd ⟨e1, hT⟩
  exact ⟨e1, h.wto h8 h9 h10 hT⟩
end
theorem number_c (b : Bool) (w : World) : Calls Tryz.prog 53 #[.bool b] w (RetV w (.int .i64 (oneI b))) := by
  cases b
  · go_enter Tryz.func53, Tryz.ntmps53
    go_wp2_with fail
    go_ret
    exact ⟨rfl, xE⟩
  · go_enter Tryz.func53, Tryz.ntmps53
    go_wp2_with fail
    go_ret
    exact ⟨rfl, xE⟩
theorem acc_len {H : PH} : ∀ l : List (FmAR (NodeR H)), ((fmsOr l).flatMap nodeE).length ≤ 2920 * l.length
  | [] => by simp [fmsOr]
  | x :: l => by
    have h1 := acc_len l
    have h2 : (FmAR.f x).inn.length ≤ 32 := x.2.2.self
    have h3 := nodeE_len (FmR.i _ _ x.2.1).node
    have h4 : (nodeE (FmAR.f x)).length ≤ 40 + 90 * (FmAR.f x).inn.length := h3
    have e : fmsOr (x :: l) = FmAR.f x :: fmsOr l := rfl
    rw [e, List.flatMap_cons, List.length_append, List.length_cons]; omega
set_option maxRecDepth 100000 in
set_option maxHeartbeats 8000000 in
theorem fenc_in (f : Fm) (cs : List Value) (w : World) (hr : FmR (ph w) cs f) (hs : f.bulk ≤ 900000) : CallsIn Fence.wide 7 Tryz.prog 20 #[.agg cs.toArray] w (EncQ w f) := by
  have hr' := hr
  obtain ⟨a3, c3, a4, c4, rfl, -⟩ := hr.form
  unfold fmC at hr' ⊢
  refine callsIn_of_wp_marks Tryz.func20 rfl trivial ?_ rfl
  simp only [Tryz.ntmps20, List.size_toArray, List.length_cons, List.length_nil, Nat.reduceAdd, Nat.reduceSub, Array.replicate_succ, Array.replicate_zero, List.push_toArray, List.append_toArray, List.nil_append, List.cons_append]
  refine wpIn_wide.2 ?_
  go_wp2_with fail
  refine RetV_at (fvalid_c f _ _ (mono_FmR _ _ _ _ (Ext.ple xE) hr') (by omega)) ?_
  intro w1 hx1
  have ho : Own w1 w.heap.size #[.int .i64 f.op, .int .i64 f.n, .slice a3 f.inn.length c3, .slice a4 f.kids.length c4] 50 := oE
  have hx : Ext w w1 := xE
  have hgw : w.heap.size ≤ w1.heap.size := hx.size
  clear hx1
  by_cases hv : validF f = 0
  · have b0 : (validF f != 0) = false := by simp [hv]
    have hE : Hid (encB f = bytesF f) := Lib.hid (by unfold encB; rw [if_pos hv])
    have hsets := Lib.hid (valid_sets hv)
    rw [hv] at b0 ⊢
    go_upto_region 5 with (fail)
    have hW0 := Wr.fresh w1
    have oP := Proofs.YtnpnjcaomakehaaGreat.Own.new (w1.alloc (.cells #[.slice none 0 0] 64)) #[.pointer (some ⟨w1.heap.size, 0, none⟩)] 62
    have e2 := Ext.new (w1.alloc (.cells #[.slice none 0 0] 64)) (.cells #[.pointer (some ⟨w1.heap.size, 0, none⟩)] 62)
    replace hW0 := hW0.keep e2
    replace ho := (ho.keep (Ext.new w1 (.cells #[.slice none 0 0] 64))).keep e2
    replace hx := (hx.then (Ext.new w1 (.cells #[.slice none 0 0] 64))).then e2
    rw [show (w1.alloc (.cells #[.slice none 0 0] 64)).heap.size = w1.heap.size + 1 by simp] at oP
    clear e2
    generalize hg : w1.heap.size = g at *
    generalize World.alloc _ _ = w2 at *
    obtain ⟨hoc, hof⟩ := ho.facts
    have hl := ho.lt
    go_wp2_with fail
    refine (nodes_p f _ _ (mono_FmR _ _ _ _ hx.ple hr')).mono ?_
    rintro e w' ⟨rfl, rfl⟩
    go_wp2_with fail
    refine (wpIn_wide (n := 7)).1 ?_
    have e3 := Ext.new w2 (.cells #[.int .i64 f.op, .int .i64 f.n, .slice a3 f.inn.length c3, .slice a4 f.kids.length c4] 50)
    have hO2 := Proofs.YtnpnjcaomakehaaGreat.Own.new w2 #[.int .i64 f.op, .int .i64 f.n, .slice a3 f.inn.length c3, .slice a4 f.kids.length c4] 50
    replace hW0 := hW0.keep e3
    replace oP := oP.keep e3
    have hx0 := hx.then e3
    have hsz : (w2.alloc (.cells #[.int .i64 f.op, .int .i64 f.n, .slice a3 f.inn.length c3, .slice a4 f.kids.length c4] 50)).heap.size = w2.heap.size + 1 := by simp
    have hlP := oP.lt
    clear ho hoc hof hl hx e3
    generalize w2.alloc _ = W0 at *
    have hps : f.pre.length = f.size := f.pre_len
    refine wpIn_rangeFunc_ownH rfl (by omega) (gf := 83) (lb := #[.pointer (some ⟨w2.heap.size, 0, none⟩)]) rfl trivial (enters_of Tryz.func83 (by kernel_rfl) rfl)
      (encs := fun x : FmAR (NodeR (ph w)) => #[.agg x.1.1.toArray]) (Kp := Kx w.heap.size g) (S := fun ys => fmsOr ys = f.pre) (Sp := fun p => fmsOr p <+: f.pre) (N := f.pre.length)
      (w0 := W0) (nodesR_seq nodeR_F nodeR_K (by omega) (Good.wr hW0) hx0.ple (ph_low w) (by omega) hO2 ⟨hr', hsets.out⟩) Kx.then (Kx.put (by omega) (by omega)) (Below.refl _ _) (fun _ => rfl)
      (fun pre W => EncJ w g ((fmsOr pre).flatMap nodeE) W) (fun _ _ _ => False)
      ?hI (fun _ _ _ _ _ hs _ _ => hs) ⟨none, hW0, by simp, oP, hx0⟩ (NodeB (fun x Bx => #[.agg #[.int .i64 f.op, .int .i64 f.n, .slice a3 f.inn.length c3, .slice a4 f.kids.length c4], .pointer (some ⟨w.heap.size, 0, none⟩), .slice none 0 0, .int .i64 0, .int .i64 0, .pointer (some ⟨g + 1, 0, none⟩), .pointer (some ⟨Bx, 0, none⟩), undef, undef, .agg #[.int .i64 f.op, .int .i64 f.n, .slice a3 f.inn.length c3, .slice a4 f.kids.length c4], .int .i64 0, .int .i64 0, .bool false, undef, .agg #[.slice none 0 0], .pointer (some ⟨g, 0, none⟩), .agg #[.int .i64 f.op, .int .i64 f.n, .slice a3 f.inn.length c3, .slice a4 f.kids.length c4], .func (.func 83) #[] #[.pointer (some ⟨w2.heap.size, 0, none⟩)], .agg x.1.1.toArray, undef, undef, undef, undef, undef, undef, undef, undef, undef, undef, undef, undef, undef, undef, undef, undef, undef, undef, undef, undef, undef, undef, undef, undef, undef, undef, undef, undef, undef, undef, undef, undef, undef, undef, undef, undef, undef, undef, undef, undef, undef, undef, undef, undef, undef, undef, undef, undef, undef, undef, undef, undef, undef, undef, undef]))
      (NodeB.from _ _) ?assign ?body ?done ?stop
    case hI =>
      rintro pre A B row ⟨r, h1, h2, h3, h4⟩ hgr hrr
      exact ⟨r, h1.keptF hgr (fun k e => (hrr k e).2), h2, own_keptF h3 hgr fun r e => (hrr r e).2, h4.grown hgr fun r e => Nat.le_trans (by omega) (hrr r e).1⟩
    case assign =>
      rintro l pre ⟨⟨cs, q⟩, hq⟩ W K ⟨r, h1, h2, h3, h4⟩ hK
      replace hq : NodeR (ph w) cs q := hq
      obtain ⟨b3, d3, b4, d4, rfl, -⟩ := hq.1.form
      unfold fmC at *
      have e := Ext.new W (.cells #[.int .i64 q.op, .int .i64 q.n, .slice b3 q.inn.length d3, .slice b4 q.kids.length d4] 50)
      have hk1 := Kx.ext (n₀ := w.heap.size) (Bo := g) e h1.lt.2 h4.size
      have hko := (KeepsOthers.alloc W (.cells #[.int .i64 q.op, .int .i64 q.n, .slice b3 q.inn.length d3, .slice b4 q.kids.length d4] 50)).from W0.heap.size
      have h6 := Proofs.YtnpnjcaomakehaaGreat.Own.new W #[.int .i64 q.op, .int .i64 q.n, .slice b3 q.inn.length d3, .slice b4 q.kids.length d4] 50
      have h5 : W.heap.size < (W.alloc (.cells #[.int .i64 q.op, .int .i64 q.n, .slice b3 q.inn.length d3, .slice b4 q.kids.length d4] 50)).heap.size := by simp
      have hJ : EncJ w g ((fmsOr pre).flatMap nodeE) (W.alloc (.cells #[.int .i64 q.op, .int .i64 q.n, .slice b3 q.inn.length d3, .slice b4 q.kids.length d4] 50)) := ⟨r, h1.keep e, h2, h3.keep e, h4.then e⟩
      gi_wp2
      generalize W.heap.size = Bx at *
      exact hK _ _ hko hk1 hJ ⟨Bx, h5, h6, rfl⟩
    case body =>
      rintro l pre ⟨⟨cs, q⟩, hq⟩ a' W hl ⟨r, hrr⟩ ⟨row, h1, h2, h3, h4⟩ ⟨Bx, hBx, oX, rfl⟩ hlt
      replace hq : NodeR (ph w) cs q := hq
      have hnl := acc_len pre
      have hsq := hq.2.self
      have hyq : Hid ((fmsOr (pre ++ [⟨(cs, q), hq⟩])).flatMap nodeE = (fmsOr pre).flatMap nodeE ++ nodeE q) := by
        show _ = _
        rw [fmsOr_app, List.flatMap_append]
        have e : fmsOr [(⟨(cs, q), hq⟩ : FmAR (NodeR (ph w)))] = [q] := rfl
        rw [e]; simp
      obtain ⟨b3, d3, b4, d4, rfl, i1, i2, hil, hkl, hi, hk⟩ := hq.1.form
      have h96 := (validF_0 hv).1
      have hB : EncB w g Bx #[.int .i64 q.op, .int .i64 q.n, .slice b3 q.inn.length d3, .slice b4 q.kids.length d4] W ((fmsOr pre).flatMap nodeE) W :=
        ⟨Kx.rfl' _ _ _, KeepsOthers.refl _, h4, h3, oX, hgw, (h1.ne_own oX (by decide) (by decide)).1, row, h1, h2, (h1.ne_own oX (by decide) (by decide)).2⟩
      have hal : ((fmsOr pre).flatMap nodeE).length ≤ 300000 := by omega
      generalize (fmsOr pre).flatMap nodeE = acc at *
      have e1 := encI_len i1
      have e2 := encI_len i2
      have e3 := encI_len (n := q.inn.length) (by unfold I64; omega)
      have hax := itvs_len (itvs_I hi)
      clear h1 h2 h3 h4 oX hr hr' hO2 hnl
      obtain ⟨cP, -⟩ := hB.2.2.2.1.facts
      obtain ⟨cX, -⟩ := hB.2.2.2.2.1.facts
      have lP := hB.2.2.2.1.lt
      have lX := hB.2.2.2.2.1.lt
      gi_wp2
      refine ⟨trivial, CallsIn.inRound l (callsIn_wide.2 ((hB.int q.op i1 (by omega)).mono ?_))⟩
      rintro e Wd ⟨rfl, hB2⟩
      clear cP cX lP lX
      replace hB := hB2
      clear hB2
      obtain ⟨cP, -⟩ := hB.2.2.2.1.facts
      obtain ⟨cX, -⟩ := hB.2.2.2.2.1.facts
      have lP := hB.2.2.2.1.lt
      have lX := hB.2.2.2.2.1.lt
      gi_wp2
      refine ⟨trivial, CallsIn.inRound l (callsIn_wide.2 ((hB.int q.n i2 (by simp only [List.length_append]; omega)).mono ?_))⟩
      rintro e Wd ⟨rfl, hB2⟩
      clear cP cX lP lX
      replace hB := hB2
      clear hB2
      obtain ⟨cP, -⟩ := hB.2.2.2.1.facts
      obtain ⟨cX, -⟩ := hB.2.2.2.2.1.facts
      have lP := hB.2.2.2.1.lt
      have lX := hB.2.2.2.2.1.lt
      gi_wp2
      refine ⟨trivial, CallsIn.inRound l (callsIn_wide.2 ((hB.int (q.inn.length : Int) (by unfold I64; omega) (by simp only [List.length_append]; omega)).mono ?_))⟩
      rintro e Wd ⟨rfl, hB2⟩
      clear cP cX lP lX
      replace hB := hB2
      clear hB2
      obtain ⟨cP, -⟩ := hB.2.2.2.1.facts
      obtain ⟨cX, -⟩ := hB.2.2.2.2.1.facts
      have lP := hB.2.2.2.1.lt
      have lX := hB.2.2.2.2.1.lt
      gi_wp2
      have hi0 := itvs_I hi
      have hal3 : (acc ++ encI q.op ++ encI q.n ++ encI (q.inn.length : Int)).length ≤ 310000 := by simp only [List.length_append]; omega
      generalize hac3 : acc ++ encI q.op ++ encI q.n ++ encI (q.inn.length : Int) = acc3 at *
      replace hac3 := Lib.hid hac3
      clear cP cX lP lX e1 e2 e3
      gi_loopw [35] (fun vi wr => ∃ k : Nat, k ≤ q.inn.length ∧ vi = .int .i64 k ∧ EncB w g Bx #[.int .i64 q.op, .int .i64 q.n, .slice b3 q.inn.length d3, .slice b4 q.kids.length d4] W (acc3 ++ (q.inn.take k).flatMap itvE) wr) (fun vi _ => q.inn.length - (intOf vi).toNat)
      case atStart => exact ⟨0, by omega, rfl, by simpa using hB⟩
      case round =>
        clear hB
        obtain ⟨k, hk2, rfl, hB⟩ := hrel
        have htl : (acc3 ++ (q.inn.take k).flatMap itvE).length ≤ 400000 := by
          have := itvs_len (l := q.inn.take k) fun x hx => hi0 x (List.mem_of_mem_take hx)
          rw [List.length_take] at this
          simp only [List.length_append]; omega
        obtain ⟨cP, -⟩ := hB.2.2.2.1.facts
        obtain ⟨cX, -⟩ := hB.2.2.2.2.1.facts
        have lP := hB.2.2.2.1.lt
        have lX := hB.2.2.2.2.1.lt
        by_cases hlt2 : k < q.inn.length
        · have hja : decide ((k : Int) < (q.inn.length : Int)) = true := by simp; omega
          have hkk : Hid (acc3 ++ (q.inn.take (k + 1)).flatMap itvE = acc3 ++ (q.inn.take k).flatMap itvE ++ itvE q.inn[k]) := by
            show _ = _
            rw [List.take_succ_eq_append_getElem hlt2, List.flatMap_append]; simp
          obtain ⟨ib, io, rfl, z0, z1, z2, z3, z4, z5, z6, z7, zl, hI⟩ := ItvsR.at (hi.mono mono_ItvR hB.2.2.1.ple) k hlt2
          generalize q.inn[k] = x at *
          generalize hac : acc3 ++ (q.inn.take k).flatMap itvE = accK at *
          clear cP cX lP
          have e8 := Ext.new wr (.cells #[.int .i64 x.lo.num, .int .i64 x.lo.den, .int .i64 x.hi.num, .int .i64 x.hi.den, .bool x.loO, .bool x.hiO, .bool x.loI, .bool x.hiI] 92)
          have o8 := Proofs.YtnpnjcaomakehaaGreat.Own.new wr #[.int .i64 x.lo.num, .int .i64 x.lo.den, .int .i64 x.hi.num, .int .i64 x.hi.den, .bool x.loO, .bool x.hiO, .bool x.loI, .bool x.hiI] 92
          replace hB := hB.ext e8
          clear e8
          gi_wp2
          generalize wr.alloc _ = W2 at *
          generalize wr.heap.size = g8 at *
          obtain ⟨cP, -⟩ := hB.2.2.2.1.facts
          have cP0 : _ = some (Value.pointer (some ⟨g, 0, none⟩)) := cP 0
          have lP := hB.2.2.2.1.lt
          obtain ⟨c8, -⟩ := o8.facts
          have y0 : _ = some (Value.int .i64 x.lo.num) := c8 0
          have y1 : _ = some (Value.int .i64 x.lo.den) := c8 1
          have y2 : _ = some (Value.int .i64 x.hi.num) := c8 2
          have y3 : _ = some (Value.int .i64 x.hi.den) := c8 3
          have y4 : _ = some (Value.bool x.loO) := c8 4
          have y5 : _ = some (Value.bool x.hiO) := c8 5
          have y6 : _ = some (Value.bool x.loI) := c8 6
          have y7 : _ = some (Value.bool x.hiI) := c8 7
          have yl := o8.lt
          clear cP c8 z0 z1 z2 z3 z4 z5 z6 z7 zl o8
          refine wpIn_region_any (by kernel_rfl) (wpAny_in (noDefer_of (by kernel_rfl)) _ _ _ _ (wpAny_region_J 26 (by kernel_rfl) ?_))
          simp only [List.toList_toArray, List.take_succ_cons, List.take_zero]
          iterate 15 (refine wiA rfl (by simp) rfl ?_; (try simp only [List.nil_append, List.cons_append]))
          (refine walkI_is (u := ?_) rfl (by simp) rfl ?_ ?_; rotate_left; (focus (intro A w' hS hA K hK; (simp only [List.map_cons, List.map_nil, knows, Is, Op.operands, Call.operands, List.lookup_cons, List.lookup_nil, Nat.reduceBEq, Bool.false_eq_true, if_false, if_true, Act.eval, Array.getD_eq_getD_getElem?, List.getElem?_toArray, List.getElem?_cons_succ, List.getElem?_cons_zero, Option.getD_some, and_true, true_and, List.append_toArray, List.nil_append, List.cons_append, List.toList_toArray, Array.toList_append, Option.toArray, List.append_nil] at hA); first | (go_simp; refine RetV_at (number_c _ _) ?_; intro w'' hx''; exact hK _ hx'') | (obtain ⟨hSc, hSf, hSs⟩ := hS.cells; go_simp; exact hK _ xN))); (try simp only [List.nil_append, List.cons_append]))
          iterate 2 (refine wiA rfl (by simp) rfl ?_; (try simp only [List.nil_append, List.cons_append]))
          (refine walkI_is (u := ?_) rfl (by simp) rfl ?_ ?_; rotate_left; (focus (intro A w' hS hA K hK; (simp only [List.map_cons, List.map_nil, knows, Is, Op.operands, Call.operands, List.lookup_cons, List.lookup_nil, Nat.reduceBEq, Bool.false_eq_true, if_false, if_true, Act.eval, Array.getD_eq_getD_getElem?, List.getElem?_toArray, List.getElem?_cons_succ, List.getElem?_cons_zero, Option.getD_some, and_true, true_and, List.append_toArray, List.nil_append, List.cons_append, List.toList_toArray, Array.toList_append, Option.toArray, List.append_nil] at hA); first | (go_simp; refine RetV_at (number_c _ _) ?_; intro w'' hx''; exact hK _ hx'') | (obtain ⟨hSc, hSf, hSs⟩ := hS.cells; go_simp; exact hK _ xN))); (try simp only [List.nil_append, List.cons_append]))
          iterate 2 (refine wiA rfl (by simp) rfl ?_; (try simp only [List.nil_append, List.cons_append]))
          (refine walkI_is (u := ?_) rfl (by simp) rfl ?_ ?_; rotate_left; (focus (intro A w' hS hA K hK; (simp only [List.map_cons, List.map_nil, knows, Is, Op.operands, Call.operands, List.lookup_cons, List.lookup_nil, Nat.reduceBEq, Bool.false_eq_true, if_false, if_true, Act.eval, Array.getD_eq_getD_getElem?, List.getElem?_toArray, List.getElem?_cons_succ, List.getElem?_cons_zero, Option.getD_some, and_true, true_and, List.append_toArray, List.nil_append, List.cons_append, List.toList_toArray, Array.toList_append, Option.toArray, List.append_nil] at hA); first | (go_simp; refine RetV_at (number_c _ _) ?_; intro w'' hx''; exact hK _ hx'') | (obtain ⟨hSc, hSf, hSs⟩ := hS.cells; go_simp; exact hK _ xN))); (try simp only [List.nil_append, List.cons_append]))
          iterate 2 (refine wiA rfl (by simp) rfl ?_; (try simp only [List.nil_append, List.cons_append]))
          (refine walkI_is (u := ?_) rfl (by simp) rfl ?_ ?_; rotate_left; (focus (intro A w' hS hA K hK; (simp only [List.map_cons, List.map_nil, knows, Is, Op.operands, Call.operands, List.lookup_cons, List.lookup_nil, Nat.reduceBEq, Bool.false_eq_true, if_false, if_true, Act.eval, Array.getD_eq_getD_getElem?, List.getElem?_toArray, List.getElem?_cons_succ, List.getElem?_cons_zero, Option.getD_some, and_true, true_and, List.append_toArray, List.nil_append, List.cons_append, List.toList_toArray, Array.toList_append, Option.toArray, List.append_nil] at hA); first | (go_simp; refine RetV_at (number_c _ _) ?_; intro w'' hx''; exact hK _ hx'') | (obtain ⟨hSc, hSf, hSs⟩ := hS.cells; go_simp; exact hK _ xN))); (try simp only [List.nil_append, List.cons_append]))
          (refine walkI_step ((fun v w' => ∃ b, v = .slice (some ⟨b, 0, none⟩) 8 8 ∧ Proofs.YtnpnjcaomakehaaGreat.Own w' b #[.int .i64 x.lo.num, .int .i64 x.lo.den, .int .i64 x.hi.num, .int .i64 x.hi.den, .int .i64 (oneI x.loO), .int .i64 (oneI x.hiO), .int .i64 (oneI x.loI), .int .i64 (oneI x.hiI)] 3)) rfl (by simp) rfl ((fun v w w' _ ⟨b, k1, k2⟩ e => ⟨b, k1, k2.keep e⟩)) ?_ ?_; (focus (intro A w' hS hA K hK; (simp only [List.map_cons, List.map_nil, knows, Is, Op.operands, Call.operands, List.lookup_cons, List.lookup_nil, Nat.reduceBEq, Bool.false_eq_true, if_false, if_true, Act.eval, Array.getD_eq_getD_getElem?, List.getElem?_toArray, List.getElem?_cons_succ, List.getElem?_cons_zero, Option.getD_some, and_true, true_and, List.append_toArray, List.nil_append, List.cons_append, List.toList_toArray, Array.toList_append, Option.toArray, List.append_nil] at hA); (go_simp; exact hK _ _ (Ext.new _ _) ⟨_, rfl, Proofs.YtnpnjcaomakehaaGreat.Own.new _ _ _⟩))); (try simp only [List.nil_append, List.cons_append]))
          (refine walkI_nil ?_; simp only [List.nil_append, List.cons_append, fins, Is, forall_eq, Act.put, List.setIfInBounds_toArray, List.set_cons_zero, List.set_cons_succ])
          rintro W3 hx3 vv ⟨b, rfl, ob⟩
          replace hB := hB.ext hx3
          have hil2 := hB.ints x hI b ob (by omega)
          refine wpAny_ready (rs := [26]) (by kernel_rfl) (by simp) ?_; refine AllReady.cons rfl (fun K hK => ?_) AllReady.nil
          go_simp
          refine hil2.mono ?_
          rintro e Wd ⟨rfl, hB2⟩
          refine hK _ _ ?_
          clear hK K hil2 hB
          refine wpAny_done (by kernel_rfl) ?_ _
          try simp only [List.getElem?_toArray, List.getElem_toArray, List.getElem?_cons_succ, List.getElem?_cons_zero, List.getElem_cons_succ, List.getElem_cons_zero, Act.put, List.setIfInBounds_toArray, List.set_cons_zero, List.set_cons_succ]
          rename_i hKc
          refine hKc _ _ ?_
          gi_wp2
          exact ⟨⟨k + 1, by omega, by go_num, by rw [hkk.out]; exact hB2⟩, by simp [intOf]; omega⟩
        · have hja : decide ((k : Int) < (q.inn.length : Int)) = false := by simp; omega
          gi_wp2
          refine ⟨trivial, CallsIn.inRound l (callsIn_wide.2 ((hB.int (q.kids.length : Int) (by unfold I64; omega) (by omega)).mono ?_))⟩
          rintro e Wd ⟨rfl, hB2⟩
          clear cP cX lP lX
          replace hB := hB2
          clear hB2
          gi_wp2
          obtain rfl : k = q.inn.length := by omega
          rw [List.take_length] at hB
          obtain ⟨hk1, hko, hx9, oP9, -, -, -, row9, hW9, n9, -⟩ := hB
          have e9 : acc ++ nodeE q = acc3 ++ q.inn.flatMap itvE ++ encI (q.kids.length : Int) := by
            rw [← hac3.out]; unfold nodeE; simp only [List.append_assoc]
          refine ⟨hko.from _, hk1, row9, ?_, n9, oP9, hx9⟩
          rw [hyq.out, e9]; exact hW9
    case done =>
      rintro D zs W hD hz ⟨row, h1, h2, h3, h4⟩ hK
      have hbz : (fmsOr zs).flatMap nodeE = bytesF f := by rw [hz, ← bytes_nodes]
      rw [hbz] at h1
      have hbl : (bytesF f).length ≤ 300000 := by
        have hl := acc_len zs
        rw [hbz] at hl
        have hz2 : zs.length = f.size := by rw [← hps, ← hz, fmsOr_len]
        have h96 := (validF_0 hv).1
        omega
      obtain ⟨cP, -⟩ := h3.facts
      have cP0 : _ = some (Value.pointer (some ⟨g, 0, none⟩)) := cP 0
      have lP := h3.lt
      clear cP hr hr' hO2 hz hbz
      gi_wp2
      go_wp2_with fail
      refine (done_c g g row _ W h1 (by omega)).mono ?_
      rintro e W9 ⟨v, rfl, hO, hx9⟩
      have hK9 : W9.heap[D]? = some (.deferred (some [])) := (KeepsOthers.of_grownBy (Ext.grownG' hx9 none) (fun j o e => by cases e)).same D _ hK rfl
      have hDl : D < W.heap.size := (Array.getElem?_eq_some_iff.1 hK).1
      have b5 := belowK_b (w := W0) (Nat.le_refl _) _ D _ (.deferred none) hD hK9 rfl rfl
      have hsz9 := h4.size
      go_wp2_with fail
      refine ⟨by simp, .inl ⟨_, _, rfl, run_takeDeferred hK9, ?_⟩⟩
      exact ⟨.tuple #[v, .int .i64 0], by simp [results, Tryz.results20, go_sem], v, by rw [hv], by rw [hE.out]; exact hO.putD hDl hsz9, (h4.then hx9).trans (b5.mono (by omega))⟩
    case stop =>
      rintro D c pre W _ _ h _
      exact h.elim
  · have b0 : (validF f != 0) = true := by simpa using hv
    have hE : Hid (encB f = []) := Lib.hid (by unfold encB; rw [if_neg hv])
    go_wp2_with fail
    exact ⟨.tuple #[.slice none 0 0, .int .i64 (validF f)], by simp [results, Tryz.results20, go_sem], .slice none 0 0, rfl, by rw [hE.out]; exact .inl ⟨rfl, rfl⟩, hx⟩
theorem fenc_c (f : Fm) (cs : List Value) (w : World) (hr : FmR (ph w) cs f) (hs : f.bulk ≤ 900000) : Calls Tryz.prog 20 #[.agg cs.toArray] w (EncQ w f) := (callsIn_wide (n := 7)).1 (fenc_in f cs w hr hs)
end Go.Proofs.YtnpnjcaomakehaaGreat
namespace Go.Proofs.YtnpnjcaomakehaaGreat
open Go.RowKit
set_option maxHeartbeats 400000 in
theorem equalB_c (va vb : Value) (l m : List UInt8) (w : World) (ha : BytesR (ph w) va l) (hb : BytesR (ph w) vb m) :
    Calls Tryz.prog 38 #[va, vb] w (RetV w (.bool (B (l = m)))) := by
  obtain ⟨a, c, rfl, hlen, ha⟩ := ha.form
  obtain ⟨a', c', rfl, hlen', hb⟩ := hb.form
  by_cases hl : l.length = m.length
  · have HL := Lib.hid hl
    have hlb : ((l.length : Int) != (m.length : Int)) = false := by simp [hl]
    clear hl
    go_enter Tryz.func38, Tryz.ntmps38
    go_wp2_with fail
    go_loopw [13] (fun i wr => ∃ k : Nat, k ≤ l.length ∧ i = .int .i64 k ∧ Hid (l.take k = m.take k) ∧ Ext w wr) (fun i _ => l.length - (intOf i).toNat)
    case atStart => exact ⟨0, Nat.zero_le _, rfl, Lib.hid (by simp), xE⟩
    case round =>
      obtain ⟨k, hk, rfl, ht, hx⟩ := hrel
      by_cases hlt : k < l.length
      · have hlm : k < m.length := by have := HL.out; omega
        obtain ⟨b, o, rfl, h0, hbl⟩ := BytesR.at (ha.mono mono_ByteR hx.ple) k hlt
        obtain ⟨b', o', rfl, h0', hbl'⟩ := BytesR.at (hb.mono mono_ByteR hx.ple) k hlm
        generalize hx1 : l[k] = x at *
        generalize hx2 : m[k] = y at *
        replace hx1 := Lib.hid hx1
        replace hx2 := Lib.hid hx2
        clear ha hb
        go_wp2_with fail
        have hxw : Ext w wr := hx
        (refine wp_region_I 9 (by kernel_rfl) (by kernel_rfl) ?_; simp only [List.toList_toArray, List.take_succ_cons, List.take_zero, List.drop_succ_cons, List.drop_zero])
        iterate 9 (refine wiA rfl (by simp) rfl ?_; (try simp only [List.nil_append, List.cons_append]))
        (refine walkI_nil ?_; simp only [List.nil_append, List.cons_append, fins, Is, forall_eq, Act.put, List.setIfInBounds_toArray, List.set_cons_zero, List.set_cons_succ])
        intro w2 hw2
        by_cases hxy : x = y
        · subst hxy
          go_wp2_with fail
          all_goals first
            | (exfalso; simp_all; done)
            | (go_roundw
               case rel => exact ⟨k + 1, by omega, by go_num, Lib.hid (by rw [take_snoc l k hlt, take_snoc m k hlm, ht.out, hx1.out, hx2.out]), xE⟩
               case measure => simp [intOf]; omega)
        · have hn : ((x.toNat : Int) != (y.toNat : Int)) = true := by
            rw [bne_iff_ne]; intro h; apply hxy; exact UInt8.toNat_inj.1 (by omega)
          replace hxy := Lib.hid hxy
          go_wp2_with fail
          all_goals first
            | (exfalso; simp_all; done)
            | (go_ret
               refine ⟨ret_f (fun h => ?_), xE⟩
               subst h
               exact hxy.out (hx1.out.symm.trans hx2.out))
      · have hkl : k = l.length := by omega
        clear ha hb
        go_wp2_with fail
        go_ret
        refine ⟨ret_t ?_, xE⟩
        have h1 := ht.out
        rw [List.take_of_length_le (by omega), List.take_of_length_le (by have := HL.out; omega)] at h1
        exact h1
  · have HL : Hid (¬ l = m) := fun h => hl (by rw [h])
    have hlb : ((l.length : Int) != (m.length : Int)) = true := by rw [bne_iff_ne]; omega
    clear hl
    go_enter Tryz.func38, Tryz.ntmps38
    go_wp2_with fail
    go_ret
    exact ⟨ret_f HL.out, xE⟩
end Go.Proofs.YtnpnjcaomakehaaGreat
namespace Go.Proofs.YtnpnjcaomakehaaGreat
open Go.RowKit Go.Shelf
def DecQ (w : World) (r : Fm × Int) (e : Ending) (w' : World) : Prop := ∃ b3 d3 b4 d4, e = .returned (.tuple #[fmV r.1 b3 d3 b4 d4, .int .i64 r.2]) ∧ Ext w w' ∧ FmR (up noH w w') (fmC r.1 b3 d3 b4 d4) r.1
set_option maxRecDepth 100000 in
set_option maxHeartbeats 8000000 in
theorem fdecode_c (vs : Value) (xs : List UInt8) (w : World) (hs : BytesR (ph w) vs xs) (hlen : xs.length ≤ 1000000000) : Calls Tryz.prog 22 #[vs] w (DecQ w (decF xs)) := by
  obtain ⟨va, vc, rfl, -, hs⟩ := hs.form
  go_enter Tryz.func22, Tryz.ntmps22
  go_wp2_with fail
  refine (rread_c _ xs _ (hs.mono mono_ByteR (Ext.ple xE)) (by omega)).mono ?_
  rintro e w1 ⟨HR, g, rfl, hg, hR, hx1⟩
  have hO := (Proofs.YtnpnjcaomakehaaGreat.Own.new w #[.int .i64 0, .int .i64 0, .slice none 0 0, .slice none 0 0] 50).keep hx1
  have hx : Ext w w1 := xE
  simp at hg
  have e2 := Ext.new w1 (.cells #[.int .i64 96] 3)
  have oL := Proofs.YtnpnjcaomakehaaGreat.Own.new w1 #[.int .i64 96] 3
  have hRb := hR.bound
  have hgl := hR.lt
  have hHb : HR w1.heap.size = none := by
    cases h : HR w1.heap.size with
    | none => rfl
    | some o => have := hRb _ _ h; omega
  have hR2 := hR.keep e2
  have hO2 := hO.keep e2
  have hx2 := hx.then e2
  have hrd := fread_c (HR := HR) 97 96 g w1.heap.size (some xs) (w1.alloc (.cells #[.int .i64 96] 3)) (by omega) (by omega) (by omega) hR2 oL (by omega) hHb (fun l hl => by cases hl; omega)
  have hw1 := hx.size
  have hO1l := hO.lt
  clear hx1 hR hRb hO e2 hR2 oL
  go_upto_region 3 with (fail)
  generalize hb : w1.heap.size = b at *
  generalize w1.alloc _ = w2 at *
  go_wp2_with fail
  refine hrd.mono ?_
  rintro e w3 ⟨f, a3, c3, a4, c4, s', L', rfl, hF, hrf, hR3, hL3, hx3, hsm⟩
  have hxw : Ext w w3 := hx3.toExt hx2 (by omega) (by omega)
  have hO3 : Own w3 w.heap.size #[.int .i64 0, .int .i64 0, .slice none 0 0, .slice none 0 0] 50 := by
    have hl := hO2.lt
    unfold Own at *
    rw [hx3.block _ hl (by omega) (by omega)]; exact hO2
  have hge : Hid (∀ k o, up noH w2 w3 k = some o → w.heap.size < k) := by
    have hl := hO2.lt
    intro k o hk
    unfold up at hk
    split at hk
    · cases hk
    · omega
  have hU : PLe (up noH w2 w3) (up noH w w3) := by
    intro k o hk
    have h1 := hge.out k o hk
    unfold up at hk ⊢
    split at hk
    · cases hk
    · rw [if_neg (by omega)]; exact hk
  have hUp : PLe (up noH w2 w3) (ph w3) := by
    intro k o hk
    unfold up at hk
    split at hk
    · cases hk
    · exact hk
  have hall : ∀ f0, validF f0 = 0 → FmI f0 → bytesF f0 = xs → f = f0 ∧ s' = some [] ∧ L' = 96 - (f0.size : Int) := fun f0 h1 h2 h3 =>
    hrf.2.2.2 f0 [] ⟨h2, valid_sets h1, by have := (validF_0 h1).1; omega, by rw [h3, List.append_nil]⟩
  have hfb : f.bulk ≤ 900000 := by have h1 := hrf.1; have h2 := hrf.2.1; have h3 := hrf.2.2.1; omega
  have hFI := FmR.i _ _ hF
  generalize up noH w2 w3 = H3 at *
  have e6 := Ext.new w3 (.cells #[.int .i64 f.op, .int .i64 f.n, .slice a3 f.inn.length c3, .slice a4 f.kids.length c4] 50)
  have o6 := Proofs.YtnpnjcaomakehaaGreat.Own.new w3 #[.int .i64 f.op, .int .i64 f.n, .slice a3 f.inn.length c3, .slice a4 f.kids.length c4] 50
  replace hR3 := hR3.keep e6
  replace hL3 := hL3.keep e6
  replace hO3 := hO3.keep e6
  have hU4 := hU.trans (up_then hxw e6)
  replace hxw := hxw.then e6
  have hFp := mono_FmR _ _ _ _ (hUp.trans e6.ple) hF
  replace hall := Lib.hid hall
  have hs4 : BytesR (ph (w3.alloc (.cells #[.int .i64 f.op, .int .i64 f.n, .slice a3 f.inn.length c3, .slice a4 f.kids.length c4] 50))) (.slice va xs.length vc) xs := hs.mono mono_ByteR hxw.ple
  clear hU hUp hO2 hx2 hx3 e6 hrf hrd
  go_upto_region 4 with (fail)
  generalize w3.alloc _ = w4 at *
  generalize w3.heap.size = g6 at *
  obtain ⟨cL, -⟩ := hL3.facts
  have cL0 : _ = some (Value.int .i64 L') := cL 0
  have lL := hL3.lt
  clear cL
  by_cases hLn : L' < 0
  · have b1 : decide (L' < 0) = true := by simpa using hLn
    have hno : Hid (decF xs = (noF, 2)) := Lib.hid (decF_no fun f0 h1 h2 h3 => by
      obtain ⟨-, -, h4⟩ := hall.out f0 h1 h2 h3
      have := (validF_0 h1).1
      omega)
    go_upto_region 5 with (fail)
    obtain ⟨c0, f0⟩ := hO3.facts
    have hbl := hO3.lt
    have r0 : _ = some (Value.int .i64 0) := c0 0
    have r1 : _ = some (Value.int .i64 0) := c0 1
    have r2 : _ = some (Value.slice none 0 0) := c0 2
    have r3 : _ = some (Value.slice none 0 0) := c0 3
    go_wp2_with fail
    rw [hno.out]
    exact bodyPost_ret (v := .tuple #[.agg #[.int .i64 0, .int .i64 0, .slice none 0 0, .slice none 0 0], .int .i64 2]) (by simp [results, Tryz.results22, go_sem, r0, r1, r2, r3, f0, hbl]) rfl ⟨none, 0, none, 0, rfl, xE, noF_R _⟩
  have b1 : decide (L' < 0) = false := by simpa using hLn
  go_wp2_with fail
  refine (rend_c g s' _ hR3 hsm).mono ?_
  rintro e w5 ⟨n, rfl, hn, hx5⟩
  replace hO3 := hO3.keep hx5
  replace o6 := o6.keep hx5
  replace hU4 := hU4.trans (up_then hxw hx5)
  replace hxw := hxw.then hx5
  replace hFp := mono_FmR _ _ _ _ hx5.ple hFp
  replace hs4 := hs4.mono mono_ByteR hx5.ple
  clear hR3 hL3 cL0 lL b1 hx5
  by_cases hn0 : n = 0
  · have b2 : (n != 0) = false := by simp [hn0]
    obtain ⟨c6, -⟩ := o6.facts
    have y0 : _ = some (Value.int .i64 f.op) := c6 0
    have y1 : _ = some (Value.int .i64 f.n) := c6 1
    have y2 : _ = some (Value.slice a3 f.inn.length c3) := c6 2
    have y3 : _ = some (Value.slice a4 f.kids.length c4) := c6 3
    have yl := o6.lt
    have hen := fenc_c f _ w5 hFp hfb
    unfold fmC at hen
    clear hn hn0 c6
    go_wp2_with fail
    refine hen.mono ?_
    rintro e w6 ⟨v, rfl, hv, hx6⟩
    replace hO3 := hO3.keep hx6
    replace o6 := o6.keep hx6
    replace hU4 := hU4.trans (up_then hxw hx6)
    replace hxw := hxw.then hx6
    replace hs4 := hs4.mono mono_ByteR hx6.ple
    clear y0 y1 y2 y3 yl hx6 hen hFp
    have hvr := hv.rep mono_ByteR (noH_le _)
    obtain ⟨pa, pc, rfl, -, hvr⟩ := hvr.form
    clear hv
    by_cases hv0 : validF f = 0
    · have hE : encB f = bytesF f := by unfold encB; rw [if_pos hv0]
      rw [hE] at hvr ⊢
      rw [hv0]
      have heq := equalB_c _ _ (bytesF f) xs w6 hvr hs4
      clear hE
      by_cases he : bytesF f = xs
      · rw [B_t he] at heq
        have hde := Lib.hid (decF_ok hv0 hFI he)
        replace he := Lib.hid he
        replace hv0 := Lib.hid hv0
        go_wp2_with fail
        refine RetV_at heq ?_
        intro w7 hx7
        replace hO3 := hO3.keep hx7
        replace o6 := o6.keep hx7
        replace hU4 := hU4.trans (up_then hxw hx7)
        replace hxw := hxw.then hx7
        clear heq hx7 hvr hs4
        obtain ⟨c6, -⟩ := o6.facts
        have y0 : _ = some (Value.int .i64 f.op) := c6 0
        have y1 : _ = some (Value.int .i64 f.n) := c6 1
        have y2 : _ = some (Value.slice a3 f.inn.length c3) := c6 2
        have y3 : _ = some (Value.slice a4 f.kids.length c4) := c6 3
        have yl := o6.lt
        obtain ⟨c0, f0⟩ := hO3.facts
        have hbl := hO3.lt
        have r0 : _ = some (Value.int .i64 0) := c0 0
        have r1 : _ = some (Value.int .i64 0) := c0 1
        have r2 : _ = some (Value.slice none 0 0) := c0 2
        have r3 : _ = some (Value.slice none 0 0) := c0 3
        clear c6 o6
        go_wp2_with fail
        rw [hde.out]
        exact bodyPost_ret (v := .tuple #[.agg #[.int .i64 f.op, .int .i64 f.n, .slice a3 f.inn.length c3, .slice a4 f.kids.length c4], .int .i64 0]) (by simp [results, Tryz.results22, go_sem, r0, r1, r2, r3, f0, hbl]) rfl ⟨a3, c3, a4, c4, rfl, xE, mono_FmR _ _ _ _ (ple_set (ple_set (ple_set (ple_set hU4 hge.out) hge.out) hge.out) hge.out) hF⟩
      · rw [B_f he] at heq
        have hno : Hid (decF xs = (noF, 2)) := Lib.hid (decF_no fun f0 h1 h2 h3 => by
          obtain ⟨h4, -, -⟩ := hall.out f0 h1 h2 h3
          exact he (by rw [h4]; exact h3))
        replace he := Lib.hid he
        replace hv0 := Lib.hid hv0
        go_wp2_with fail
        refine RetV_at heq ?_
        intro w7 hx7
        replace hO3 := hO3.keep hx7
        replace hxw := hxw.then hx7
        clear heq hx7 hvr hs4 o6
        obtain ⟨c0, f0⟩ := hO3.facts
        have hbl := hO3.lt
        have r0 : _ = some (Value.int .i64 0) := c0 0
        have r1 : _ = some (Value.int .i64 0) := c0 1
        have r2 : _ = some (Value.slice none 0 0) := c0 2
        have r3 : _ = some (Value.slice none 0 0) := c0 3
        go_wp2_with fail
        rw [hno.out]
        exact bodyPost_ret (v := .tuple #[.agg #[.int .i64 0, .int .i64 0, .slice none 0 0, .slice none 0 0], .int .i64 2]) (by simp [results, Tryz.results22, go_sem, r0, r1, r2, r3, f0, hbl]) rfl ⟨none, 0, none, 0, rfl, xE, noF_R _⟩
    · have b3 : (validF f != 0) = true := by simpa using hv0
      have hno : Hid (decF xs = (noF, 2)) := Lib.hid (decF_no fun f0 h1 h2 h3 => by
        obtain ⟨h4, -, -⟩ := hall.out f0 h1 h2 h3
        exact hv0 (by rw [h4]; exact h1))
      replace hv0 := Lib.hid hv0
      clear hvr hs4 o6
      go_upto_region 8 with (fail)
      obtain ⟨c0, f0⟩ := hO3.facts
      have hbl := hO3.lt
      have r0 : _ = some (Value.int .i64 0) := c0 0
      have r1 : _ = some (Value.int .i64 0) := c0 1
      have r2 : _ = some (Value.slice none 0 0) := c0 2
      have r3 : _ = some (Value.slice none 0 0) := c0 3
      go_wp2_with fail
      rw [hno.out]
      exact bodyPost_ret (v := .tuple #[.agg #[.int .i64 0, .int .i64 0, .slice none 0 0, .slice none 0 0], .int .i64 2]) (by simp [results, Tryz.results22, go_sem, r0, r1, r2, r3, f0, hbl]) rfl ⟨none, 0, none, 0, rfl, xE, noF_R _⟩
  · have b2 : (n != 0) = true := by simpa using hn0
    have hno : Hid (decF xs = (noF, 2)) := Lib.hid (decF_no fun f0 h1 h2 h3 => by
      obtain ⟨-, h4, -⟩ := hall.out f0 h1 h2 h3
      exact hn0 (hn.2 h4))
    clear hn hn0
    go_upto_region 5 with (fail)
    obtain ⟨c0, f0⟩ := hO3.facts
    have hbl := hO3.lt
    have r0 : _ = some (Value.int .i64 0) := c0 0
    have r1 : _ = some (Value.int .i64 0) := c0 1
    have r2 : _ = some (Value.slice none 0 0) := c0 2
    have r3 : _ = some (Value.slice none 0 0) := c0 3
    go_wp2_with fail
    rw [hno.out]
    exact bodyPost_ret (v := .tuple #[.agg #[.int .i64 0, .int .i64 0, .slice none 0 0, .slice none 0 0], .int .i64 2]) (by simp [results, Tryz.results22, go_sem, r0, r1, r2, r3, f0, hbl]) rfl ⟨none, 0, none, 0, rfl, xE, noF_R _⟩
theorem intsOf {w : World} {g : Nat} {l : List Int} {T : TypeId} (ho : Own w g (intC l).toArray T) (hl : ∀ x ∈ l, I64 x) (hn : l.length ≤ 1000) : IntsR (ph w) (.slice (some ⟨g, 0, none⟩) l.length l.length) l := by
  refine ⟨_, l.length, rfl, Nat.le_refl _, by simp [maxLen]; omega, .inr ⟨g, 0, rfl, rowI _ 0 fun j hj => ⟨?_, hl _ (List.getElem_mem hj)⟩⟩⟩
  rw [← cell_ph, Nat.zero_add, ho.facts.1 j]
  simp [intC, hj]
abbrev BytS (b : Nat) (xs : List UInt8) : Value → World → Prop := fun v w => OwnS b noH w ByteR 1 5 v xs
theorem stab_BytS {W : World} (b : Nat) (xs : List UInt8) : Stable W (BytS b xs) := fun v w w' _ h e => h.keep e
set_option maxRecDepth 100000 in
set_option maxHeartbeats 4000000 in
theorem interval7_c (x : Itv) (w : World) (hI : x.I) : Calls Tryz.prog 56 #[itA x] w (FreshB w (itvE x)) := by
  have hE : Hid (itvE x = encInts (itvN x)) := rfl
  have hN := itvN_I hI
  obtain ⟨⟨p, q⟩, ⟨r, s⟩, lO, rO, lI, rI⟩ := x
  unfold itA
  dsimp only
  have o1 := Own.new w #[.int .i64 p, .int .i64 q, .int .i64 r, .int .i64 s, .bool lO, .bool rO, .bool lI, .bool rI] 92
  have hx1 := Ext.new w (.cells #[.int .i64 p, .int .i64 q, .int .i64 r, .int .i64 s, .bool lO, .bool rO, .bool lI, .bool rI] 92)
  generalize itvE _ = R at *
  go_enter Tryz.func56, Tryz.ntmps56
  go_upto_region 1 with (fail)
  generalize w.alloc _ = W at *
  generalize hg1 : w.heap.size = g1 at *
  obtain ⟨bc, -⟩ := o1.facts
  have m0 : _ = some (Value.int .i64 p) := bc 0
  have m1 : _ = some (Value.int .i64 q) := bc 1
  have m2 : _ = some (Value.int .i64 r) := bc 2
  have m3 : _ = some (Value.int .i64 s) := bc 3
  have m4 : _ = some (Value.bool lO) := bc 4
  have m5 : _ = some (Value.bool rO) := bc 5
  have m6 : _ = some (Value.bool lI) := bc 6
  have m7 : _ = some (Value.bool rI) := bc 7
  have ml := o1.lt
  clear bc
  (refine wp_region_I 27 (by kernel_rfl) (by kernel_rfl) ?_; simp only [List.toList_toArray, List.take_succ_cons, List.take_zero, List.drop_succ_cons, List.drop_zero])
  iterate 14 (refine wiA rfl (by simp) rfl ?_; (try simp only [List.nil_append, List.cons_append]))
  (refine walkI_is (u := ?_) rfl (by simp) rfl ?_ ?_; rotate_left; (focus (intro A w' hS hA K hK; (simp only [List.map_cons, List.map_nil, knows, Is, Op.operands, Call.operands, List.lookup_cons, List.lookup_nil, Nat.reduceBEq, Bool.false_eq_true, if_false, if_true, Act.eval, Array.getD_eq_getD_getElem?, List.getElem?_toArray, List.getElem?_cons_succ, List.getElem?_cons_zero, Option.getD_some, and_true, true_and, List.append_toArray, List.nil_append, List.cons_append, List.toList_toArray, Array.toList_append, Option.toArray, List.append_nil] at hA); first | (go_simp; refine RetP_at (one7_c _ _) ?_; exact hK _ xE) | (obtain ⟨hSc, hSf, hSs⟩ := hS.cells; go_simp; exact hK _ xN))); (try simp only [List.nil_append, List.cons_append]))
  iterate 2 (refine wiA rfl (by simp) rfl ?_; (try simp only [List.nil_append, List.cons_append]))
  (refine walkI_is (u := ?_) rfl (by simp) rfl ?_ ?_; rotate_left; (focus (intro A w' hS hA K hK; (simp only [List.map_cons, List.map_nil, knows, Is, Op.operands, Call.operands, List.lookup_cons, List.lookup_nil, Nat.reduceBEq, Bool.false_eq_true, if_false, if_true, Act.eval, Array.getD_eq_getD_getElem?, List.getElem?_toArray, List.getElem?_cons_succ, List.getElem?_cons_zero, Option.getD_some, and_true, true_and, List.append_toArray, List.nil_append, List.cons_append, List.toList_toArray, Array.toList_append, Option.toArray, List.append_nil] at hA); first | (go_simp; refine RetP_at (one7_c _ _) ?_; exact hK _ xE) | (obtain ⟨hSc, hSf, hSs⟩ := hS.cells; go_simp; exact hK _ xN))); (try simp only [List.nil_append, List.cons_append]))
  iterate 2 (refine wiA rfl (by simp) rfl ?_; (try simp only [List.nil_append, List.cons_append]))
  (refine walkI_is (u := ?_) rfl (by simp) rfl ?_ ?_; rotate_left; (focus (intro A w' hS hA K hK; (simp only [List.map_cons, List.map_nil, knows, Is, Op.operands, Call.operands, List.lookup_cons, List.lookup_nil, Nat.reduceBEq, Bool.false_eq_true, if_false, if_true, Act.eval, Array.getD_eq_getD_getElem?, List.getElem?_toArray, List.getElem?_cons_succ, List.getElem?_cons_zero, Option.getD_some, and_true, true_and, List.append_toArray, List.nil_append, List.cons_append, List.toList_toArray, Array.toList_append, Option.toArray, List.append_nil] at hA); first | (go_simp; refine RetP_at (one7_c _ _) ?_; exact hK _ xE) | (obtain ⟨hSc, hSf, hSs⟩ := hS.cells; go_simp; exact hK _ xN))); (try simp only [List.nil_append, List.cons_append]))
  iterate 2 (refine wiA rfl (by simp) rfl ?_; (try simp only [List.nil_append, List.cons_append]))
  (refine walkI_is (u := ?_) rfl (by simp) rfl ?_ ?_; rotate_left; (focus (intro A w' hS hA K hK; (simp only [List.map_cons, List.map_nil, knows, Is, Op.operands, Call.operands, List.lookup_cons, List.lookup_nil, Nat.reduceBEq, Bool.false_eq_true, if_false, if_true, Act.eval, Array.getD_eq_getD_getElem?, List.getElem?_toArray, List.getElem?_cons_succ, List.getElem?_cons_zero, Option.getD_some, and_true, true_and, List.append_toArray, List.nil_append, List.cons_append, List.toList_toArray, Array.toList_append, Option.toArray, List.append_nil] at hA); first | (go_simp; refine RetP_at (one7_c _ _) ?_; exact hK _ xE) | (obtain ⟨hSc, hSf, hSs⟩ := hS.cells; go_simp; exact hK _ xN))); (try simp only [List.nil_append, List.cons_append]))
  (refine walkI_step (NewSl W (intC (itvN ⟨⟨p, q⟩, ⟨r, s⟩, lO, rO, lI, rI⟩)).toArray 3 8) rfl (by simp) rfl (stab_NewSl _ _ _ _) ?_ ?_; (focus (intro A w' hS hA K hK; (simp only [List.map_cons, List.map_nil, knows, Is, Op.operands, Call.operands, List.lookup_cons, List.lookup_nil, Nat.reduceBEq, Bool.false_eq_true, if_false, if_true, Act.eval, Array.getD_eq_getD_getElem?, List.getElem?_toArray, List.getElem?_cons_succ, List.getElem?_cons_zero, Option.getD_some, and_true, true_and, List.append_toArray, List.nil_append, List.cons_append, List.toList_toArray, Array.toList_append, Option.toArray, List.append_nil] at hA); (have hs' := hS.size; go_simp; exact hK _ _ (Ext.new _ _) ⟨_, rfl, Own.new _ _ _, by omega⟩))); (try simp only [List.nil_append, List.cons_append]))
  (refine walkI_step (BytS W.heap.size R) rfl (by simp) rfl (stab_BytS _ _) ?_ ?_; (focus (intro A w' hS hA K hK; (simp only [List.map_cons, List.map_nil, knows, Is, Op.operands, Call.operands, List.lookup_cons, List.lookup_nil, Nat.reduceBEq, Bool.false_eq_true, if_false, if_true, Act.eval, Array.getD_eq_getD_getElem?, List.getElem?_toArray, List.getElem?_cons_succ, List.getElem?_cons_zero, Option.getD_some, and_true, true_and, List.append_toArray, List.nil_append, List.cons_append, List.toList_toArray, Array.toList_append, Option.toArray, List.append_nil] at hA); (obtain ⟨g, hA1, hA2, -⟩ := hA; have hii := intsOf hA2 hN (by simp [itvN]); go_simp; refine (refInts_c _ _ _ hii (by simp [itvN])).mono ?_; rintro e w9 ⟨v, rfl, ho, hx9⟩; exact hK _ _ hx9 (by rw [hE.out]; exact ho.base hS.size)))); (try simp only [List.nil_append, List.cons_append]))
  (refine walkI_step (BytS W.heap.size R) rfl (by simp) rfl (stab_BytS _ _) ?_ ?_; (focus (intro A w' hS hA K hK; (simp only [List.map_cons, List.map_nil, knows, Is, Op.operands, Call.operands, List.lookup_cons, List.lookup_nil, Nat.reduceBEq, Bool.false_eq_true, if_false, if_true, Act.eval, Array.getD_eq_getD_getElem?, List.getElem?_toArray, List.getElem?_cons_succ, List.getElem?_cons_zero, Option.getD_some, and_true, true_and, List.append_toArray, List.nil_append, List.cons_append, List.toList_toArray, Array.toList_append, Option.toArray, List.append_nil] at hA); (go_simp; exact hK _ _ (Ext.rfl' _) hA))); (try simp only [List.nil_append, List.cons_append]))
  (refine walkI_nil ?_; simp only [List.nil_append, List.cons_append, fins, Is, forall_eq, Act.put, List.setIfInBounds_toArray, List.set_cons_zero, List.set_cons_succ])
  rintro W5 hx5 v27 - v28 - v2 ho
  go_wp2_with fail
  refine bodyPost_ret (v := v2) (by simp [results, Tryz.results56, go_sem]) rfl ?_
  exact ⟨v2, rfl, ho.base hx1.size, hx1.then hx5⟩
theorem itvs_snoc (l : List Itv) (k : Nat) (h : k < l.length) : (l.take (k + 1)).flatMap itvE = (l.take k).flatMap itvE ++ itvE l[k] := by
  rw [List.take_succ_eq_append_getElem h, List.flatMap_append]; simp
theorem bytesFs_len {l : List Fm} (h : ∀ x ∈ l, FmI x) : (bytesFs l).length ≤ 100 * sumN Fm.bulk l := by
  induction l with
  | nil => simp [bytesFs]
  | cons x l ih =>
    have h1 := bytes_len x (h x (by simp))
    have h2 := ih fun y hy => h y (by simp [hy])
    rw [bytesFs, List.length_append]; simp only [sumN]; omega
set_option maxRecDepth 100000 in
set_option maxHeartbeats 8000000 in
theorem rbytes7_c (f : Fm) : ∀ (cs : List Value) (w : World), FmR (ph w) cs f → f.bulk ≤ 100000 → Calls Tryz.prog 23 #[.agg cs.toArray] w (FreshB w (bytesF f)) := by
  induction f using Fm.ind with
  | h f ih =>
    intro cs w hr hb
    have hFI := hr.i
    obtain ⟨a3, c3, a4, c4, rfl, i1, i2, l1, l2, hfi, hfk⟩ := hr.form
    have hbe := f.bulk_eq
    have hkl := f.kids_le
    have hbl := bytes_len f hFI
    have hRes : Hid (bytesF f = (((encI f.op ++ encI f.n) ++ encI f.inn.length) ++ f.inn.flatMap itvE ++ encI f.kids.length) ++ bytesFs f.kids) := by
      show _ = _; rw [bytesF_eq]; simp only [List.append_assoc]
    have i3 : I64 (f.inn.length : Int) := by unfold I64; omega
    have i4 : I64 (f.kids.length : Int) := by unfold I64; omega
    have n1 := encI_len i1
    have n2 := encI_len i2
    have n3 := encI_len i3
    have n4 := encI_len i4
    have hIA := Lib.hid hFI.node.2.2.1
    have hKA := Lib.hid (fun x hx => FmI.kid hFI (g := x) hx)
    have HI := Lib.hid ih; clear ih
    have hM0 := (MB.start w).box #[.int .i64 f.op, .int .i64 f.n, .slice a3 f.inn.length c3, .slice a4 f.kids.length c4] 50
    simp only [List.nil_append] at hM0
    unfold fmC
    clear hr
    go_enter Tryz.func23, Tryz.ntmps23
    go_upto_region 1 with (fail)
    generalize w.alloc _ = W at *
    generalize hg1 : w.heap.size = g1 at *
    have hx0 := hM0.ex
    obtain ⟨bc, bf⟩ := (hM0.own1 0 rfl).facts
    have bl := (hM0.own1 0 rfl).lt
    have m0 : _ = some (Value.int .i64 f.op) := bc 0
    have m1 : _ = some (Value.int .i64 f.n) := bc 1
    clear bc
    (refine wp_region_I 6 (by kernel_rfl) (by kernel_rfl) ?_; simp only [List.toList_toArray, List.take_succ_cons, List.take_zero, List.drop_succ_cons, List.drop_zero])
    iterate 2 (refine wiA rfl (by simp) rfl ?_; (try simp only [List.nil_append, List.cons_append]))
    (refine walkI_step (BytS W.heap.size (encI f.op)) rfl (by simp) rfl (stab_BytS _ _) ?_ ?_; (focus (intro A w' hS hA K hK; (simp only [List.map_cons, List.map_nil, knows, Is, Op.operands, Call.operands, List.lookup_cons, List.lookup_nil, Nat.reduceBEq, Bool.false_eq_true, if_false, if_true, Act.eval, Array.getD_eq_getD_getElem?, List.getElem?_toArray, List.getElem?_cons_succ, List.getElem?_cons_zero, Option.getD_some, and_true, true_and, List.append_toArray, List.nil_append, List.cons_append, List.toList_toArray, Array.toList_append, Option.toArray, List.append_nil] at hA); (go_simp; refine (refInt_c _ _ i1).mono ?_; rintro e w9 ⟨v, rfl, ho, hx9⟩; exact hK _ _ hx9 (ho.base hS.size)))); (try simp only [List.nil_append, List.cons_append]))
    iterate 2 (refine wiA rfl (by simp) rfl ?_; (try simp only [List.nil_append, List.cons_append]))
    (refine walkI_step (BytS W.heap.size (encI f.n)) rfl (by simp) rfl (stab_BytS _ _) ?_ ?_; (focus (intro A w' hS hA K hK; (simp only [List.map_cons, List.map_nil, knows, Is, Op.operands, Call.operands, List.lookup_cons, List.lookup_nil, Nat.reduceBEq, Bool.false_eq_true, if_false, if_true, Act.eval, Array.getD_eq_getD_getElem?, List.getElem?_toArray, List.getElem?_cons_succ, List.getElem?_cons_zero, Option.getD_some, and_true, true_and, List.append_toArray, List.nil_append, List.cons_append, List.toList_toArray, Array.toList_append, Option.toArray, List.append_nil] at hA); (go_simp; refine (refInt_c _ _ i2).mono ?_; rintro e w9 ⟨v, rfl, ho, hx9⟩; exact hK _ _ hx9 (ho.base hS.size)))); (try simp only [List.nil_append, List.cons_append]))
    (refine walkI_nil ?_; simp only [List.nil_append, List.cons_append, fins, Is, forall_eq, Act.put, List.setIfInBounds_toArray, List.set_cons_zero, List.set_cons_succ])
    rintro W5 hx5 v8 ho8 v11 ho11
    have hM1 := hM0.take' hx5 ho8
    have hS11 := Src.ofOwn ho11
    obtain ⟨pa, pc, rfl, -⟩ := hM1.form
    obtain ⟨qa, qc, rfl, -⟩ := ho11.form
    clear hM0 hx5 ho8 ho11 m0 m1 bf bl
    generalize hac : encI f.op = x1 at *
    generalize hac2 : encI f.n = x2 at *
    replace hac := Lib.hid hac
    replace hac2 := Lib.hid hac2
    generalize hm1 : x1.length = m1 at *
    generalize hm2 : x2.length = m2 at *
    replace hm1 := Lib.hid hm1
    replace hm2 := Lib.hid hm2
    go_wp2_with (at_builtin; refine wpList_append_B rfl _ _ 23 rfl Tryz.underlying23 infoByte rfl rfl rfl rfl (hM1.keep xE) (hS11.keep xE) ?c4 ?c5)
    case c4 => rw [hm1.out, hm2.out]; omega
    case c5 =>
    intro v' w6 hM2
    clear hM1 hS11
    have hy2 : (x1 ++ x2).length ≤ 20 := by rw [List.length_append, hm1.out, hm2.out]; omega
    obtain ⟨y2, hy⟩ : ∃ y, Hid (x1 ++ x2 = y) := ⟨_, rfl⟩
    rw [hy.out] at hM2 hy2
    obtain ⟨pa, pc, rfl, -⟩ := hM2.form
    have m2 : _ = some (Value.slice a3 f.inn.length c3) := (hM2.own1 0 rfl).facts.1 2
    have bl := (hM2.own1 0 rfl).lt
    generalize hl2 : y2.length = z2 at *
    replace hl2 := Lib.hid hl2
    generalize hac3 : encI (f.inn.length : Int) = x3 at *
    have hI3 := refInt_c (f.inn.length : Int) w6 i3
    rw [hac3] at hI3
    replace hac3 := Lib.hid hac3
    go_wp2_with fail
    refine hI3.mono ?_
    rintro e w7 ⟨vx, rfl, ho, hb2⟩
    obtain ⟨hMa, hMb⟩ := hM2.take hb2 ho
    obtain ⟨a2, c2, rfl, -⟩ := hMb.form
    have hSb := hMb.src
    clear hM2 hb2 ho m2 bl hMb hI3
    generalize hm3 : x3.length = m3 at *
    replace hm3 := Lib.hid hm3
    go_wp2_with (at_builtin; refine wpList_append_B rfl _ _ 23 rfl Tryz.underlying23 infoByte rfl rfl rfl rfl (hMa.keep xE) (hSb.keep xE) ?d4 ?d5)
    case d4 => (rw [hl2.out, hm3.out]; omega)
    case d5 =>
    intro v' w8 hM3
    clear hMa hSb
    have hy3 : (y2 ++ x3).length ≤ 30 := by rw [List.length_append, hl2.out, hm3.out]; omega
    obtain ⟨y3, hyy⟩ : ∃ y, Hid (y2 ++ x3 = y) := ⟨_, rfl⟩
    rw [hyy.out] at hM3 hy3
    go_wp2_with fail
    go_loopw [3, 4] (fun v i wr => ∃ k : Nat, k ≤ f.inn.length ∧ i = .int .i64 k ∧ MB w [box g1 #[.int .i64 f.op, .int .i64 f.n, .slice a3 f.inn.length c3, .slice a4 f.kids.length c4] 50] noH v (y3 ++ (f.inn.take k).flatMap itvE) wr) (fun _ i _ => f.inn.length - (intOf i).toNat)
    case atStart => exact ⟨0, by omega, rfl, by simpa using hM3⟩
    case round =>
      clear hM3
      obtain ⟨k, hk, rfl, hM⟩ := hrel
      have m2 : _ = some (Value.slice a3 f.inn.length c3) := (hM.own1 0 rfl).facts.1 2
      have bl := (hM.own1 0 rfl).lt
      have hpl : (y3 ++ (f.inn.take k).flatMap itvE).length ≤ 30 + 90 * 100000 := by
        have := itvs_len (l := f.inn.take k) fun x hx => hIA.out x (List.mem_of_mem_take hx)
        rw [List.length_take] at this
        rw [List.length_append]; omega
      by_cases hlt : k < f.inn.length
      · obtain ⟨b, o, ek, h0, h1, h2, h3, h4, h5, h6, h7, hbl2, hI⟩ := ItvsR.at (hfi.mono mono_ItvR hM.ex.ple) k hlt
        cases ek
        have hsn := Lib.hid (itvs_snoc f.inn k hlt)
        have hc := Lib.hid (fun W => interval7_c f.inn[k] W hI)
        have hel := itvE_len hI
        have hja : decide (k < f.inn.length) = true := decide_eq_true hlt
        generalize f.inn[k] = x at *
        unfold itA at hc
        obtain ⟨pa, pc, rfl, -⟩ := hM.form
        generalize hacc : y3 ++ (f.inn.take k).flatMap itvE = acc at *
        replace hacc := Lib.hid hacc
        generalize hal : acc.length = al at *
        replace hal := Lib.hid hal
        generalize hxe : itvE x = xe at *
        replace hxe := Lib.hid hxe
        go_wp2_with fail
        refine (hc.out _).mono ?_
        rintro e w9 ⟨vx, rfl, ho, hb2⟩
        obtain ⟨hMa, hMb⟩ := hM.take hb2 ho
        obtain ⟨a2, c2, rfl, -⟩ := hMb.form
        have hSb := hMb.src
        clear hM hb2 ho m2 bl hMb hc h0 h1 h2 h3 h4 h5 h6 h7 hbl2
        generalize hxl : xe.length = xl at *
        replace hxl := Lib.hid hxl
        go_wp2_with (at_builtin; refine wpList_append_B rfl _ _ 23 rfl Tryz.underlying23 infoByte rfl rfl rfl rfl (hMa.keep xE) (hSb.keep xE) ?e4 ?e5)
        case e4 => (rw [hal.out, hxl.out]; omega)
        case e5 =>
        intro v' w10 hM6
        clear hMa hSb
        have hM7 : MB w [box g1 #[.int .i64 f.op, .int .i64 f.n, .slice (some ⟨b, o, none⟩) f.inn.length c3, .slice a4 f.kids.length c4] 50] noH v' (y3 ++ (f.inn.take (k + 1)).flatMap itvE) w10 := by
          rw [hsn.out, ← List.append_assoc, hacc.out]; exact hM6
        go_wp2_with fail
        go_roundw
        case rel => exact ⟨k + 1, by omega, by go_num, hM7⟩
        case measure => simp [intOf]; omega
      · obtain rfl : k = f.inn.length := by omega
        have hja : decide (f.inn.length < f.inn.length) = false := by simp
        rw [List.take_length] at hM hpl
        obtain ⟨y4, hy4⟩ : ∃ y, Hid (y3 ++ f.inn.flatMap itvE = y) := ⟨_, rfl⟩
        rw [hy4.out] at hM hpl
        obtain ⟨pa, pc, rfl, -⟩ := hM.form
        have m3' : _ = some (Value.slice a4 f.kids.length c4) := (hM.own1 0 rfl).facts.1 3
        generalize hl4 : y4.length = z4 at *
        replace hl4 := Lib.hid hl4
        generalize hac4 : encI (f.kids.length : Int) = x4 at *
        have hI4 := refInt_c (f.kids.length : Int) wr i4
        rw [hac4] at hI4
        replace hac4 := Lib.hid hac4
        go_wp2_with fail
        refine hI4.mono ?_
        rintro e w7 ⟨vx, rfl, ho, hb2⟩
        obtain ⟨hMa, hMb⟩ := hM.take hb2 ho
        obtain ⟨a2, c2, rfl, -⟩ := hMb.form
        have hSb := hMb.src
        clear hM hb2 ho m2 m3' bl hMb hI4
        generalize hm4 : x4.length = m4 at *
        replace hm4 := Lib.hid hm4
        go_wp2_with (at_builtin; refine wpList_append_B rfl _ _ 23 rfl Tryz.underlying23 infoByte rfl rfl rfl rfl (hMa.keep xE) (hSb.keep xE) ?f4 ?f5)
        case f4 => (rw [hl4.out, hm4.out]; omega)
        case f5 =>
        intro v' w8 hM3
        clear hMa hSb
        have hy5 : (y4 ++ x4).length ≤ 40 + 90 * 100000 := by rw [List.length_append, hl4.out, hm4.out]; omega
        obtain ⟨y5, hyz⟩ : ∃ y, Hid (y4 ++ x4 = y) := ⟨_, rfl⟩
        rw [hyz.out] at hM3 hy5
        have hRes2 : Hid (bytesF f = y5 ++ bytesFs f.kids) := by
          show _ = _
          rw [hRes.out, hy.out, hyy.out, hy4.out, hyz.out]
        clear hRes hy hyy hy4 hyz
        go_wp2_with fail
        go_loopw [3, 5] (fun v i wx => ∃ k : Nat, k ≤ f.kids.length ∧ i = .int .i64 k ∧ MB w [box g1 #[.int .i64 f.op, .int .i64 f.n, .slice a3 f.inn.length c3, .slice a4 f.kids.length c4] 50] noH v (y5 ++ bytesFs (f.kids.take k)) wx) (fun _ i _ => f.kids.length - (intOf i).toNat)
        case atStart => exact ⟨0, by omega, rfl, by simpa [bytesFs] using hM3⟩
        case round =>
          clear hM3
          obtain ⟨k, hk, rfl, hM⟩ := hrel
          have m3' : _ = some (Value.slice a4 f.kids.length c4) := (hM.own1 0 rfl).facts.1 3
          have bl := (hM.own1 0 rfl).lt
          have hpl2 : (y5 ++ bytesFs (f.kids.take k)).length ≤ 40 + 90 * 100000 + 100 * 100000 := by
            have h1 := bytesFs_len (l := f.kids.take k) fun x hx => hKA.out x (List.mem_of_mem_take hx)
            have h2 := sumN_take_le Fm.bulk f.kids k
            rw [List.length_append]; omega
          by_cases hlt : k < f.kids.length
          · obtain ⟨kb, ko, k3, q3, k4, q4, ek, z0, z1, z2', z3, hE, zl⟩ := FmsR.atH hfk hM.ex.ple k hlt
            cases ek
            have hsn : Hid (bytesFs (f.kids.take (k + 1)) = bytesFs (f.kids.take k) ++ bytesF f.kids[k]) := by
              show _ = _; rw [List.take_succ_eq_append_getElem hlt, bytesFs_snoc]
            have hkb := Fm.kid_le (List.getElem_mem hlt)
            have hc := HI.out f.kids[k] (List.getElem_mem hlt) _ wr (mono_FmR _ _ _ _ hM.ex.ple hE) (by omega)
            have hel := bytes_len f.kids[k] (hKA.out _ (List.getElem_mem hlt))
            have hja2 : decide (k < f.kids.length) = true := decide_eq_true hlt
            generalize f.kids[k] = x at *
            unfold fmC at hc
            obtain ⟨pa, pc, rfl, -⟩ := hM.form
            generalize hacc : y5 ++ bytesFs (f.kids.take k) = acc at *
            replace hacc := Lib.hid hacc
            generalize hal : acc.length = al at *
            replace hal := Lib.hid hal
            generalize hxe : bytesF x = xe at *
            replace hxe := Lib.hid hxe
            go_wp2_with fail
            refine hc.mono ?_
            rintro e w9 ⟨vx, rfl, ho, hb2⟩
            obtain ⟨hMa, hMb⟩ := hM.take hb2 ho
            obtain ⟨a2, c2, rfl, -⟩ := hMb.form
            have hSb := hMb.src
            clear hM hb2 ho m3' bl hMb hc z0 z1 z2' z3 zl hE
            generalize hxl : xe.length = xl at *
            replace hxl := Lib.hid hxl
            go_wp2_with (at_builtin; refine wpList_append_B rfl _ _ 23 rfl Tryz.underlying23 infoByte rfl rfl rfl rfl (hMa.keep xE) (hSb.keep xE) ?g4 ?g5)
            case g4 => (rw [hal.out, hxl.out]; omega)
            case g5 =>
            intro v' w10 hM6
            clear hMa hSb
            have hM7 : MB w [box g1 #[.int .i64 f.op, .int .i64 f.n, .slice a3 f.inn.length c3, .slice (some ⟨kb, ko, none⟩) f.kids.length c4] 50] noH v' (y5 ++ bytesFs (f.kids.take (k + 1))) w10 := by
              rw [hsn.out, ← List.append_assoc, hacc.out]; exact hM6
            go_wp2_with fail
            go_roundw
            case rel => exact ⟨k + 1, by omega, by go_num, hM7⟩
            case measure => simp [intOf]; omega
          · obtain rfl : k = f.kids.length := by omega
            have hja2 : decide (f.kids.length < f.kids.length) = false := by simp
            rw [List.take_length, ← hRes2.out] at hM
            have hf := hM.fresh
            obtain ⟨pa, pc, rfl, -⟩ := hM.form
            generalize (bytesF f).length = bl9 at *
            go_wp2_with fail
            go_ret
            exact hf
set_option maxRecDepth 100000 in
set_option maxHeartbeats 4000000 in
theorem rfenc_c (f : Fm) (cs : List Value) (w : World) (hr : FmR (ph w) cs f) (hs : f.bulk ≤ 100000) : Calls Tryz.prog 21 #[.agg cs.toArray] w (EncQ w f) := by
  obtain ⟨a3, c3, a4, c4, rfl, -⟩ := hr.form
  have hval := Lib.hid (fun W (e : Ext w W) => rfvalid_c f _ W (mono_FmR _ _ _ _ e.ple hr) (by omega))
  have hby := Lib.hid (fun W (e : Ext w W) => rbytes7_c f _ W (mono_FmR _ _ _ _ e.ple hr) hs)
  unfold fmC at *
  have ho := Own.new w #[.int .i64 f.op, .int .i64 f.n, .slice a3 f.inn.length c3, .slice a4 f.kids.length c4] 50
  have hx := Ext.new w (.cells #[.int .i64 f.op, .int .i64 f.n, .slice a3 f.inn.length c3, .slice a4 f.kids.length c4] 50)
  clear hr
  go_enter Tryz.func21, Tryz.ntmps21
  go_upto_region 1 with (fail)
  generalize w.alloc _ = w1 at *
  obtain ⟨q, -⟩ := ho.facts
  have q0 : _ = some (Value.int .i64 f.op) := q 0
  have q1 : _ = some (Value.int .i64 f.n) := q 1
  have q2 : _ = some (Value.slice a3 f.inn.length c3) := q 2
  have q3 : _ = some (Value.slice a4 f.kids.length c4) := q 3
  have hlt := ho.lt
  go_wp2_with fail
  refine RetV_at (hval.out _ hx) ?_
  intro w2 hx2
  replace hx := hx.then hx2
  by_cases hv : validF f = 0
  · have b0 : (validF f != 0) = false := by simp [hv]
    have hE : Hid (encB f = bytesF f) := Lib.hid (by unfold encB; rw [if_pos hv])
    rw [hv] at b0 ⊢
    replace hv := Lib.hid hv
    replace q0 := hx2.cell1 q0
    replace q1 := hx2.cell1 q1
    replace q2 := hx2.cell1 q2
    replace q3 := hx2.cell1 q3
    replace hlt := cell_lt q0
    clear hval ho q
    go_wp2_with fail
    refine (hby.out w2 hx).mono ?_
    rintro e w3 ⟨v, rfl, hO, hx3⟩
    have hsz := hx.size
    go_wp2_with fail
    exact bodyPost_ret (v := .tuple #[v, .int .i64 0]) (by simp [results, Tryz.results21, go_sem]) rfl ⟨v, by rw [hv.out], by rw [hE.out]; exact hO.base hsz, hx.then hx3⟩
  · have b0 : (validF f != 0) = true := by simpa using hv
    have hE : Hid (encB f = []) := Lib.hid (by unfold encB; rw [if_neg hv])
    clear hval ho q hby
    go_wp2_with fail
    exact bodyPost_ret (v := .tuple #[.slice none 0 0, .int .i64 (validF f)]) (by simp [results, Tryz.results21, go_sem]) rfl ⟨.slice none 0 0, rfl, by rw [hE.out]; exact .inl ⟨rfl, rfl⟩, hx⟩
theorem decF_any (b : List UInt8) : ((decF b).2 = 0 ∧ validF (decF b).1 = 0 ∧ bytesF (decF b).1 = b) ∨ decF b = (noF, 2) := by
  by_cases h : ∃ f, validF f = 0 ∧ FmI f ∧ bytesF f = b
  · obtain ⟨l, h1, h2, h3⟩ := h
    left
    rw [decF_ok h1 h2 h3]
    exact ⟨rfl, h1, h3⟩
  · right
    exact decF_no fun l h1 h2 h3 => h ⟨l, h1, h2, h3⟩
theorem dec_encF {f : Fm} (hi : FmI f) : (validF f = 0 ∧ decF (bytesF f) = (f, 0)) ∨ (validF f ≠ 0 ∧ decF (bytesF f) = (noF, 2)) := by
  by_cases h : validF f = 0
  · exact .inl ⟨h, decF_ok h hi rfl⟩
  · exact .inr ⟨h, decF_bad h hi⟩
theorem int_bytesF {f : Fm} (hi : FmI f) : (intS (some (bytesF f))).1 = f.op := by
  have h1 : intS (some (bytesF f)) = (f.op, some (encI f.n ++ (encI f.inn.length ++ (f.inn.flatMap itvE ++ (encI f.kids.length ++ bytesFs f.kids))))) := intS_some.2 ⟨bytesF_eq f, hi.node.1⟩
  rw [h1]
set_option maxHeartbeats 400000 in
theorem fewC_c (vs : Value) (xs : List UInt8) (m : Nat) (w : World) (hs : BytesR (ph w) vs xs) (hm : m ≤ 100000000) :
    Calls Tryz.prog 15 #[vs, .int .i64 m] w (FreshB w (xs.take m)) := by
  obtain ⟨a, c, rfl, hl, hs⟩ := hs.form
  have hcl : xs.length ≤ c := by obtain ⟨_, _, e, h1, -⟩ := hs; cases e; exact h1
  have hM := MB.start w
  have hS : Src w noH ByteR 1 (.slice a (min (xs.length : Int) m).toNat c) (xs.take m) := by
    have h := (Src.ofRep (hs.pre (min xs.length m) (by omega)) (PLe.refl _)).noB
    rw [show (min (xs.length : Int) m).toNat = min xs.length m by omega]
    have e : xs.take (min xs.length m) = xs.take m := by
      rcases Nat.le_total xs.length m with h1 | h1
      · rw [Nat.min_eq_left h1, List.take_of_length_le h1, List.take_length]
      · rw [Nat.min_eq_right h1]
    rwa [e] at h
  have hlk : (xs.take m).length ≤ m := by rw [List.length_take]; omega
  go_enter Tryz.func15, Tryz.ntmps15
  go_wp2_with (at_builtin; refine wpList_append_B rfl _ _ 23 rfl Tryz.underlying23 infoByte rfl rfl rfl rfl (hM.keep xE) (hS.keep xE) ?c1 ?c2)
  case c1 => simp only [List.length_nil]; omega
  case c2 =>
    intro v' w2 hM2
    obtain ⟨a', c', rfl, -⟩ := hM2.form
    have hf := Lib.hid hM2.fresh
    clear hM hM2 hS hs
    go_wp2_with fail
    go_ret
    exact hf.out
end Go.Proofs.YtnpnjcaomakehaaGreat
