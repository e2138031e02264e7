/- the library's searches at formulas; the iterators over formulas: what a round keeps. -/
import Derived.TacticsInMore
import Derived.WalkMore
import Derived.Test.YtcbmgajaaechjaaGreatForm
import Derived.Test.YtcbmgajaaechjaaGreatRets
import Derived.Test.YtcbmgajaaechjaaGreatMemA
namespace Go.Proofs.YtcbmgajaaechjaaGreat
open Go.RowKit Go.Shelf
set_option linter.unusedSimpArgs false
set_option linter.unusedVariables false
attribute [local go_sem] Oper.semAt_some
theorem FmsR.atH {H : PH} {w : World} {a : Option Addr} {n cap : Nat} {xs : List Fm} (hr : FmsR H (.slice a n cap) xs) (hl : PLe H (ph w)) (k : Nat) (hk : k < xs.length) :
    ∃ b o a3 c3 a4 c4, a = some ⟨b, o, none⟩ ∧ w.cell? ⟨b, o + k * 4, none⟩ = some (.int .i64 xs[k].op) ∧ w.cell? ⟨b, o + k * 4 + 1, none⟩ = some (.int .i64 xs[k].n) ∧
      w.cell? ⟨b, o + k * 4 + 2, none⟩ = some (.slice a3 xs[k].inn.length c3) ∧ w.cell? ⟨b, o + k * 4 + 3, none⟩ = some (.slice a4 xs[k].kids.length c4) ∧
      FmR H (fmC xs[k] a3 c3 a4 c4) xs[k] ∧ b < w.heap.size := by
  obtain ⟨b, o, cs, h1, h2, h3, h4⟩ := hr.get k hk
  obtain ⟨a3, c3, a4, c4, rfl, -⟩ := h4.form
  have h : ∀ j, j < 4 → w.cell? ⟨b, o + k * 4 + j, none⟩ = some ((fmC xs[k] a3 c3 a4 c4).getD j undef) := fun j hj => by rw [cell_ph]; exact cellAt_mono hl (h3 j hj)
  exact ⟨b, o, a3, c3, a4, c4, h1, h 0 (by omega), h 1 (by omega), h 2 (by omega), h 3 (by omega), h4, cell_lt (h 0 (by omega))⟩
/-- slices.IndexFunc at formulas, by a state: R k before element k -/
theorem indexFunc_J {H : PH} (fid : Nat) (cap : Array Value) (vs : Value) (xs : List Fm) (hv : FmsR H vs xs) (R : Nat → World → Prop) (Rx : World → Prop) (w : World)
    (hfn : ∀ args w, (callFunc fid args).run Tryz.prog w = .ok (.enter fid args) w)
    (hf : ∀ k (h : k < xs.length) wr cs, R k wr → FmR H cs xs[k] → Calls Tryz.prog fid (#[.agg cs.toArray] ++ cap) wr fun e w' => (e = .returned (.bool false) ∧ R (k + 1) w') ∨ (e = .returned (.bool true) ∧ Rx w'))
    (hr : ∀ k wr, R k wr → PLe H (ph wr)) (h0 : R 0 w) :
    Calls Tryz.prog 103 #[vs, .func (.func fid) #[] cap] w fun e w' => (e = .returned (.int .i64 (-1)) ∧ R xs.length w') ∨ (∃ i : Int, 0 ≤ i ∧ e = .returned (.int .i64 i) ∧ Rx w') := by
  obtain ⟨a, c, rfl, hlen, hv⟩ := hv.form
  have HF := Lib.hid hf; clear hf
  have HR := Lib.hid hr; clear hr
  go_enter Tryz.func103, Tryz.ntmps103
  go_wp2
  go_loopw [8] (fun i wr => ∃ k : Nat, k ≤ xs.length ∧ i = .int .i64 k ∧ R k wr) (fun i _ => xs.length - (intOf i).toNat)
  case atStart => exact ⟨0, Nat.zero_le _, rfl, h0⟩
  case round =>
    obtain ⟨k, hk, rfl, hR⟩ := hrel
    by_cases hlt : k < xs.length
    · obtain ⟨b, o, b3, d3, b4, d4, rfl, g0, g1, g2, g3, hE, hbl⟩ := FmsR.atH hv (HR.out _ _ hR) k hlt
      unfold fmC at hE
      go_wp2_with fail
      refine (HF.out k hlt _ _ hR hE).mono ?_
      rintro e w1 (⟨rfl, h1⟩ | ⟨rfl, h1⟩)
      · go_wp2_with fail
        go_roundw
        case rel => exact ⟨k + 1, by omega, by go_num, h1⟩
        case measure => simp [intOf]; omega
      · go_wp2_with fail
        go_ret
        exact .inr ⟨_, by omega, rfl, h1⟩
    · obtain rfl : k = xs.length := by omega
      go_wp2_with fail
      go_ret
      exact .inl ⟨rfl, hR⟩
theorem containsFunc_J {H : PH} (fid : Nat) (cap : Array Value) (vs : Value) (xs : List Fm) (hv : FmsR H vs xs) (R : Nat → World → Prop) (Rx : World → Prop) (w : World)
    (hfn : ∀ args w, (callFunc fid args).run Tryz.prog w = .ok (.enter fid args) w)
    (hf : ∀ k (h : k < xs.length) wr cs, R k wr → FmR H cs xs[k] → Calls Tryz.prog fid (#[.agg cs.toArray] ++ cap) wr fun e w' => (e = .returned (.bool false) ∧ R (k + 1) w') ∨ (e = .returned (.bool true) ∧ Rx w'))
    (hr : ∀ k wr, R k wr → PLe H (ph wr)) (h0 : R 0 w) :
    Calls Tryz.prog 67 #[vs, .func (.func fid) #[] cap] w fun e w' => (e = .returned (.bool false) ∧ R xs.length w') ∨ (e = .returned (.bool true) ∧ Rx w') := by
  have HF := Lib.hid hf; clear hf
  have HR := Lib.hid hr; clear hr
  have HFN := Lib.hid hfn; clear hfn
  go_enter Tryz.func67, Tryz.ntmps67
  go_wp2_with fail
  refine (indexFunc_J fid cap vs xs hv R Rx _ HFN.out HF.out HR.out h0).mono ?_
  rintro e w1 (⟨rfl, h1⟩ | ⟨i, hi, rfl, h1⟩)
  · go_wp2_with fail
    go_ret
    exact .inl ⟨rfl, h1⟩
  · go_wp2_with fail
    go_ret
    exact .inr ⟨rfl, h1⟩
/-! what a round keeps: the body's own box Bo and the row that it leads to may turn -/
def XB (Bo : Nat) (W : World) (b : Nat) : Prop := b = Bo ∨ ∃ j v, W.cell? ⟨Bo, j, none⟩ = some v ∧ v.ownBlock = some b
def Good (Bo : Nat) (W : World) : Prop := Bo < W.heap.size ∧ ∀ b, XB Bo W b → b < W.heap.size
def Kx (n₀ Bo : Nat) (W W' : World) : Prop := Below n₀ W W' ∧ W.heap.size ≤ W'.heap.size ∧ (∀ b c T, Own W b c T → ¬XB Bo W b → Own W' b c T) ∧ ∀ b, XB Bo W' b → XB Bo W b ∨ (W.heap.size ≤ b ∧ b < W'.heap.size)
section
variable {n₀ Bo : Nat} {A B C W W' : World}
theorem Kx.rfl' (n₀ Bo : Nat) (W : World) : Kx n₀ Bo W W := ⟨Below.refl _ _, Nat.le_refl _, fun _ _ _ h _ => h, fun _ h => .inl h⟩
theorem Kx.then (h : Kx n₀ Bo A B) (k : Kx n₀ Bo B C) : Kx n₀ Bo A C := by
  refine ⟨h.1.trans k.1, Nat.le_trans h.2.1 k.2.1, fun b c T hb hx => ?_, fun b hb => ?_⟩
  · have hlt := hb.lt
    refine k.2.2.1 b c T (h.2.2.1 b c T hb hx) fun hx' => ?_
    rcases h.2.2.2 b hx' with h1 | h1
    · exact hx h1
    · omega
  · have := h.2.1; have := k.2.1
    rcases k.2.2.2 b hb with h1 | h1
    · rcases h.2.2.2 b h1 with h2 | h2
      · exact .inl h2
      · exact .inr (by omega)
    · exact .inr (by omega)
theorem Good.kx (h : Good Bo W) (k : Kx n₀ Bo W W') : Good Bo W' := by
  refine ⟨Nat.lt_of_lt_of_le h.1 k.2.1, fun b hb => ?_⟩
  rcases k.2.2.2 b hb with h1 | h1
  · exact Nat.lt_of_lt_of_le (h.2 b h1) k.2.1
  · exact h1.2
theorem XB.ext (h : Ext W W') (hB : Bo < W.heap.size) {b : Nat} : XB Bo W' b ↔ XB Bo W b := by
  unfold XB
  have e : ∀ j, W'.cell? ⟨Bo, j, none⟩ = W.cell? ⟨Bo, j, none⟩ := fun j => h.cells.1 Bo j hB
  simp only [e]
theorem Kx.ext (h : Ext W W') (hB : Bo < W.heap.size) (hn : n₀ ≤ W.heap.size) : Kx n₀ Bo W W' :=
  ⟨h.mono hn, h.size, fun b c T ho _ => ho.keep h, fun b hb => .inl ((XB.ext h hB).1 hb)⟩
/-- a block that a round leaves alone -/
def Held (Bo : Nat) (W : World) (b : Nat) (c : Array Value) (T : TypeId) : Prop := Own W b c T ∧ ¬XB Bo W b
theorem Held.kx {b : Nat} {c : Array Value} {T : TypeId} (h : Held Bo W b c T) (k : Kx n₀ Bo W W') : Held Bo W' b c T := by
  refine ⟨k.2.2.1 b c T h.1 h.2, fun hx => ?_⟩
  have hlt := h.1.lt
  rcases k.2.2.2 b hx with h1 | h1
  · exact h.2 h1
  · omega
theorem Held.new (hg : Good Bo W) {b : Nat} {c : Array Value} {T : TypeId} (e : Ext W W') (hb : W.heap.size ≤ b) (ho : Own W' b c T) : Held Bo W' b c T := by
  refine ⟨ho, fun hx => ?_⟩
  have := hg.2 b ((XB.ext e hg.1).1 hx)
  omega
theorem Good.ext (h : Good Bo W) (e : Ext W W') : Good Bo W' := h.kx (Kx.ext (n₀ := 0) e h.1 (Nat.zero_le _))
theorem Kx.put {w : World} (hn : n₀ ≤ w.heap.size) (hB : Bo < w.heap.size) (W : World) (l : Nat) (o o' : Obj) (hl : w.heap.size ≤ l) (h : W.heap[l]? = some o) (h1 : o.isCells = false) (h2 : o.isWalk = false) : Kx n₀ Bo W (W.putObj l o') := by
  have hb := belowK_b (w := w) (n₀ := w.heap.size) (Nat.le_refl _) W l o o' hl h h1 h2
  have e : ∀ j, (W.putObj l o').cell? ⟨Bo, j, none⟩ = W.cell? ⟨Bo, j, none⟩ := fun j => hb.cell (p := ⟨Bo, j, none⟩) hB
  refine ⟨hb.mono hn, hb.size, fun b c T ho _ => ?_, fun b hx => .inl ?_⟩
  · unfold Own at *
    have hne : b ≠ l := by rintro rfl; rw [h] at ho; cases ho; cases h1
    rw [World.putObj_heap_other hne]; exact ho
  · unfold XB at *
    simpa only [e] using hx
end
/-- a formula together with the cells that it lies in -/
abbrev FmA (H : PH) := { p : List Value × Fm // FmR H p.1 p.2 }
def FmA.f {H : PH} (x : FmA H) : Fm := x.1.2
def fmsOf {H : PH} (l : List (FmA H)) : List Fm := l.map FmA.f
theorem fmsOf_app {H : PH} (l m : List (FmA H)) : fmsOf (l ++ m) = fmsOf l ++ fmsOf m := List.map_append
theorem fmsOf_len {H : PH} (l : List (FmA H)) : (fmsOf l).length = l.length := List.length_map _
theorem FmR.four {h : PH} {cs : List Value} {f : Fm} (hr : FmR h cs f) : ∃ a b c d, cs = [a, b, c, d] := by
  obtain ⟨a3, c3, a4, c4, rfl, -⟩ := hr.form
  exact ⟨_, _, _, _, rfl⟩
/-- what an iterator that yields all of l returns -/
def ItP {H : PH} (tot : List Fm) (pre : List (FmA H)) (l : List Fm) (J Jx : List (FmA H) → World → Prop) (n₀ Bo : Nat) (W : World) (e : Ending) (W' : World) : Prop :=
  (e = .returned (.bool true) ∧ ∃ ys, fmsOf ys = l ∧ J (pre ++ ys) W' ∧ Kx n₀ Bo W W') ∨ (e = .returned (.bool false) ∧ ∃ p, fmsOf p <+: tot ∧ Jx p W')
/-- yields to the body, as the iterators need them -/
def YieldOk {H : PH} (n l N n₀ Bo : Nat) (J Jx : List (FmA H) → World → Prop) : Prop :=
  ∀ pre x W, J pre W → pre.length < N → YieldAt Fence.wide (n - 1) Tryz.prog l #[.agg x.1.1.toArray] W fun e W' =>
      (e = .returned (.bool true) ∧ J (pre ++ [x]) W' ∧ Kx n₀ Bo W W') ∨ (e = .returned (.bool false) ∧ Jx (pre ++ [x]) W')
end Go.Proofs.YtcbmgajaaechjaaGreat
