/- package calendar: of, and its closures.; package calendar: the closures of of, and open.; package calendar: the closure over acts, and open. -/
import Derived.WideLaws
import Derived.Test.YtcmdekhhclgdcaaGreatDoorCalA
namespace Go.Proofs.YtcmdekhhclgdcaaGreatDoor
open Go.RowKit Go.Shelf
set_option linter.unusedSimpArgs false
set_option linter.unusedVariables false
theorem run_store_fn {P : Program} {w : World} {a : Addr} {m : Mode} (f : Fn) (x y : Array Value) : (store a (.func f x y) m).run P w = stored P w a (.func f x y) m := run_store P w a _ m rfl
attribute [local go_sem] run_store_fn
def wkArr (l : List Int) : Array Value := #[.bool (decide (0 ∈ l)), .bool (decide (1 ∈ l)), .bool (decide (2 ∈ l)), .bool (decide (3 ∈ l)), .bool (decide (4 ∈ l)), .bool (decide (5 ∈ l)), .bool (decide (6 ∈ l))]
theorem wkArr_set (l : List Int) (j : Nat) (h : j ≤ 6) : (wkArr l).setIfInBounds j (.bool true) = wkArr (l ++ [(j : Int)]) := by
  match j, h with
  | 0, _ => simp [wkArr]
  | 1, _ => simp [wkArr]
  | 2, _ => simp [wkArr]
  | 3, _ => simp [wkArr]
  | 4, _ => simp [wkArr]
  | 5, _ => simp [wkArr]
  | 6, _ => simp [wkArr]
theorem wkArr_get (l : List Int) (j : Nat) (h : j ≤ 6) : (wkArr l)[j]? = some (.bool (decide ((j : Int) ∈ l))) := by
  match j, h with
  | 0, _ => rfl
  | 1, _ => rfl
  | 2, _ => rfl
  | 3, _ => rfl
  | 4, _ => rfl
  | 5, _ => rfl
  | 6, _ => rfl
def OfR (h : PH) (v : Value) (ws : List Int) (a b : Value) (office : Int) (va : Value) : Prop :=
  ∃ g3 g4 g5 g7, v = .agg #[.func (.func 89) #[] #[.pointer (some ⟨g7, 0, none⟩)], .func (.func 90) #[] #[.pointer (some ⟨g3, 0, none⟩)], .func (.func 91) #[] #[.pointer (some ⟨g5, 0, none⟩), .pointer (some ⟨g4, 0, none⟩)]] ∧
    (∀ j u, (wkArr ws)[j]? = some u → cellAt h g7 j = some u) ∧ cellAt h g3 0 = some a ∧ cellAt h g3 1 = some b ∧ cellAt h g4 0 = some (.int .i64 office) ∧ cellAt h g5 0 = some va
theorem OfR.mono {h h' : PH} {v : Value} {ws : List Int} {a b : Value} {office : Int} {va : Value} (hr : OfR h v ws a b office va) (hl : PLe h h') : OfR h' v ws a b office va := by
  obtain ⟨g3, g4, g5, g7, h0, h1, h2, h3, h4, h5⟩ := hr
  exact ⟨g3, g4, g5, g7, h0, fun j u hu => cellAt_mono hl (h1 j u hu), cellAt_mono hl h2, cellAt_mono hl h3, cellAt_mono hl h4, cellAt_mono hl h5⟩
set_option maxRecDepth 100000 in
set_option maxHeartbeats 2000000 in
theorem of_c (ws : List Int) (office : Int) (a b va : Value) (w : World) (hW : IntsR (ph w) a ws) (hok : ∀ x ∈ ws, 0 ≤ x ∧ x ≤ 6)
    (hb : ∃ p n c, b = .slice p n c) (hva : ∃ p n c, va = .slice p n c) :
    Calls Tryz.prog 67 #[.agg #[a, b], .int .i64 office, va] w (Ret w fun v w' => OfR (ph w') v ws a b office va) := by
  obtain ⟨wa, wc, rfl, wlen, hW⟩ := hW.form
  obtain ⟨bp, bn, bc, rfl⟩ := hb
  obtain ⟨xp, xn, xc, rfl⟩ := hva
  go_enter Tryz.func67, Tryz.ntmps67
  go_wp2_with fail
  have e0 : Own (((((w.alloc (.cells #[.slice wa ws.length wc, .slice bp bn bc] 71)).alloc (.cells #[.int .i64 office] 3)).alloc (.cells #[.slice xp xn xc] 31)).alloc (.cells #[.nilFunc, .nilFunc, .nilFunc] 121)).alloc (.cells #[.bool false, .bool false, .bool false, .bool false, .bool false, .bool false, .bool false] 147)) w.heap.size #[.slice wa ws.length wc, .slice bp bn bc] 71 := by
    have h : Own (w.alloc (.cells #[.slice wa ws.length wc, .slice bp bn bc] 71)) w.heap.size #[.slice wa ws.length wc, .slice bp bn bc] 71 := Own.new' _ _ _ (by simp)
    exact ((((h.alloc _).alloc _).alloc _).alloc _)
  have e1 : Own (((((w.alloc (.cells #[.slice wa ws.length wc, .slice bp bn bc] 71)).alloc (.cells #[.int .i64 office] 3)).alloc (.cells #[.slice xp xn xc] 31)).alloc (.cells #[.nilFunc, .nilFunc, .nilFunc] 121)).alloc (.cells #[.bool false, .bool false, .bool false, .bool false, .bool false, .bool false, .bool false] 147)) (w.heap.size + 1) #[.int .i64 office] 3 := by
    have h : Own ((w.alloc (.cells #[.slice wa ws.length wc, .slice bp bn bc] 71)).alloc (.cells #[.int .i64 office] 3)) (w.heap.size + 1) #[.int .i64 office] 3 := Own.new' _ _ _ (by simp)
    exact (((h.alloc _).alloc _).alloc _)
  have e2 : Own (((((w.alloc (.cells #[.slice wa ws.length wc, .slice bp bn bc] 71)).alloc (.cells #[.int .i64 office] 3)).alloc (.cells #[.slice xp xn xc] 31)).alloc (.cells #[.nilFunc, .nilFunc, .nilFunc] 121)).alloc (.cells #[.bool false, .bool false, .bool false, .bool false, .bool false, .bool false, .bool false] 147)) (w.heap.size + 1 + 1) #[.slice xp xn xc] 31 := by
    have h : Own (((w.alloc (.cells #[.slice wa ws.length wc, .slice bp bn bc] 71)).alloc (.cells #[.int .i64 office] 3)).alloc (.cells #[.slice xp xn xc] 31)) (w.heap.size + 1 + 1) #[.slice xp xn xc] 31 := Own.new' _ _ _ (by simp)
    exact ((h.alloc _).alloc _)
  have e3 : Own (((((w.alloc (.cells #[.slice wa ws.length wc, .slice bp bn bc] 71)).alloc (.cells #[.int .i64 office] 3)).alloc (.cells #[.slice xp xn xc] 31)).alloc (.cells #[.nilFunc, .nilFunc, .nilFunc] 121)).alloc (.cells #[.bool false, .bool false, .bool false, .bool false, .bool false, .bool false, .bool false] 147)) (w.heap.size + 1 + 1 + 1) #[.nilFunc, .nilFunc, .nilFunc] 121 := by
    have h : Own ((((w.alloc (.cells #[.slice wa ws.length wc, .slice bp bn bc] 71)).alloc (.cells #[.int .i64 office] 3)).alloc (.cells #[.slice xp xn xc] 31)).alloc (.cells #[.nilFunc, .nilFunc, .nilFunc] 121)) (w.heap.size + 1 + 1 + 1) #[.nilFunc, .nilFunc, .nilFunc] 121 := Own.new' _ _ _ (by simp)
    exact (h.alloc _)
  have e4 : Own (((((w.alloc (.cells #[.slice wa ws.length wc, .slice bp bn bc] 71)).alloc (.cells #[.int .i64 office] 3)).alloc (.cells #[.slice xp xn xc] 31)).alloc (.cells #[.nilFunc, .nilFunc, .nilFunc] 121)).alloc (.cells #[.bool false, .bool false, .bool false, .bool false, .bool false, .bool false, .bool false] 147)) (w.heap.size + 1 + 1 + 1 + 1) (wkArr (ws.take 0)) 147 := by
    have h : Own (((((w.alloc (.cells #[.slice wa ws.length wc, .slice bp bn bc] 71)).alloc (.cells #[.int .i64 office] 3)).alloc (.cells #[.slice xp xn xc] 31)).alloc (.cells #[.nilFunc, .nilFunc, .nilFunc] 121)).alloc (.cells #[.bool false, .bool false, .bool false, .bool false, .bool false, .bool false, .bool false] 147)) (w.heap.size + 1 + 1 + 1 + 1) (wkArr (ws.take 0)) 147 := Own.new' _ _ _ (by simp)
    exact h
  have hx : Ext w (((((w.alloc (.cells #[.slice wa ws.length wc, .slice bp bn bc] 71)).alloc (.cells #[.int .i64 office] 3)).alloc (.cells #[.slice xp xn xc] 31)).alloc (.cells #[.nilFunc, .nilFunc, .nilFunc] 121)).alloc (.cells #[.bool false, .bool false, .bool false, .bool false, .bool false, .bool false, .bool false] 147)) := (by repeat (first | (with_reducible assumption) | (with_reducible exact Ext.rfl' _) | (with_reducible exact Ext.new _ _) | (with_reducible refine Ext.alloc' ?_ _) | (with_reducible refine Ext.drew' ?_) | (with_reducible refine Ext.drewN' ?_ _) | (with_reducible refine Ext.set' ?_ ?_ _; rotate_left; (focus (first | omega | (simp; done) | (simp; omega)))) | (with_reducible refine Ext.then (b := ?_) ?_ ?_; rotate_left; rotate_left; (with_reducible assumption))))
  have hsz : w.heap.size + 1 + 1 + 1 + 1 < (((((w.alloc (.cells #[.slice wa ws.length wc, .slice bp bn bc] 71)).alloc (.cells #[.int .i64 office] 3)).alloc (.cells #[.slice xp xn xc] 31)).alloc (.cells #[.nilFunc, .nilFunc, .nilFunc] 121)).alloc (.cells #[.bool false, .bool false, .bool false, .bool false, .bool false, .bool false, .bool false] 147)).heap.size := by simp
  generalize (((((w.alloc (.cells #[.slice wa ws.length wc, .slice bp bn bc] 71)).alloc (.cells #[.int .i64 office] 3)).alloc (.cells #[.slice xp xn xc] 31)).alloc (.cells #[.nilFunc, .nilFunc, .nilFunc] 121)).alloc (.cells #[.bool false, .bool false, .bool false, .bool false, .bool false, .bool false, .bool false] 147)) = W at *
  have hW' := hW.mono mono_IntR hx.ple
  obtain ⟨c0, -⟩ := e0.facts
  go_loopw [13] (fun i wr => ∃ k : Nat, k ≤ ws.length ∧ i = .int .i64 k ∧ Own wr (w.heap.size + 1 + 1 + 1 + 1) (wkArr (ws.take k)) 147 ∧ Below (w.heap.size + 1 + 1 + 1 + 1) W wr) (fun i _ => ws.length - (intOf i).toNat)
  case atStart => exact ⟨0, by omega, rfl, e4, Below.refl _ _⟩
  case round =>
    obtain ⟨k, hk, rfl, e4, hB⟩ := hrel
    by_cases hlt : k < ws.length
    · obtain ⟨gb, go, rfl, gc, gi, gl⟩ := IntsR.at hW k hlt
      have hgc : wr.cell? ⟨gb, go + k, none⟩ = some (.int .i64 ws[k]) := (hB.cell (p := ⟨gb, go + k, none⟩) (by simp; omega)).trans (hx.cell1 gc)
      obtain ⟨q0, q1⟩ := hok ws[k] (List.getElem_mem hlt)
      have hts := take_snoc ws k hlt
      generalize ws[k] = x at *
      obtain ⟨j, rfl⟩ : ∃ j : Nat, x = j := ⟨x.toNat, by omega⟩
      have hj : j ≤ 6 := by omega
      have e5 := e4.set j (.bool true)
      rw [wkArr_set _ _ hj, ← hts] at e5
      have h5 : Below (w.heap.size + 1 + 1 + 1 + 1) W (wr.setCell ⟨w.heap.size + 1 + 1 + 1 + 1, j, none⟩ (.bool true)) := hB.setCell (p := ⟨w.heap.size + 1 + 1 + 1 + 1, j, none⟩) (Nat.le_refl _) _
      obtain ⟨c4, f4⟩ := e4.facts
      have c4j := (c4 j).trans (wkArr_get _ j hj)
      have f4j := f4 j
      clear hts c4 f4
      go_wp2_with fail
      go_roundw
      case rel => exact ⟨k + 1, by omega, rfl, e5, h5⟩
      case measure => simp [intOf]; omega
    · have hkk : k = ws.length := by omega
      subst hkk
      rw [List.take_length] at e4
      have r0 : Own wr w.heap.size #[.slice wa ws.length wc, .slice bp bn bc] 71 := (hB.block _ (by omega)).trans e0
      have r1 : Own wr (w.heap.size + 1) #[.int .i64 office] 3 := (hB.block _ (by omega)).trans e1
      have r2 : Own wr (w.heap.size + 1 + 1) #[.slice xp xn xc] 31 := (hB.block _ (by omega)).trans e2
      have r3 : Own wr (w.heap.size + 1 + 1 + 1) #[.nilFunc, .nilFunc, .nilFunc] 121 := (hB.block _ (by omega)).trans e3
      have hxr : Ext w wr := hx.trans (hB.mono (by omega))
      obtain ⟨c3, f3⟩ := r3.facts
      have c30 : wr.cell? ⟨w.heap.size + 1 + 1 + 1, 0, none⟩ = some .nilFunc := c3 0
      have c31 : wr.cell? ⟨w.heap.size + 1 + 1 + 1, 1, none⟩ = some .nilFunc := c3 1
      have c32 : wr.cell? ⟨w.heap.size + 1 + 1 + 1, 2, none⟩ = some .nilFunc := c3 2
      have f30 := f3 0
      have f31 := f3 1
      have f32 := f3 2
      clear c3 f3 hB e0 e1 e2 e3 c0
      go_wp2_with fail
      have s3 := ((r3.set 0 (.func (.func 89) #[] #[.pointer (some ⟨w.heap.size + 1 + 1 + 1 + 1, 0, none⟩)])).set 1 (.func (.func 90) #[] #[.pointer (some ⟨w.heap.size, 0, none⟩)])).set 2 (.func (.func 91) #[] #[.pointer (some ⟨w.heap.size + 1 + 1, 0, none⟩), .pointer (some ⟨w.heap.size + 1, 0, none⟩)])
      have s0 := ((r0.setOther (p := ⟨w.heap.size + 1 + 1 + 1, 0, none⟩) (by dsimp only; omega) (.func (.func 89) #[] #[.pointer (some ⟨w.heap.size + 1 + 1 + 1 + 1, 0, none⟩)])).setOther (p := ⟨w.heap.size + 1 + 1 + 1, 1, none⟩) (by dsimp only; omega) (.func (.func 90) #[] #[.pointer (some ⟨w.heap.size, 0, none⟩)])).setOther (p := ⟨w.heap.size + 1 + 1 + 1, 2, none⟩) (by dsimp only; omega) (.func (.func 91) #[] #[.pointer (some ⟨w.heap.size + 1 + 1, 0, none⟩), .pointer (some ⟨w.heap.size + 1, 0, none⟩)])
      have s1 := ((r1.setOther (p := ⟨w.heap.size + 1 + 1 + 1, 0, none⟩) (by dsimp only; omega) (.func (.func 89) #[] #[.pointer (some ⟨w.heap.size + 1 + 1 + 1 + 1, 0, none⟩)])).setOther (p := ⟨w.heap.size + 1 + 1 + 1, 1, none⟩) (by dsimp only; omega) (.func (.func 90) #[] #[.pointer (some ⟨w.heap.size, 0, none⟩)])).setOther (p := ⟨w.heap.size + 1 + 1 + 1, 2, none⟩) (by dsimp only; omega) (.func (.func 91) #[] #[.pointer (some ⟨w.heap.size + 1 + 1, 0, none⟩), .pointer (some ⟨w.heap.size + 1, 0, none⟩)])
      have s2 := ((r2.setOther (p := ⟨w.heap.size + 1 + 1 + 1, 0, none⟩) (by dsimp only; omega) (.func (.func 89) #[] #[.pointer (some ⟨w.heap.size + 1 + 1 + 1 + 1, 0, none⟩)])).setOther (p := ⟨w.heap.size + 1 + 1 + 1, 1, none⟩) (by dsimp only; omega) (.func (.func 90) #[] #[.pointer (some ⟨w.heap.size, 0, none⟩)])).setOther (p := ⟨w.heap.size + 1 + 1 + 1, 2, none⟩) (by dsimp only; omega) (.func (.func 91) #[] #[.pointer (some ⟨w.heap.size + 1 + 1, 0, none⟩), .pointer (some ⟨w.heap.size + 1, 0, none⟩)])
      have s4 := ((e4.setOther (p := ⟨w.heap.size + 1 + 1 + 1, 0, none⟩) (by dsimp only; omega) (.func (.func 89) #[] #[.pointer (some ⟨w.heap.size + 1 + 1 + 1 + 1, 0, none⟩)])).setOther (p := ⟨w.heap.size + 1 + 1 + 1, 1, none⟩) (by dsimp only; omega) (.func (.func 90) #[] #[.pointer (some ⟨w.heap.size, 0, none⟩)])).setOther (p := ⟨w.heap.size + 1 + 1 + 1, 2, none⟩) (by dsimp only; omega) (.func (.func 91) #[] #[.pointer (some ⟨w.heap.size + 1 + 1, 0, none⟩), .pointer (some ⟨w.heap.size + 1, 0, none⟩)])
      have sx : Ext w (((wr.setCell ⟨w.heap.size + 1 + 1 + 1, 0, none⟩ (.func (.func 89) #[] #[.pointer (some ⟨w.heap.size + 1 + 1 + 1 + 1, 0, none⟩)])).setCell ⟨w.heap.size + 1 + 1 + 1, 1, none⟩ (.func (.func 90) #[] #[.pointer (some ⟨w.heap.size, 0, none⟩)])).setCell ⟨w.heap.size + 1 + 1 + 1, 2, none⟩ (.func (.func 91) #[] #[.pointer (some ⟨w.heap.size + 1 + 1, 0, none⟩), .pointer (some ⟨w.heap.size + 1, 0, none⟩)])) := ((hxr.setCell (p := ⟨w.heap.size + 1 + 1 + 1, 0, none⟩) (by simp; omega) _).setCell (p := ⟨w.heap.size + 1 + 1 + 1, 1, none⟩) (by simp; omega) _).setCell (p := ⟨w.heap.size + 1 + 1 + 1, 2, none⟩) (by simp; omega) _
      generalize (((wr.setCell ⟨w.heap.size + 1 + 1 + 1, 0, none⟩ (.func (.func 89) #[] #[.pointer (some ⟨w.heap.size + 1 + 1 + 1 + 1, 0, none⟩)])).setCell ⟨w.heap.size + 1 + 1 + 1, 1, none⟩ (.func (.func 90) #[] #[.pointer (some ⟨w.heap.size, 0, none⟩)])).setCell ⟨w.heap.size + 1 + 1 + 1, 2, none⟩ (.func (.func 91) #[] #[.pointer (some ⟨w.heap.size + 1 + 1, 0, none⟩), .pointer (some ⟨w.heap.size + 1, 0, none⟩)])) = V at *
      obtain ⟨d3, -⟩ := s3.facts
      refine bodyPost_ret (v := .agg #[.func (.func 89) #[] #[.pointer (some ⟨w.heap.size + 1 + 1 + 1 + 1, 0, none⟩)], .func (.func 90) #[] #[.pointer (some ⟨w.heap.size, 0, none⟩)], .func (.func 91) #[] #[.pointer (some ⟨w.heap.size + 1 + 1, 0, none⟩), .pointer (some ⟨w.heap.size + 1, 0, none⟩)]]) ?_ rfl ?_
      · have q0 := d3 0
        have q1 := d3 1
        have q2 := d3 2
        simp at q0 q1 q2
        simp [results, Tryz.results67, go_sem, q0, q1, q2]
      refine ⟨_, rfl, sx, ?_⟩
      refine ⟨w.heap.size, w.heap.size + 1, w.heap.size + 1 + 1, w.heap.size + 1 + 1 + 1 + 1, rfl, ?_, ?_, ?_, ?_, ?_⟩
      · intro j u hu
        rw [← cell_ph]; exact (s4.facts.1 j).trans hu
      · rw [← cell_ph]; exact s0.facts.1 0
      · rw [← cell_ph]; exact s0.facts.1 1
      · rw [← cell_ph]; exact s1.facts.1 0
      · rw [← cell_ph]; exact s2.facts.1 0
end Go.Proofs.YtcmdekhhclgdcaaGreatDoor
namespace Go.Proofs.YtcmdekhhclgdcaaGreatDoor
open Go.RowKit Go.Shelf
set_option linter.unusedSimpArgs false
set_option linter.unusedVariables false
theorem wk_c (ws : List Int) (n : Int) (g : Nat) (w : World) (h0 : 0 ≤ n) (h1 : n ≤ 6) (hc : ∀ j u, (wkArr ws)[j]? = some u → cellAt (ph w) g j = some u) :
    Calls Tryz.prog 89 #[.int .i64 n, .pointer (some ⟨g, 0, none⟩)] w (RetP w (.bool (decide (n ∈ ws)))) := by
  obtain ⟨j, rfl⟩ : ∃ j : Nat, n = j := ⟨n.toNat, by omega⟩
  have hj : j ≤ 6 := by omega
  have h := hc j _ (wkArr_get ws j hj)
  rw [← cell_ph] at h
  clear hc
  go_enter Tryz.func89, Tryz.ntmps89
  go_wp2_with fail
  go_ret
  exact ⟨rfl, rfl⟩
def hitB (d : Dat) (h : Dat) : Bool := h.2.1 == d.2.1 && h.2.2 == d.2.2
set_option maxHeartbeats 1000000 in
theorem dateIn_c (hs : List Dat) (d : Dat) (g : Nat) (b : Value) (w : World) (hc : cellAt (ph w) g 1 = some b) (hH : DatesR (ph w) b hs) :
    Calls Tryz.prog 90 #[datA d, .pointer (some ⟨g, 0, none⟩)] w (RetV w (.bool (hs.any (hitB d)))) := by
  obtain ⟨d0, d1, d2⟩ := d
  obtain ⟨ha, hcp, rfl, hlen, hH⟩ := hH.form
  rw [← cell_ph] at hc
  have hgl := cell_lt hc
  have hO := Own.new w #[.int .i64 d0, .int .i64 d1, .int .i64 d2] 81
  have hx := Ext.new w (.cells #[.int .i64 d0, .int .i64 d1, .int .i64 d2] 81)
  go_enter Tryz.func90, Tryz.ntmps90
  go_wp2_with fail
  generalize w.alloc _ = W at *
  have hc' := hx.cell1 hc
  have hH' := hH.mono mono_DateR hx.ple
  go_loopw [9] (fun i wr => ∃ k : Nat, k ≤ hs.length ∧ i = .int .i64 k ∧ Hid (∀ x ∈ hs.take k, hitB (d0, d1, d2) x = false) ∧ Ext W wr) (fun i _ => hs.length - (intOf i).toNat)
  case atStart => exact ⟨0, by omega, rfl, Lib.hid (by simp), Ext.rfl' _⟩
  case round =>
    obtain ⟨k, hk, rfl, hno, hxr⟩ := hrel
    by_cases hlt : k < hs.length
    · obtain ⟨gb, go, rfl, gc0, gc1, gc2, gl, -, -, -⟩ := DatesR.at (hH'.mono mono_DateR hxr.ple) k hlt
      have hO1 := hO.keep hxr
      obtain ⟨oc, of⟩ := hO1.facts
      have hyes : hitB (d0, d1, d2) hs[k] = true → hs.any (hitB (d0, d1, d2)) = true := fun h => List.any_eq_true.2 ⟨_, List.getElem_mem hlt, h⟩
      have hno' : hitB (d0, d1, d2) hs[k] = false → Hid (∀ x ∈ hs.take (k + 1), hitB (d0, d1, d2) x = false) := fun h => Lib.hid (take_all (p := fun x => hitB (d0, d1, d2) x = false) hlt h hno.out)
      generalize hs[k] = x at *
      obtain ⟨y, m, e⟩ := x
      dsimp only at gc0 gc1 gc2
      have ol := hO1.lt
      by_cases hm : m = d1
      · have bm : (m == d1) = true := by rw [beq_iff_eq]; exact hm
        by_cases he : e = d2
        · have hr := Lib.hid (hyes (by simp [hitB, hm, he]))
          have be : (e == d2) = true := by rw [beq_iff_eq]; exact he
          clear hyes hno' hno hm he
          go_wp2_with fail
          go_ret
          exact ⟨ret_bool hr.out.symm, (by repeat (first | (with_reducible assumption) | (with_reducible exact Ext.rfl' _) | (with_reducible exact Ext.new _ _) | (with_reducible refine Ext.alloc' ?_ _) | (with_reducible refine Ext.drew' ?_) | (with_reducible refine Ext.drewN' ?_ _) | (with_reducible refine Ext.set' ?_ ?_ _; rotate_left; (focus (first | omega | (simp; done) | (simp; omega)))) | (with_reducible refine Ext.then (b := ?_) ?_ ?_; rotate_left; rotate_left; (with_reducible assumption))))⟩
        · have hr := hno' (by simp [hitB, hm, he])
          have be : (e == d2) = false := by rw [beq_eq_false_iff_ne]; exact he
          clear hyes hno' hno hm he
          go_wp2_with fail
          go_roundw
          case rel => exact ⟨k + 1, by omega, rfl, hr, (by repeat (first | (with_reducible assumption) | (with_reducible exact Ext.rfl' _) | (with_reducible exact Ext.new _ _) | (with_reducible refine Ext.alloc' ?_ _) | (with_reducible refine Ext.drew' ?_) | (with_reducible refine Ext.drewN' ?_ _) | (with_reducible refine Ext.set' ?_ ?_ _; rotate_left; (focus (first | omega | (simp; done) | (simp; omega)))) | (with_reducible refine Ext.then (b := ?_) ?_ ?_; rotate_left; rotate_left; (with_reducible assumption))))⟩
          case measure => simp [intOf]; omega
      · have hr := hno' (by simp [hitB, hm])
        have bm : (m == d1) = false := by rw [beq_eq_false_iff_ne]; exact hm
        clear hyes hno' hno hm
        go_wp2_with fail
        go_roundw
        case rel => exact ⟨k + 1, by omega, rfl, hr, (by repeat (first | (with_reducible assumption) | (with_reducible exact Ext.rfl' _) | (with_reducible exact Ext.new _ _) | (with_reducible refine Ext.alloc' ?_ _) | (with_reducible refine Ext.drew' ?_) | (with_reducible refine Ext.drewN' ?_ _) | (with_reducible refine Ext.set' ?_ ?_ _; rotate_left; (focus (first | omega | (simp; done) | (simp; omega)))) | (with_reducible refine Ext.then (b := ?_) ?_ ?_; rotate_left; rotate_left; (with_reducible assumption))))⟩
        case measure => simp [intOf]; omega
    · have hr : Hid (hs.any (hitB (d0, d1, d2)) = false) := by
        show _ = _
        rw [List.any_eq_false]
        intro x hx
        have := take_done (p := fun x => hitB (d0, d1, d2) x = false) (by omega) hno.out x hx
        simp [this]
      clear hno
      go_wp2_with fail
      go_ret
      exact ⟨ret_bool hr.out.symm, hx.then hxr⟩
end Go.Proofs.YtcmdekhhclgdcaaGreatDoor
namespace Go.Proofs.YtcmdekhhclgdcaaGreatDoor
open Go.RowKit Go.Shelf
set_option linter.unusedSimpArgs false
set_option linter.unusedVariables false
def shutB (office day : Int) (a : Ac) : Bool := a.kind == 20 && a.office == office && inB day a.day a.number
set_option maxRecDepth 100000 in
set_option maxHeartbeats 1000000 in
theorem dayIn_c (xs : List Ac) (office day : Int) (g5 g4 : Nat) (va : Value) (w : World) (hc5 : cellAt (ph w) g5 0 = some va) (hc4 : cellAt (ph w) g4 0 = some (.int .i64 office)) (hA : ActsR (ph w) va xs) :
    Calls Tryz.prog 91 #[.int .i64 day, .pointer (some ⟨g5, 0, none⟩), .pointer (some ⟨g4, 0, none⟩)] w (RetV w (.bool (xs.any (shutB office day)))) := by
  obtain ⟨xa, xc, rfl, xlen, hA⟩ := hA.form
  rw [← cell_ph] at hc5 hc4
  have hg5 := cell_lt hc5
  have hg4 := cell_lt hc4
  go_enter Tryz.func91, Tryz.ntmps91
  go_wp2_with fail
  go_loopw [9] (fun i wr => ∃ k : Nat, k ≤ xs.length ∧ i = .int .i64 k ∧ Hid (∀ x ∈ xs.take k, shutB office day x = false) ∧ Ext w wr) (fun i _ => xs.length - (intOf i).toNat)
  case atStart => exact ⟨0, by omega, rfl, Lib.hid (by simp), Ext.rfl' _⟩
  case round =>
    obtain ⟨k, hk, rfl, hno, hxr⟩ := hrel
    have hc5' := hxr.cell1 hc5
    have hc4' := hxr.cell1 hc4
    have hg4' := cell_lt hc4'
    by_cases hlt : k < xs.length
    · obtain ⟨gb, go, rfl, gc, gl, -⟩ := ActsR.row (hA.mono mono_ActR hxr.ple) k hlt
      have hyes : shutB office day xs[k] = true → xs.any (shutB office day) = true := fun h => List.any_eq_true.2 ⟨_, List.getElem_mem hlt, h⟩
      have hno' : shutB office day xs[k] = false → Hid (∀ x ∈ xs.take (k + 1), shutB office day x = false) := fun h => Lib.hid (take_all (p := fun x => shutB office day x = false) hlt h hno.out)
      generalize xs[k] = x at *
      obtain ⟨fc, -⟩ := (Own.new wr (actC x).toArray 67).facts
      have fx := Ext.new wr (.cells (actC x).toArray 67)
      have hc5n := fx.cell1 hc5'
      have hc4n := fx.cell1 hc4'
      have q0 : _ = some (Value.int .i64 x.kind) := fc 0
      have q1 : _ = some (Value.int .i64 x.day) := fc 1
      have q4 : _ = some (Value.int .i64 x.office) := fc 4
      have q7 : _ = some (Value.int .i64 x.number) := fc 7
      clear fc hno
      by_cases h1 : x.kind = 20
      · have b1 : (x.kind == 20) = true := by rw [beq_iff_eq]; exact h1
        by_cases h2 : x.office = office
        · have b2 : (x.office == office) = true := by rw [beq_iff_eq]; exact h2
          cases h3 : inB day x.day x.number with
          | true =>
            have hr := Lib.hid (hyes (by unfold shutB; rw [b1, b2, h3]; rfl))
            clear hyes hno' h1 h2
            go_wp2_with (first | (refine wpList_load_mid rfl 67 _ rfl _ _ rfl (actC _) _ gc Tryz.underlying67 rfl (by kernel_rfl) ?_) | (refine wpList_store_new rfl 67 _ _ rfl (actC _).toArray rfl rfl 67 _ (by kernel_rfl) rfl (one_act _) ?_))
            refine RetP_at (calIn_c day x.day x.number _) ?_
            rw [h3]
            go_wp2_with fail
            go_ret
            exact ⟨ret_bool hr.out.symm, (by repeat (first | (with_reducible assumption) | (with_reducible exact Ext.rfl' _) | (with_reducible exact Ext.new _ _) | (with_reducible refine Ext.alloc' ?_ _) | (with_reducible refine Ext.drew' ?_) | (with_reducible refine Ext.drewN' ?_ _) | (with_reducible refine Ext.set' ?_ ?_ _; rotate_left; (focus (first | omega | (simp; done) | (simp; omega)))) | (with_reducible refine Ext.then (b := ?_) ?_ ?_; rotate_left; rotate_left; (with_reducible assumption))))⟩
          | false =>
            have hr := hno' (by unfold shutB; rw [h3]; simp)
            clear hyes hno' h1 h2
            go_wp2_with (first | (refine wpList_load_mid rfl 67 _ rfl _ _ rfl (actC _) _ gc Tryz.underlying67 rfl (by kernel_rfl) ?_) | (refine wpList_store_new rfl 67 _ _ rfl (actC _).toArray rfl rfl 67 _ (by kernel_rfl) rfl (one_act _) ?_))
            refine RetP_at (calIn_c day x.day x.number _) ?_
            rw [h3]
            go_wp2_with fail
            go_roundw
            case rel => exact ⟨k + 1, by omega, rfl, hr, (by repeat (first | (with_reducible assumption) | (with_reducible exact Ext.rfl' _) | (with_reducible exact Ext.new _ _) | (with_reducible refine Ext.alloc' ?_ _) | (with_reducible refine Ext.drew' ?_) | (with_reducible refine Ext.drewN' ?_ _) | (with_reducible refine Ext.set' ?_ ?_ _; rotate_left; (focus (first | omega | (simp; done) | (simp; omega)))) | (with_reducible refine Ext.then (b := ?_) ?_ ?_; rotate_left; rotate_left; (with_reducible assumption))))⟩
            case measure => simp [intOf]; omega
        · have b2 : (x.office == office) = false := by rw [beq_eq_false_iff_ne]; exact h2
          have hr := hno' (by unfold shutB; rw [b2]; simp)
          clear hyes hno' h1 h2
          go_wp2_with (first | (refine wpList_load_mid rfl 67 _ rfl _ _ rfl (actC _) _ gc Tryz.underlying67 rfl (by kernel_rfl) ?_) | (refine wpList_store_new rfl 67 _ _ rfl (actC _).toArray rfl rfl 67 _ (by kernel_rfl) rfl (one_act _) ?_))
          go_roundw
          case rel => exact ⟨k + 1, by omega, rfl, hr, (by repeat (first | (with_reducible assumption) | (with_reducible exact Ext.rfl' _) | (with_reducible exact Ext.new _ _) | (with_reducible refine Ext.alloc' ?_ _) | (with_reducible refine Ext.drew' ?_) | (with_reducible refine Ext.drewN' ?_ _) | (with_reducible refine Ext.set' ?_ ?_ _; rotate_left; (focus (first | omega | (simp; done) | (simp; omega)))) | (with_reducible refine Ext.then (b := ?_) ?_ ?_; rotate_left; rotate_left; (with_reducible assumption))))⟩
          case measure => simp [intOf]; omega
      · have b1 : (x.kind == 20) = false := by rw [beq_eq_false_iff_ne]; exact h1
        have hr := hno' (by unfold shutB; rw [b1]; simp)
        clear hyes hno' h1
        go_wp2_with (first | (refine wpList_load_mid rfl 67 _ rfl _ _ rfl (actC _) _ gc Tryz.underlying67 rfl (by kernel_rfl) ?_) | (refine wpList_store_new rfl 67 _ _ rfl (actC _).toArray rfl rfl 67 _ (by kernel_rfl) rfl (one_act _) ?_))
        go_roundw
        case rel => exact ⟨k + 1, by omega, rfl, hr, (by repeat (first | (with_reducible assumption) | (with_reducible exact Ext.rfl' _) | (with_reducible exact Ext.new _ _) | (with_reducible refine Ext.alloc' ?_ _) | (with_reducible refine Ext.drew' ?_) | (with_reducible refine Ext.drewN' ?_ _) | (with_reducible refine Ext.set' ?_ ?_ _; rotate_left; (focus (first | omega | (simp; done) | (simp; omega)))) | (with_reducible refine Ext.then (b := ?_) ?_ ?_; rotate_left; rotate_left; (with_reducible assumption))))⟩
        case measure => simp [intOf]; omega
    · have hr : Hid (xs.any (shutB office day) = false) := by
        show _ = _
        rw [List.any_eq_false]
        intro x hx
        have := take_done (p := fun x => shutB office day x = false) (by omega) hno.out x hx
        simp [this]
      clear hno
      go_wp2_with fail
      go_ret
      exact ⟨ret_bool hr.out.symm, hxr⟩
end Go.Proofs.YtcmdekhhclgdcaaGreatDoor
