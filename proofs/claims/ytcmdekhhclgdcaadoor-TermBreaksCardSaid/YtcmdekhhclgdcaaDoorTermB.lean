/- package term: broken, Bare. -/
import Derived.Test.YtcmdekhhclgdcaaDoorRef15
namespace Go.Proofs.YtcmdekhhclgdcaaDoor
open Go.RowKit Go.Shelf
set_option linter.unusedSimpArgs false
set_option linter.unusedVariables false
def IvR (_ : PH) (cs : List Value) (x : Iv) : Prop := cs = [.int .i64 x.1, .int .i64 x.2] ∧ I64 x.1 ∧ I64 x.2
theorem mono_IvR : Mono IvR := fun _ _ _ _ _ h => h
abbrev IvsR : PH → Value → List Iv → Prop := SliceRep IvR 2
theorem IvsR.at {w : World} {a : Option Addr} {n cap : Nat} {xs : List Iv} (hr : IvsR (ph w) (.slice a n cap) xs) (k : Nat) (hk : k < xs.length) :
    ∃ b o, a = some ⟨b, o, none⟩ ∧ w.cell? ⟨b, o + k * 2, none⟩ = some (.int .i64 xs[k].1) ∧ w.cell? ⟨b, o + k * 2 + 1, none⟩ = some (.int .i64 xs[k].2) ∧ b < w.heap.size ∧ I64 xs[k].1 ∧ I64 xs[k].2 := by
  obtain ⟨b, o, c, d, h1, h2, h3, h4, h5⟩ := hr.get2 k hk
  obtain ⟨q1, q2⟩ : c = .int .i64 xs[k].1 ∧ d = .int .i64 xs[k].2 := by simpa using h4
  subst q1 q2
  exact ⟨b, o, h1, h2, h3, cell_lt h2, h5⟩
theorem bare_c (from' months : Int) (w : World) (hV : VL (ph w)) : Calls Tryd.prog 23 #[.agg #[.int .i64 from', .int .i64 months]] w (RetV w (two (addV from' months).1 (addV from' months).2)) := by
  have hac := fun w hV => add_c from' months w hV
  generalize addV from' months = r at *
  obtain ⟨r1, r2⟩ := r
  dsimp only [two] at hac ⊢
  go_enter Tryd.func23, Tryd.ntmps23
  go_wp2_with fail
  refine RetV_at (hac _ (hV.mono (Ext.ple (by repeat (first | (with_reducible assumption) | (with_reducible exact Ext.rfl' _) | (with_reducible exact Ext.new _ _) | (with_reducible refine Ext.alloc' ?_ _) | (with_reducible refine Ext.drew' ?_) | (with_reducible refine Ext.drewN' ?_ _) | (with_reducible refine Ext.set' ?_ ?_ _; rotate_left; (focus (first | omega | (simp; done) | (simp; omega)))) | (with_reducible refine Ext.then (b := ?_) ?_ ?_; rotate_left; rotate_left; (with_reducible assumption))))))) ?_
  intro w2 hx2
  have hx : Ext w w2 := (by repeat (first | (with_reducible assumption) | (with_reducible exact Ext.rfl' _) | (with_reducible exact Ext.new _ _) | (with_reducible refine Ext.alloc' ?_ _) | (with_reducible refine Ext.drew' ?_) | (with_reducible refine Ext.drewN' ?_ _) | (with_reducible refine Ext.set' ?_ ?_ _; rotate_left; (focus (first | omega | (simp; done) | (simp; omega)))) | (with_reducible refine Ext.then (b := ?_) ?_ ?_; rotate_left; rotate_left; (with_reducible assumption))))
  go_wp2_with fail
  go_ret2
  exact ⟨rfl, hx⟩
theorem laps_snoc (l : List Iv) (x : Iv) (a b : Int) : laps (l ++ [x]) a b = laps l a b + lap a b x.1 x.2 := by unfold laps; simp
theorem laps_bd (a b : Int) : ∀ (l : List Iv), (∀ x ∈ l, 0 ≤ x.1 ∧ x.1 ≤ x.2 ∧ x.2 ≤ 131072) → 0 ≤ laps l a b ∧ laps l a b ≤ 131073 * l.length
  | [], _ => by simp [laps]
  | x :: l, h => by
    have h1 := laps_bd a b l (fun y hy => h y (by simp [hy]))
    have h2 := h x (by simp)
    have h3 : laps (x :: l) a b = lap a b x.1 x.2 + laps l a b := by unfold laps; simp
    rw [h3, List.length_cons]
    unfold lap
    omega
set_option maxHeartbeats 1000000 in
theorem broken_c (l : List Iv) (a b : Int) (v : Value) (w : World) (hr : IvsR (ph w) v l) (hl : ∀ x ∈ l, 0 ≤ x.1 ∧ x.1 ≤ x.2 ∧ x.2 ≤ 131072) (hn : l.length ≤ 1000000) (ha : -1000000 ≤ a) (ha' : a ≤ 1000000) (hb : -1000000 ≤ b) (hb' : b ≤ 1000000) :
    Calls Tryd.prog 53 #[v, .int .i64 a, .int .i64 b] w (RetV w (.int .i64 (laps l a b))) := by
  obtain ⟨xa, xc, rfl, xlen, hr⟩ := hr.form
  go_enter Tryd.func53, Tryd.ntmps53
  go_wp2_with fail
  go_loopw [7, 12] (fun c i wr => ∃ k : Nat, k ≤ l.length ∧ i = .int .i64 k ∧ c = .int .i64 (laps (l.take k) a b) ∧ Ext w wr) (fun _ i _ => l.length - (intOf i).toNat)
  case atStart => exact ⟨0, by omega, rfl, by congr 1, Ext.rfl' _⟩
  case round =>
    obtain ⟨k, hk, rfl, rfl, hx⟩ := hrel
    by_cases hlt : k < l.length
    · obtain ⟨gb, go, rfl, g0, g1, gl, i0, i1⟩ := IvsR.at (hr.mono mono_IvR hx.ple) k hlt
      have hc := laps_bd a b (l.take k) (fun x hx => hl x (List.mem_of_mem_take hx))
      have hlen : (l.take k).length ≤ 1000000 := by simp; omega
      have hs : Hid (laps (l.take (k + 1)) a b = laps (l.take k) a b + lap a b l[k].1 l[k].2) := by show _ = _; rw [take_snoc l k hlt, laps_snoc]
      have hb2 := hl l[k] (List.getElem_mem hlt)
      generalize laps (l.take k) a b = c at *
      generalize l[k] = x at *
      obtain ⟨x0, x1⟩ := x
      dsimp only at g0 g1 i0 i1 hb2 hs
      have hlp : Hid (lap a b x0 x1 = max 0 (min b x1 - max a x0 + 1)) := rfl
      unfold I64 at i0 i1
      have hcl : c ≤ 131073000000 := by omega
      obtain ⟨hc0, -⟩ := hc
      obtain ⟨q0, q1, q2⟩ := hb2
      clear i0 i1 hlen
      by_cases h1 : b ≤ x1 <;> by_cases h2 : x0 ≤ a
      all_goals
        go_wp2_with fail
        all_goals
          go_roundw
          case rel => exact ⟨k + 1, by omega, rfl, by congr 1; rw [hs.out, hlp.out]; omega, (by repeat (first | (with_reducible assumption) | (with_reducible exact Ext.rfl' _) | (with_reducible exact Ext.new _ _) | (with_reducible refine Ext.alloc' ?_ _) | (with_reducible refine Ext.drew' ?_) | (with_reducible refine Ext.drewN' ?_ _) | (with_reducible refine Ext.set' ?_ ?_ _; rotate_left; (focus (first | omega | (simp; done) | (simp; omega)))) | (with_reducible refine Ext.then (b := ?_) ?_ ?_; rotate_left; rotate_left; (with_reducible assumption))))⟩
          case measure => simp [intOf]; omega
    · obtain rfl : k = l.length := by omega
      rw [List.take_length]
      generalize laps l a b = z at *
      go_wp2_with fail
      go_ret
      exact ⟨rfl, hx⟩
end Go.Proofs.YtcmdekhhclgdcaaDoor
