/- wire.Read. -/
import Derived.Test.YtebhdjeognpljaaReadList
namespace Go.Proofs.Ytebhdjeognpljaa
open Go.RowKit
set_option linter.unusedSimpArgs false
set_option linter.unusedVariables false
theorem Src.noB {w : World} {H : PH} {v : Value} {xs : List UInt8} (h : Src w H ByteR 1 v xs) : Src w noH ByteR 1 v xs := by
  obtain ⟨a, cap, h1, h2, h3⟩ := h
  refine ⟨a, cap, h1, h2, ?_⟩
  rcases h3 with h3 | ⟨ad, c, h4, h5, h6⟩
  · exact .inl h3
  · exact .inr ⟨ad, c, h4, Cells.mono (h := H) (h' := noH) (fun _ _ h => h) h5, h6⟩
theorem rread_c (vs : Value) (xs : List UInt8) (w : World) (hs : BytesR (ph w) vs xs) (hlen : xs.length ≤ 2000000000) :
    Calls Try.prog 30 #[vs] w fun e w' => ∃ H g, e = .returned (.pointer (some ⟨g, 0, none⟩)) ∧ w.heap.size ≤ g ∧ Rd H w' g (some xs) ∧ Ext w w' := by
  obtain ⟨a, c, rfl, -, hs⟩ := hs.form
  go_enter Try.func30, Try.ntmps30
  go_wp2_with fail
  refine (clone_c _ xs _ (Src.ofRep hs (PLe.refl _)).noB hlen).mono ?_
  rintro e w1 ⟨v, rfl, hS, hb1⟩
  have hB := hS.rep mono_ByteR (noH_le _)
  obtain ⟨a1, c1, rfl, hll⟩ := hS.form
  clear hS
  go_wp2_with fail
  go_ret
  refine ⟨ph w1, w1.heap.size, rfl, hb1.size, ⟨a1, xs.length, c1, 0, xs, Own.new _ _ _, hB, fun k o hk => ?_, .inl ⟨rfl, rfl⟩⟩, (by repeat (first | (with_reducible assumption) | (with_reducible exact Ext.rfl' _) | (with_reducible exact Ext.new _ _) | (with_reducible refine Ext.alloc' ?_ _) | (with_reducible refine Ext.drew' ?_) | (with_reducible refine Ext.drewN' ?_ _) | (with_reducible refine Ext.set' ?_ ?_ _; rotate_left; (focus (first | omega | (simp; done) | (simp; omega)))) | (with_reducible refine Ext.then (b := ?_) ?_ ?_; rotate_left; rotate_left; (with_reducible assumption))))⟩
  have hlt := ph_lt hk
  unfold phX
  rw [if_neg (by omega)]
  show (w1.alloc _).heap[k]? = _
  rw [(Ext.new w1 _).block k hlt]; exact hk
end Go.Proofs.Ytebhdjeognpljaa
