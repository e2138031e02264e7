/- package calendar: in, later; the values of calendars. -/
import Derived.Test.YtcmdekhhclgdcaaDoorRef13D
namespace Go.Proofs.YtcmdekhhclgdcaaDoor
open Go.RowKit Go.Shelf
set_option linter.unusedSimpArgs false
set_option linter.unusedVariables false
abbrev Dat := Int × Int × Int
abbrev datC (d : Dat) : List Value := [.int .i64 d.1, .int .i64 d.2.1, .int .i64 d.2.2]
abbrev datA (d : Dat) : Value := .agg #[.int .i64 d.1, .int .i64 d.2.1, .int .i64 d.2.2]
def DateR (_ : PH) (cs : List Value) (d : Dat) : Prop := cs = datC d ∧ I64 d.1 ∧ I64 d.2.1 ∧ I64 d.2.2
theorem mono_DateR : Mono DateR := fun _ _ _ _ _ h => h
abbrev DatesR : PH → Value → List Dat → Prop := SliceRep DateR 3
theorem DatesR.at {w : World} {a : Option Addr} {n cap : Nat} {xs : List Dat} (hr : DatesR (ph w) (.slice a n cap) xs) (k : Nat) (hk : k < xs.length) :
    ∃ b o, a = some ⟨b, o, none⟩ ∧ w.cell? ⟨b, o + k * 3, none⟩ = some (.int .i64 xs[k].1) ∧ w.cell? ⟨b, o + k * 3 + 1, none⟩ = some (.int .i64 xs[k].2.1) ∧ w.cell? ⟨b, o + k * 3 + 2, none⟩ = some (.int .i64 xs[k].2.2) ∧
      b < w.heap.size ∧ I64 xs[k].1 ∧ I64 xs[k].2.1 ∧ I64 xs[k].2.2 := by
  obtain ⟨b, o, c, d, e, h1, h2, h3, h4, h5, h6⟩ := hr.get3 k hk
  obtain ⟨q1, q2, q3⟩ : c = .int .i64 xs[k].1 ∧ d = .int .i64 xs[k].2.1 ∧ e = .int .i64 xs[k].2.2 := by simpa [datC] using h5
  subst q1 q2 q3
  exact ⟨b, o, h1, h2, h3, h4, cell_lt h2, h6⟩
abbrev Cal := List Int × List Dat
def CalR (h : PH) (v : Value) (c : Cal) : Prop := ∃ a b, v = .agg #[a, b] ∧ IntsR h a c.1 ∧ DatesR h b c.2
theorem CalR.mono {h h' : PH} {v : Value} {c : Cal} (hr : CalR h v c) (hl : PLe h h') : CalR h' v c := by
  obtain ⟨a, b, h1, h2, h3⟩ := hr
  exact ⟨a, b, h1, h2.mono mono_IntR hl, h3.mono mono_DateR hl⟩
theorem calIn_c (n lo hi : Int) (w : World) : Calls Tryd.prog 73 #[.int .i64 n, .int .i64 lo, .int .i64 hi] w (RetP w (.bool (inB n lo hi))) := by
  by_cases h1 : lo ≤ n
  · by_cases h2 : n ≤ hi
    · have h := inB_t ⟨h1, h2⟩
      rw [h]; clear h
      go_enter Tryd.func73, Tryd.ntmps73
      go_wp2_with fail
      go_ret
      exact ⟨rfl, rfl⟩
    · have h : inB n lo hi = false := inB_f (by omega)
      rw [h]; clear h
      go_enter Tryd.func73, Tryd.ntmps73
      go_wp2_with fail
      go_ret
      exact ⟨rfl, rfl⟩
  · have h : inB n lo hi = false := inB_f (by omega)
    rw [h]; clear h
    have hd : decide (lo ≤ n) = false := by simpa using h1
    go_enter Tryd.func73, Tryd.ntmps73
    go_wp2_with fail
    go_ret
    exact ⟨rfl, rfl⟩
def laterB (a b : Dat) : Bool := decide (b.2.1 < a.2.1) || (a.2.1 == b.2.1 && decide (b.2.2 < a.2.2))
theorem later_c (a b : Dat) (w : World) : Calls Tryd.prog 97 #[datA a, datA b] w (RetV w (.bool (laterB a b))) := by
  obtain ⟨a0, a1, a2⟩ := a
  obtain ⟨b0, b1, b2⟩ := b
  have hx : Ext w ((w.alloc (.cells #[.int .i64 a0, .int .i64 a1, .int .i64 a2] 94)).alloc (.cells #[.int .i64 b0, .int .i64 b1, .int .i64 b2] 94)) := (by repeat (first | (with_reducible assumption) | (with_reducible exact Ext.rfl' _) | (with_reducible exact Ext.new _ _) | (with_reducible refine Ext.alloc' ?_ _) | (with_reducible refine Ext.drew' ?_) | (with_reducible refine Ext.drewN' ?_ _) | (with_reducible refine Ext.set' ?_ ?_ _; rotate_left; (focus (first | omega | (simp; done) | (simp; omega)))) | (with_reducible refine Ext.then (b := ?_) ?_ ?_; rotate_left; rotate_left; (with_reducible assumption))))
  by_cases h1 : b1 < a1
  · have h : Hid (laterB (a0, a1, a2) (b0, b1, b2) = true) := by show _ = _; unfold laterB; simp [h1]
    go_enter Tryd.func97, Tryd.ntmps97
    go_wp2_with fail
    go_ret
    exact ⟨ret_bool h.out.symm, hx⟩
  · by_cases h2 : a1 = b1
    · subst h2
      have h : Hid (laterB (a0, a1, a2) (b0, a1, b2) = decide (b2 < a2)) := by show _ = _; unfold laterB; simp
      go_enter Tryd.func97, Tryd.ntmps97
      go_wp2_with fail
      go_ret
      exact ⟨ret_bool h.out.symm, hx⟩
    · have h : Hid (laterB (a0, a1, a2) (b0, b1, b2) = false) := by show _ = _; unfold laterB; simp [h1, h2]
      have hb : (a1 == b1) = false := by rw [beq_eq_false_iff_ne]; exact h2
      have hd : decide (b1 < a1) = false := by simpa using h1
      clear h2
      go_enter Tryd.func97, Tryd.ntmps97
      go_wp2_with fail
      go_ret
      exact ⟨ret_bool h.out.symm, hx⟩
end Go.Proofs.YtcmdekhhclgdcaaDoor
