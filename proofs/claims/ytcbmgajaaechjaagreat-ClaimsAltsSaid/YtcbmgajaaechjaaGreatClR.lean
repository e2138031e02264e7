/- Claims in memory; references, Valid and check of package claims and of the reference. -/
import Derived.Test.YtcbmgajaaechjaaGreatClL
import Derived.Test.YtcbmgajaaechjaaGreatFmW
import Derived.Test.YtcbmgajaaechjaaGreatFmV
namespace Go.Proofs.YtcbmgajaaechjaaGreat
open Go.RowKit
set_option linter.unusedSimpArgs false
set_option linter.unusedVariables false
def ClR (h : PH) (cs : List Value) (c : Cl) : Prop := ∃ v fs, cs = v :: fs ∧ IntsR h v c.refs ∧ FmR h fs c.body
abbrev ClsR : PH → Value → List Cl → Prop := SliceRep ClR 5
theorem mono_ClR : Mono ClR := by
  rintro h h' cs x hl ⟨v, fs, rfl, h1, h2⟩
  exact ⟨v, fs, rfl, h1.mono mono_IntR hl, mono_FmR _ _ _ _ hl h2⟩
def clC (c : Cl) (a1 : Option Addr) (c1 : Nat) (a3 : Option Addr) (c3 : Nat) (a4 : Option Addr) (c4 : Nat) : List Value :=
  [.slice a1 c.refs.length c1, .int .i64 c.body.op, .int .i64 c.body.n, .slice a3 c.body.inn.length c3, .slice a4 c.body.kids.length c4]
theorem ClR.form {h : PH} {cs : List Value} {c : Cl} (hr : ClR h cs c) : ∃ a1 c1 a3 c3 a4 c4, cs = clC c a1 c1 a3 c3 a4 c4 ∧ c.refs.length ≤ 9223372036854775807 ∧ IntsR h (.slice a1 c.refs.length c1) c.refs ∧ FmR h (fmC c.body a3 c3 a4 c4) c.body := by
  obtain ⟨v, fs, rfl, h1, h2⟩ := hr
  obtain ⟨a1, c1, rfl, b1, h1⟩ := h1.form
  have h2' := h2
  obtain ⟨a3, c3, a4, c4, rfl, -⟩ := h2.form
  exact ⟨a1, c1, a3, c3, a4, c4, rfl, b1, h1, h2'⟩
theorem ClR.of {h : PH} {c : Cl} {a1 : Option Addr} {c1 : Nat} {a3 : Option Addr} {c3 : Nat} {a4 : Option Addr} {c4 : Nat} (h1 : IntsR h (.slice a1 c.refs.length c1) c.refs) (h2 : FmR h (fmC c.body a3 c3 a4 c4) c.body) : ClR h (clC c a1 c1 a3 c3 a4 c4) c := ⟨_, _, rfl, h1, h2⟩
theorem ClsR.at {w : World} {a : Option Addr} {n cap : Nat} {xs : List Cl} (hr : ClsR (ph w) (.slice a n cap) xs) (k : Nat) (hk : k < xs.length) :
    ∃ b o a1 c1 a3 c3 a4 c4, a = some ⟨b, o, none⟩ ∧ w.cell? ⟨b, o + k * 5, none⟩ = some (.slice a1 xs[k].refs.length c1) ∧ w.cell? ⟨b, o + k * 5 + 1, none⟩ = some (.int .i64 xs[k].body.op) ∧ w.cell? ⟨b, o + k * 5 + 2, none⟩ = some (.int .i64 xs[k].body.n) ∧
      w.cell? ⟨b, o + k * 5 + 3, none⟩ = some (.slice a3 xs[k].body.inn.length c3) ∧ w.cell? ⟨b, o + k * 5 + 4, none⟩ = some (.slice a4 xs[k].body.kids.length c4) ∧ b < w.heap.size ∧
      xs[k].refs.length ≤ 9223372036854775807 ∧ IntsR (ph w) (.slice a1 xs[k].refs.length c1) xs[k].refs ∧ FmR (ph w) (fmC xs[k].body a3 c3 a4 c4) xs[k].body := by
  obtain ⟨b, o, cs, h1, h2, h3, h4⟩ := hr.get k hk
  obtain ⟨a1, c1, a3, c3, a4, c4, rfl, b1, i1, i2⟩ := h4.form
  have h : ∀ j, j < 5 → w.cell? ⟨b, o + k * 5 + j, none⟩ = some ((clC xs[k] a1 c1 a3 c3 a4 c4).getD j undef) := fun j hj => by rw [cell_ph]; exact h3 j hj
  exact ⟨b, o, a1, c1, a3, c3, a4, c4, h1, h 0 (by omega), h 1 (by omega), h 2 (by omega), h 3 (by omega), h 4 (by omega), cell_lt (h 0 (by omega)), b1, i1, i2⟩
theorem ClsR.atH {H : PH} {w : World} {a : Option Addr} {n cap : Nat} {xs : List Cl} (hr : ClsR H (.slice a n cap) xs) (hl : PLe H (ph w)) (k : Nat) (hk : k < xs.length) :
    ∃ b o a1 c1 a3 c3 a4 c4, a = some ⟨b, o, none⟩ ∧ w.cell? ⟨b, o + k * 5, none⟩ = some (.slice a1 xs[k].refs.length c1) ∧ w.cell? ⟨b, o + k * 5 + 1, none⟩ = some (.int .i64 xs[k].body.op) ∧ w.cell? ⟨b, o + k * 5 + 2, none⟩ = some (.int .i64 xs[k].body.n) ∧
      w.cell? ⟨b, o + k * 5 + 3, none⟩ = some (.slice a3 xs[k].body.inn.length c3) ∧ w.cell? ⟨b, o + k * 5 + 4, none⟩ = some (.slice a4 xs[k].body.kids.length c4) ∧ b < w.heap.size ∧
      xs[k].refs.length ≤ 9223372036854775807 ∧ IntsR H (.slice a1 xs[k].refs.length c1) xs[k].refs ∧ FmR H (fmC xs[k].body a3 c3 a4 c4) xs[k].body := by
  obtain ⟨b, o, cs, h1, h2, h3, h4⟩ := hr.get k hk
  obtain ⟨a1, c1, a3, c3, a4, c4, rfl, b1, i1, i2⟩ := h4.form
  have h : ∀ j, j < 5 → w.cell? ⟨b, o + k * 5 + j, none⟩ = some ((clC xs[k] a1 c1 a3 c3 a4 c4).getD j undef) := fun j hj => by rw [cell_ph]; exact cellAt_mono hl (h3 j hj)
  exact ⟨b, o, a1, c1, a3, c3, a4, c4, h1, h 0 (by omega), h 1 (by omega), h 2 (by omega), h 3 (by omega), h 4 (by omega), cell_lt (h 0 (by omega)), b1, i1, i2⟩
theorem refsB_take {i : Int} : ∀ {l : List Int} {last : Int} (k : Nat) (h : k < l.length), refsB i last l = true → last < l[k] ∧ l[k] < i
  | [], _, k, h, _ => by simp at h
  | x :: xs, last, 0, _, h => by simp [refsB] at h; exact h.1
  | x :: xs, last, k + 1, h, hb => by
    simp [refsB] at hb
    have := refsB_take k (by simpa using h) hb.2
    simp; omega
/-- what is left of the references, the last one that was seen -/
def lastR (l : List Int) : Nat → Int
  | 0 => -1
  | k + 1 => l.getD k (-1)
theorem refsB_drop {i : Int} {l : List Int} {k : Nat} (h : k < l.length) : refsB i (lastR l k) (l.drop k) = (decide (lastR l k < l[k]) && decide (l[k] < i) && refsB i (lastR l (k + 1)) (l.drop (k + 1))) := by
  rw [List.drop_eq_getElem_cons h, refsB]
  simp [lastR, h]
theorem refs_c (v : Value) (l : List Int) (i : Nat) (w : World) (hr : IntsR (ph w) v l) (hi : i ≤ 1000000) : Calls Tryz.prog 94 #[v, .int .i64 i] w (RetV w (.bool (refsB i (-1) l))) := by
  obtain ⟨a, c, rfl, hlen, hr⟩ := hr.form
  go_enter Tryz.func94, Tryz.ntmps94
  go_wp2_with fail
  go_loopw [5, 10] (fun la j wr => ∃ k : Nat, k ≤ l.length ∧ j = .int .i64 k ∧ la = .int .i64 (lastR l k) ∧ Hid (refsB i (-1) l = refsB i (lastR l k) (l.drop k)) ∧ Ext w wr) (fun _ j _ => l.length - (intOf j).toNat)
  case atStart => exact ⟨0, Nat.zero_le _, rfl, rfl, Lib.hid rfl, (by repeat (first | (with_reducible assumption) | (with_reducible exact Ext.rfl' _) | (with_reducible exact Ext.new _ _) | (with_reducible refine Ext.alloc' ?_ _) | (with_reducible refine Ext.drew' ?_) | (with_reducible refine Ext.drewN' ?_ _) | (with_reducible refine Ext.set' ?_ ?_ _; rotate_left; (focus (first | omega | (simp; done) | (simp; omega)))) | (with_reducible refine Ext.then (b := ?_) ?_ ?_; rotate_left; rotate_left; (with_reducible assumption))))⟩
  case round =>
    obtain ⟨k, hk, rfl, rfl, hi', hb⟩ := hrel
    by_cases hlt : k < l.length
    · have hp' := hr.mono mono_IntR hb.ple
      obtain ⟨b, o, rfl, h0, i0, hbl⟩ := IntsR.at hp' k hlt
      have hd := Lib.hid (refsB_drop (i := i) hlt)
      have hs : Hid (lastR l (k + 1) = l[k]) := by show _ = _; simp [lastR, hlt]
      generalize l[k] = x at *
      generalize lastR l k = y at *
      by_cases h1 : y < x
      · by_cases h2 : x < i
        · have b1 : decide (x ≤ y) = false := by simpa using h1
          have b2 : decide ((i : Int) ≤ x) = false := by simpa using h2
          have hn : Hid (refsB i (-1) l = refsB i (lastR l (k + 1)) (l.drop (k + 1))) := by show _ = _; rw [hi'.out, hd.out]; simp [h1, h2]
          clear hp' hr hd hi'
          go_wp2_with fail
          go_roundw
          case rel => exact ⟨k + 1, by omega, by go_num, by rw [hs.out], hn, (by repeat (first | (with_reducible assumption) | (with_reducible exact Ext.rfl' _) | (with_reducible exact Ext.new _ _) | (with_reducible refine Ext.alloc' ?_ _) | (with_reducible refine Ext.drew' ?_) | (with_reducible refine Ext.drewN' ?_ _) | (with_reducible refine Ext.set' ?_ ?_ _; rotate_left; (focus (first | omega | (simp; done) | (simp; omega)))) | (with_reducible refine Ext.then (b := ?_) ?_ ?_; rotate_left; rotate_left; (with_reducible assumption))))⟩
          case measure => simp [intOf]; omega
        · have b1 : decide (x ≤ y) = false := by simpa using h1
          have b2 : decide ((i : Int) ≤ x) = true := by simpa using h2
          have hn : Hid (refsB i (-1) l = false) := by show _ = _; rw [hi'.out, hd.out]; simp [h2]
          clear hp' hr hd hi'
          go_wp2_with fail
          go_ret
          exact ⟨ret_bool hn.out.symm, (by repeat (first | (with_reducible assumption) | (with_reducible exact Ext.rfl' _) | (with_reducible exact Ext.new _ _) | (with_reducible refine Ext.alloc' ?_ _) | (with_reducible refine Ext.drew' ?_) | (with_reducible refine Ext.drewN' ?_ _) | (with_reducible refine Ext.set' ?_ ?_ _; rotate_left; (focus (first | omega | (simp; done) | (simp; omega)))) | (with_reducible refine Ext.then (b := ?_) ?_ ?_; rotate_left; rotate_left; (with_reducible assumption))))⟩
      · have b1 : decide (x ≤ y) = true := by simpa using h1
        have hn : Hid (refsB i (-1) l = false) := by show _ = _; rw [hi'.out, hd.out]; simp [h1]
        clear hp' hr hd hi'
        go_wp2_with fail
        go_ret
        exact ⟨ret_bool hn.out.symm, (by repeat (first | (with_reducible assumption) | (with_reducible exact Ext.rfl' _) | (with_reducible exact Ext.new _ _) | (with_reducible refine Ext.alloc' ?_ _) | (with_reducible refine Ext.drew' ?_) | (with_reducible refine Ext.drewN' ?_ _) | (with_reducible refine Ext.set' ?_ ?_ _; rotate_left; (focus (first | omega | (simp; done) | (simp; omega)))) | (with_reducible refine Ext.then (b := ?_) ?_ ?_; rotate_left; rotate_left; (with_reducible assumption))))⟩
    · have hn : Hid (refsB i (-1) l = true) := by show _ = _; rw [hi'.out, List.drop_eq_nil_of_le (by omega)]; rfl
      clear hr hi'
      go_wp2_with fail
      go_ret
      exact ⟨ret_bool hn.out.symm, (by repeat (first | (with_reducible assumption) | (with_reducible exact Ext.rfl' _) | (with_reducible exact Ext.new _ _) | (with_reducible refine Ext.alloc' ?_ _) | (with_reducible refine Ext.drew' ?_) | (with_reducible refine Ext.drewN' ?_ _) | (with_reducible refine Ext.set' ?_ ?_ _; rotate_left; (focus (first | omega | (simp; done) | (simp; omega)))) | (with_reducible refine Ext.then (b := ?_) ?_ ?_; rotate_left; rotate_left; (with_reducible assumption))))⟩
/-- the reference's condition at reference k -/
def refAt (i : Int) (l : List Int) (k : Nat) : Bool := match l[k]? with
  | none => true
  | some x => decide (lastR l k < x) && decide (x < i)
end Go.Proofs.YtcbmgajaaechjaaGreat
