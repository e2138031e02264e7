/- Valid and check of package claims and of the reference. -/
import Derived.Test.YtcbmgajaaechjaaGreatClR2
namespace Go.Proofs.YtcbmgajaaechjaaGreat
open Go.RowKit
set_option linter.unusedSimpArgs false
set_option linter.unusedVariables false
theorem clErrs_drop {l : List Cl} {k : Nat} (h : k < l.length) : clErrs k (l.drop k) = if clErr l[k] k ≠ 0 then clErr l[k] k else clErrs (k + 1) (l.drop (k + 1)) := by
  rw [List.drop_eq_getElem_cons h, clErrs]
set_option maxHeartbeats 1000000 in
theorem cvalid_c (v : Value) (l : List Cl) (w : World) (hr : ClsR (ph w) v l) (hs : ∀ c ∈ l, c.body.bulk ≤ 900000) : Calls Tryz.prog 59 #[v] w (RetV w (.int .i64 (validC l))) := by
  obtain ⟨a, c, rfl, hlen, hr⟩ := hr.form
  by_cases hL : 32 < l.length
  · have hv : Hid (validC l = 4) := by show _ = _; unfold validC; rw [if_pos hL]
    have b1 : decide (32 < (l.length : Int)) = true := by simp; omega
    go_enter Tryz.func59, Tryz.ntmps59
    go_wp2_with fail
    go_ret
    exact ⟨ret_int hv.out.symm, (by repeat (first | (with_reducible assumption) | (with_reducible exact Ext.rfl' _) | (with_reducible exact Ext.new _ _) | (with_reducible refine Ext.alloc' ?_ _) | (with_reducible refine Ext.drew' ?_) | (with_reducible refine Ext.drewN' ?_ _) | (with_reducible refine Ext.set' ?_ ?_ _; rotate_left; (focus (first | omega | (simp; done) | (simp; omega)))) | (with_reducible refine Ext.then (b := ?_) ?_ ?_; rotate_left; rotate_left; (with_reducible assumption))))⟩
  have b1 : decide (32 < (l.length : Int)) = false := by simp; omega
  have hv : Hid (validC l = clErrs 0 l) := by show _ = _; unfold validC; rw [if_neg hL]
  go_enter Tryz.func59, Tryz.ntmps59
  go_wp2_with fail
  go_loopw [11] (fun i wr => ∃ k : Nat, k ≤ l.length ∧ i = .int .i64 k ∧ Hid (validC l = clErrs k (l.drop k)) ∧ Ext w wr) (fun i _ => l.length - (intOf i).toNat)
  case atStart => exact ⟨0, Nat.zero_le _, rfl, Lib.hid hv.out, (by repeat (first | (with_reducible assumption) | (with_reducible exact Ext.rfl' _) | (with_reducible exact Ext.new _ _) | (with_reducible refine Ext.alloc' ?_ _) | (with_reducible refine Ext.drew' ?_) | (with_reducible refine Ext.drewN' ?_ _) | (with_reducible refine Ext.set' ?_ ?_ _; rotate_left; (focus (first | omega | (simp; done) | (simp; omega)))) | (with_reducible refine Ext.then (b := ?_) ?_ ?_; rotate_left; rotate_left; (with_reducible assumption))))⟩
  case round =>
    obtain ⟨k, hk, rfl, hi', hb⟩ := hrel
    by_cases hlt : k < l.length
    · have hp' := hr.mono mono_ClR hb.ple
      obtain ⟨b, o, a1, c1, a3, c3, a4, c4, rfl, h0, h1, h2, h3, h4, hbl, hrl, hri, hE⟩ := ClsR.at hp' k hlt
      have hbk := hs _ (List.getElem_mem hlt)
      have hd := Lib.hid (clErrs_drop hlt)
      generalize l[k] = x at *
      unfold fmC at hE
      clear hp' hr
      by_cases h8 : 8 < x.refs.length
      · have b2 : decide (8 < (x.refs.length : Int)) = true := by simp; omega
        have hn : Hid (validC l = 4) := by show _ = _; rw [hi'.out, hd.out]; unfold clErr; rw [if_pos h8]; rfl
        go_wp2_with fail
        go_ret
        exact ⟨ret_int hn.out.symm, (by repeat (first | (with_reducible assumption) | (with_reducible exact Ext.rfl' _) | (with_reducible exact Ext.new _ _) | (with_reducible refine Ext.alloc' ?_ _) | (with_reducible refine Ext.drew' ?_) | (with_reducible refine Ext.drewN' ?_ _) | (with_reducible refine Ext.set' ?_ ?_ _; rotate_left; (focus (first | omega | (simp; done) | (simp; omega)))) | (with_reducible refine Ext.then (b := ?_) ?_ ?_; rotate_left; rotate_left; (with_reducible assumption))))⟩
      have b2 : decide (8 < (x.refs.length : Int)) = false := by simp; omega
      go_wp2_with fail
      refine RetV_at (refs_c _ x.refs k _ (hri.mono mono_IntR (Ext.ple (by repeat (first | (with_reducible assumption) | (with_reducible exact Ext.rfl' _) | (with_reducible exact Ext.new _ _) | (with_reducible refine Ext.alloc' ?_ _) | (with_reducible refine Ext.drew' ?_) | (with_reducible refine Ext.drewN' ?_ _) | (with_reducible refine Ext.set' ?_ ?_ _; rotate_left; (focus (first | omega | (simp; done) | (simp; omega)))) | (with_reducible refine Ext.then (b := ?_) ?_ ?_; rotate_left; rotate_left; (with_reducible assumption)))))) (by omega)) ?_
      intro w1 hx1
      have ho : Own w1 wr.heap.size #[.slice a1 x.refs.length c1, .int .i64 x.body.op, .int .i64 x.body.n, .slice a3 x.body.inn.length c3, .slice a4 x.body.kids.length c4] 49 := (by repeat (first | (with_reducible assumption) | (with_reducible exact Own.new _ _ _) | (with_reducible refine Own.new' _ _ _ ?_; (focus (simp; done))) | (with_reducible refine Own.alloc ?_ _) | (with_reducible refine Own.drew ?_) | (with_reducible refine Own.drewN ?_ _) | (with_reducible refine Own.keep (w := ?_) ?_ ?_; rotate_left; (with_reducible assumption); (exact (by repeat (first | (with_reducible assumption) | (with_reducible exact Ext.rfl' _) | (with_reducible exact Ext.new _ _) | (with_reducible refine Ext.alloc' ?_ _) | (with_reducible refine Ext.drew' ?_) | (with_reducible refine Ext.drewN' ?_ _) | (with_reducible refine Ext.set' ?_ ?_ _; rotate_left; (focus (first | omega | (simp; done) | (simp; omega)))) | (with_reducible refine Ext.then (b := ?_) ?_ ?_; rotate_left; rotate_left; (with_reducible assumption)))))) | (with_reducible refine Own.keep (w := ?_) ?_ ?_; rotate_left; rotate_left; (with_reducible assumption))))
      obtain ⟨hoc, hof⟩ := ho.facts
      have hx : Ext wr w1 := (by repeat (first | (with_reducible assumption) | (with_reducible exact Ext.rfl' _) | (with_reducible exact Ext.new _ _) | (with_reducible refine Ext.alloc' ?_ _) | (with_reducible refine Ext.drew' ?_) | (with_reducible refine Ext.drewN' ?_ _) | (with_reducible refine Ext.set' ?_ ?_ _; rotate_left; (focus (first | omega | (simp; done) | (simp; omega)))) | (with_reducible refine Ext.then (b := ?_) ?_ ?_; rotate_left; rotate_left; (with_reducible assumption))))
      cases hR : refsB k (-1) x.refs with
      | false =>
        have hn : Hid (validC l = 1) := by show _ = _; rw [hi'.out, hd.out]; unfold clErr; rw [if_neg h8, hR]; rfl
        clear hR
        go_wp2_with fail
        go_ret
        exact ⟨ret_int hn.out.symm, (by repeat (first | (with_reducible assumption) | (with_reducible exact Ext.rfl' _) | (with_reducible exact Ext.new _ _) | (with_reducible refine Ext.alloc' ?_ _) | (with_reducible refine Ext.drew' ?_) | (with_reducible refine Ext.drewN' ?_ _) | (with_reducible refine Ext.set' ?_ ?_ _; rotate_left; (focus (first | omega | (simp; done) | (simp; omega)))) | (with_reducible refine Ext.then (b := ?_) ?_ ?_; rotate_left; rotate_left; (with_reducible assumption))))⟩
      | true =>
        have hc : Hid (clErr x k = validF x.body) := by show _ = _; unfold clErr; rw [if_neg h8, hR]; rfl
        clear hR
        go_wp2_with fail
        refine RetV_at (fvalid_c x.body _ _ (mono_FmR _ _ _ _ (Ext.ple (by repeat (first | (with_reducible assumption) | (with_reducible exact Ext.rfl' _) | (with_reducible exact Ext.new _ _) | (with_reducible refine Ext.alloc' ?_ _) | (with_reducible refine Ext.drew' ?_) | (with_reducible refine Ext.drewN' ?_ _) | (with_reducible refine Ext.set' ?_ ?_ _; rotate_left; (focus (first | omega | (simp; done) | (simp; omega)))) | (with_reducible refine Ext.then (b := ?_) ?_ ?_; rotate_left; rotate_left; (with_reducible assumption))))) hE) hbk) ?_
        intro w2 hx2
        have hn : Hid (validC l = if validF x.body ≠ 0 then validF x.body else clErrs (k + 1) (l.drop (k + 1))) := by show _ = _; rw [hi'.out, hd.out, hc.out]
        generalize validF x.body = e at *
        by_cases he : e = 0
        · subst he
          have hn2 : Hid (validC l = clErrs (k + 1) (l.drop (k + 1))) := by show _ = _; rw [hn.out]; rfl
          go_wp2_with fail
          go_roundw
          case rel => exact ⟨k + 1, by omega, by go_num, hn2, (by repeat (first | (with_reducible assumption) | (with_reducible exact Ext.rfl' _) | (with_reducible exact Ext.new _ _) | (with_reducible refine Ext.alloc' ?_ _) | (with_reducible refine Ext.drew' ?_) | (with_reducible refine Ext.drewN' ?_ _) | (with_reducible refine Ext.set' ?_ ?_ _; rotate_left; (focus (first | omega | (simp; done) | (simp; omega)))) | (with_reducible refine Ext.then (b := ?_) ?_ ?_; rotate_left; rotate_left; (with_reducible assumption))))⟩
          case measure => simp [intOf]; omega
        · have hn2 : Hid (validC l = e) := by show _ = _; rw [hn.out, if_pos he]
          have b3 : (e == 0) = false := by simpa using he
          have b4 : (e != 0) = true := by simpa using he
          go_wp2_with fail
          go_ret
          exact ⟨ret_int hn2.out.symm, (by repeat (first | (with_reducible assumption) | (with_reducible exact Ext.rfl' _) | (with_reducible exact Ext.new _ _) | (with_reducible refine Ext.alloc' ?_ _) | (with_reducible refine Ext.drew' ?_) | (with_reducible refine Ext.drewN' ?_ _) | (with_reducible refine Ext.set' ?_ ?_ _; rotate_left; (focus (first | omega | (simp; done) | (simp; omega)))) | (with_reducible refine Ext.then (b := ?_) ?_ ?_; rotate_left; rotate_left; (with_reducible assumption))))⟩
    · have hn : Hid (validC l = 0) := by show _ = _; rw [hi'.out, List.drop_eq_nil_of_le (by omega)]; rfl
      clear hr hi'
      go_wp2_with fail
      go_ret
      exact ⟨ret_int hn.out.symm, (by repeat (first | (with_reducible assumption) | (with_reducible exact Ext.rfl' _) | (with_reducible exact Ext.new _ _) | (with_reducible refine Ext.alloc' ?_ _) | (with_reducible refine Ext.drew' ?_) | (with_reducible refine Ext.drewN' ?_ _) | (with_reducible refine Ext.set' ?_ ?_ _; rotate_left; (focus (first | omega | (simp; done) | (simp; omega)))) | (with_reducible refine Ext.then (b := ?_) ?_ ?_; rotate_left; rotate_left; (with_reducible assumption))))⟩
theorem ccheck_c (v : Value) (l : List Cl) (i : Int) (w : World) (hr : ClsR (ph w) v l) (hs : ∀ c ∈ l, c.body.bulk ≤ 900000) : Calls Tryz.prog 33 #[v, .int .i64 i] w (RetV w (.int .i64 (checkC l i))) := by
  have hr' := hr
  obtain ⟨a, c, rfl, hlen, -⟩ := hr.form
  go_enter Tryz.func33, Tryz.ntmps33
  go_wp2_with fail
  refine RetV_at (cvalid_c _ l _ (hr'.mono mono_ClR (Ext.ple (by repeat (first | (with_reducible assumption) | (with_reducible exact Ext.rfl' _) | (with_reducible exact Ext.new _ _) | (with_reducible refine Ext.alloc' ?_ _) | (with_reducible refine Ext.drew' ?_) | (with_reducible refine Ext.drewN' ?_ _) | (with_reducible refine Ext.set' ?_ ?_ _; rotate_left; (focus (first | omega | (simp; done) | (simp; omega)))) | (with_reducible refine Ext.then (b := ?_) ?_ ?_; rotate_left; rotate_left; (with_reducible assumption)))))) hs) ?_
  intro w1 hx1
  have hc : Hid (checkC l i = if validC l ≠ 0 then validC l else if i < 0 ∨ (l.length : Int) ≤ i then 7 else 0) := Lib.hid rfl
  generalize validC l = e at *
  clear hr hr'
  by_cases he : e = 0
  · subst he
    have hc2 : Hid (checkC l i = if i < 0 ∨ (l.length : Int) ≤ i then 7 else 0) := by show _ = _; rw [hc.out]; rfl
    by_cases h1 : i < 0
    · have hn : Hid (checkC l i = 7) := by show _ = _; rw [hc2.out, if_pos (.inl h1)]
      have b1 : decide (i < 0) = true := by simpa using h1
      go_wp2_with fail
      go_ret
      exact ⟨ret_int hn.out.symm, (by repeat (first | (with_reducible assumption) | (with_reducible exact Ext.rfl' _) | (with_reducible exact Ext.new _ _) | (with_reducible refine Ext.alloc' ?_ _) | (with_reducible refine Ext.drew' ?_) | (with_reducible refine Ext.drewN' ?_ _) | (with_reducible refine Ext.set' ?_ ?_ _; rotate_left; (focus (first | omega | (simp; done) | (simp; omega)))) | (with_reducible refine Ext.then (b := ?_) ?_ ?_; rotate_left; rotate_left; (with_reducible assumption))))⟩
    have b1 : decide (i < 0) = false := by simpa using h1
    by_cases h2 : (l.length : Int) ≤ i
    · have hn : Hid (checkC l i = 7) := by show _ = _; rw [hc2.out, if_pos (.inr h2)]
      have b2 : decide ((l.length : Int) ≤ i) = true := by simpa using h2
      go_wp2_with fail
      go_ret
      exact ⟨ret_int hn.out.symm, (by repeat (first | (with_reducible assumption) | (with_reducible exact Ext.rfl' _) | (with_reducible exact Ext.new _ _) | (with_reducible refine Ext.alloc' ?_ _) | (with_reducible refine Ext.drew' ?_) | (with_reducible refine Ext.drewN' ?_ _) | (with_reducible refine Ext.set' ?_ ?_ _; rotate_left; (focus (first | omega | (simp; done) | (simp; omega)))) | (with_reducible refine Ext.then (b := ?_) ?_ ?_; rotate_left; rotate_left; (with_reducible assumption))))⟩
    have b2 : decide ((l.length : Int) ≤ i) = false := by simpa using h2
    have hn : Hid (checkC l i = 0) := by show _ = _; rw [hc2.out, if_neg (by omega)]
    go_wp2_with fail
    go_ret
    exact ⟨ret_int hn.out.symm, (by repeat (first | (with_reducible assumption) | (with_reducible exact Ext.rfl' _) | (with_reducible exact Ext.new _ _) | (with_reducible refine Ext.alloc' ?_ _) | (with_reducible refine Ext.drew' ?_) | (with_reducible refine Ext.drewN' ?_ _) | (with_reducible refine Ext.set' ?_ ?_ _; rotate_left; (focus (first | omega | (simp; done) | (simp; omega)))) | (with_reducible refine Ext.then (b := ?_) ?_ ?_; rotate_left; rotate_left; (with_reducible assumption))))⟩
  · have hn : Hid (checkC l i = e) := by show _ = _; rw [hc.out, if_pos he]
    have b3 : (e == 0) = false := by simpa using he
    have b4 : (e != 0) = true := by simpa using he
    go_wp2_with fail
    go_ret
    exact ⟨ret_int hn.out.symm, (by repeat (first | (with_reducible assumption) | (with_reducible exact Ext.rfl' _) | (with_reducible exact Ext.new _ _) | (with_reducible refine Ext.alloc' ?_ _) | (with_reducible refine Ext.drew' ?_) | (with_reducible refine Ext.drewN' ?_ _) | (with_reducible refine Ext.set' ?_ ?_ _; rotate_left; (focus (first | omega | (simp; done) | (simp; omega)))) | (with_reducible refine Ext.then (b := ?_) ?_ ?_; rotate_left; rotate_left; (with_reducible assumption))))⟩
end Go.Proofs.YtcbmgajaaechjaaGreat
