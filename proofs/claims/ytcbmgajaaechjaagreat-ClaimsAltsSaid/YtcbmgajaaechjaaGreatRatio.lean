/- package ratio: gcd, size, build, New, Valid; the reference's divisor and Good. -/
import Derived.Test.YtcbmgajaaechjaaGreatRatD
namespace Go.Proofs.YtcbmgajaaechjaaGreat
open Go.RowKit
set_option linter.unusedSimpArgs false
set_option linter.unusedVariables false
def U64 (n : Int) : Prop := 0 ≤ n ∧ n ≤ 18446744073709551615
set_option maxHeartbeats 400000 in
theorem gcd_c (a b : Nat) (w : World) (ha : a ≤ 18446744073709551615) (hb : b ≤ 18446744073709551615) :
    Calls Tryz.prog 148 #[.int .u64 a, .int .u64 b] w (RetV w (.int .u64 (Nat.gcd a b))) := by
  go_enter Tryz.func148, Tryz.ntmps148
  go_wp2
  go_loopw [0, 1] (fun u v wr => ∃ x y : Nat, x ≤ 18446744073709551615 ∧ y ≤ 18446744073709551615 ∧ u = .int .u64 x ∧ v = .int .u64 y ∧ Hid (Nat.gcd x y = Nat.gcd a b) ∧ Ext w wr) (fun _ v _ => (intOf v).toNat)
  case atStart => exact ⟨a, b, ha, hb, rfl, rfl, Lib.hid rfl, (by repeat (first | (with_reducible assumption) | (with_reducible exact Ext.rfl' _) | (with_reducible exact Ext.new _ _) | (with_reducible refine Ext.alloc' ?_ _) | (with_reducible refine Ext.drew' ?_) | (with_reducible refine Ext.drewN' ?_ _) | (with_reducible refine Ext.set' ?_ ?_ _; rotate_left; (focus (first | omega | (simp; done) | (simp; omega)))) | (with_reducible refine Ext.then (b := ?_) ?_ ?_; rotate_left; rotate_left; (with_reducible assumption))))⟩
  case round =>
    obtain ⟨x, y, hx, hy, rfl, rfl, hg, he⟩ := hrel
    by_cases hlt : 0 < y
    · go_wp2_with fail
      go_quiet (fail)
      go_wp2_with fail
      refine ⟨⟨y, x % y, hy, ?_, rfl, val_int (by simp), Lib.hid ?_, (by repeat (first | (with_reducible assumption) | (with_reducible exact Ext.rfl' _) | (with_reducible exact Ext.new _ _) | (with_reducible refine Ext.alloc' ?_ _) | (with_reducible refine Ext.drew' ?_) | (with_reducible refine Ext.drewN' ?_ _) | (with_reducible refine Ext.set' ?_ ?_ _; rotate_left; (focus (first | omega | (simp; done) | (simp; omega)))) | (with_reducible refine Ext.then (b := ?_) ?_ ?_; rotate_left; rotate_left; (with_reducible assumption))))⟩, ?_⟩
      · have := Nat.mod_lt x hlt; omega
      · rw [← hg.out]; rw [Nat.gcd_comm x y, Nat.gcd_rec y x, Nat.gcd_comm]
      · have := Nat.mod_lt x hlt; simp only [intOf]; rw [← Int.natCast_emod]; omega
    · go_wp2_with fail
      go_ret
      exact ⟨ret_int (by have := hg.out; obtain rfl : y = 0 := by omega
                         simp at this; rw [this]), (by repeat (first | (with_reducible assumption) | (with_reducible exact Ext.rfl' _) | (with_reducible exact Ext.new _ _) | (with_reducible refine Ext.alloc' ?_ _) | (with_reducible refine Ext.drew' ?_) | (with_reducible refine Ext.drewN' ?_ _) | (with_reducible refine Ext.set' ?_ ?_ _; rotate_left; (focus (first | omega | (simp; done) | (simp; omega)))) | (with_reducible refine Ext.then (b := ?_) ?_ ?_; rotate_left; rotate_left; (with_reducible assumption))))⟩
set_option maxHeartbeats 400000 in
theorem sizeI_c (n : Int) (w : World) (hn : I64 n) :
    Calls Tryz.prog 136 #[.int .i64 n] w (RetV w (.int .u64 n.natAbs)) := by
  obtain ⟨h1, h2⟩ := hn
  by_cases hneg : n < 0
  · go_enter Tryz.func136, Tryz.ntmps136
    go_wp2
    go_ret
    exact ⟨ret_int (by simp only [IntKind.wrap_u64]; omega), (by repeat (first | (with_reducible assumption) | (with_reducible exact Ext.rfl' _) | (with_reducible exact Ext.new _ _) | (with_reducible refine Ext.alloc' ?_ _) | (with_reducible refine Ext.drew' ?_) | (with_reducible refine Ext.drewN' ?_ _) | (with_reducible refine Ext.set' ?_ ?_ _; rotate_left; (focus (first | omega | (simp; done) | (simp; omega)))) | (with_reducible refine Ext.then (b := ?_) ?_ ?_; rotate_left; rotate_left; (with_reducible assumption))))⟩
  · go_enter Tryz.func136, Tryz.ntmps136
    go_wp2
    go_ret
    exact ⟨ret_int (by omega), (by repeat (first | (with_reducible assumption) | (with_reducible exact Ext.rfl' _) | (with_reducible exact Ext.new _ _) | (with_reducible refine Ext.alloc' ?_ _) | (with_reducible refine Ext.drew' ?_) | (with_reducible refine Ext.drewN' ?_ _) | (with_reducible refine Ext.set' ?_ ?_ _; rotate_left; (focus (first | omega | (simp; done) | (simp; omega)))) | (with_reducible refine Ext.then (b := ?_) ?_ ?_; rotate_left; rotate_left; (with_reducible assumption))))⟩
def ratErr (r : Rat2) (e : Int) : Value := .tuple #[.agg #[.int .i64 r.num, .int .i64 r.den], .int .i64 e]
def buildS (neg : Bool) (n d : Nat) : Rat2 × Int :=
  if 1099511627776 < n / Nat.gcd n d ∨ 1048576 < d / Nat.gcd n d then (⟨0, 0⟩, 5)
  else (⟨if neg then -((n / Nat.gcd n d : Nat) : Int) else (n / Nat.gcd n d : Nat), (d / Nat.gcd n d : Nat)⟩, 0)
def newS (num den : Int) : Rat2 × Int := if den = 0 then (⟨0, 0⟩, 1) else buildS (decide (num < 0) != decide (den < 0)) num.natAbs den.natAbs
set_option maxHeartbeats 400000 in
theorem build_c (neg : Bool) (n d : Nat) (w : World) (hn : n ≤ 18446744073709551615) (hd : d ≤ 18446744073709551615) (h0 : 0 < d) :
    Calls Tryz.prog 135 #[.bool neg, .int .u64 n, .int .u64 d] w (RetV w (ratErr (buildS neg n d).1 (buildS neg n d).2)) := by
  have hg : 0 < Nat.gcd n d := Nat.gcd_pos_of_pos_right _ h0
  have hgd : Nat.gcd n d ≤ d := Nat.gcd_le_right _ h0
  go_enter Tryz.func135, Tryz.ntmps135
  go_wp2_with fail
  refine (gcd_c n d _ hn hd).mono ?_
  rintro e w1 ⟨rfl, hb1⟩
  have ho1 : Own w1 w.heap.size #[.int .i64 0, .int .i64 0] 100 := (by repeat (first | (with_reducible assumption) | (with_reducible exact Own.new _ _ _) | (with_reducible refine Own.new' _ _ _ ?_; (focus (simp; done))) | (with_reducible refine Own.alloc ?_ _) | (with_reducible refine Own.drew ?_) | (with_reducible refine Own.drewN ?_ _) | (with_reducible refine Own.keep (w := ?_) ?_ ?_; rotate_left; (with_reducible assumption); (exact (by repeat (first | (with_reducible assumption) | (with_reducible exact Ext.rfl' _) | (with_reducible exact Ext.new _ _) | (with_reducible refine Ext.alloc' ?_ _) | (with_reducible refine Ext.drew' ?_) | (with_reducible refine Ext.drewN' ?_ _) | (with_reducible refine Ext.set' ?_ ?_ _; rotate_left; (focus (first | omega | (simp; done) | (simp; omega)))) | (with_reducible refine Ext.then (b := ?_) ?_ ?_; rotate_left; rotate_left; (with_reducible assumption)))))) | (with_reducible refine Own.keep (w := ?_) ?_ ?_; rotate_left; rotate_left; (with_reducible assumption))))
  replace hb1 : Ext w w1 := (by repeat (first | (with_reducible assumption) | (with_reducible exact Ext.rfl' _) | (with_reducible exact Ext.new _ _) | (with_reducible refine Ext.alloc' ?_ _) | (with_reducible refine Ext.drew' ?_) | (with_reducible refine Ext.drewN' ?_ _) | (with_reducible refine Ext.set' ?_ ?_ _; rotate_left; (focus (first | omega | (simp; done) | (simp; omega)))) | (with_reducible refine Ext.then (b := ?_) ?_ ?_; rotate_left; rotate_left; (with_reducible assumption))))
  have hq1 : Hid (IntKind.u64.wrap (↑n / ↑(n.gcd d)) = ((n / n.gcd d : Nat) : Int)) := by
    show _ = _
    rw [IntKind.wrap_u64, ← Int.natCast_ediv]
    have := Nat.div_le_self n (n.gcd d); generalize n / n.gcd d = q at *; omega
  have hq2 : Hid (IntKind.u64.wrap (↑d / ↑(n.gcd d)) = ((d / n.gcd d : Nat) : Int)) := by
    show _ = _
    rw [IntKind.wrap_u64, ← Int.natCast_ediv]
    have := Nat.div_le_self d (n.gcd d); generalize d / n.gcd d = q at *; omega
  go_wp2_with fail
  go_quiet (fail)
  rw [hq1.out, hq2.out]
  have ho : Own (w1.drewN nq) w.heap.size #[.int .i64 0, .int .i64 0] 100 := (by repeat (first | (with_reducible assumption) | (with_reducible exact Own.new _ _ _) | (with_reducible refine Own.new' _ _ _ ?_; (focus (simp; done))) | (with_reducible refine Own.alloc ?_ _) | (with_reducible refine Own.drew ?_) | (with_reducible refine Own.drewN ?_ _) | (with_reducible refine Own.keep (w := ?_) ?_ ?_; rotate_left; (with_reducible assumption); (exact (by repeat (first | (with_reducible assumption) | (with_reducible exact Ext.rfl' _) | (with_reducible exact Ext.new _ _) | (with_reducible refine Ext.alloc' ?_ _) | (with_reducible refine Ext.drew' ?_) | (with_reducible refine Ext.drewN' ?_ _) | (with_reducible refine Ext.set' ?_ ?_ _; rotate_left; (focus (first | omega | (simp; done) | (simp; omega)))) | (with_reducible refine Ext.then (b := ?_) ?_ ?_; rotate_left; rotate_left; (with_reducible assumption)))))) | (with_reducible refine Own.keep (w := ?_) ?_ ?_; rotate_left; rotate_left; (with_reducible assumption))))
  have hb : Ext w (w1.drewN nq) := (by repeat (first | (with_reducible assumption) | (with_reducible exact Ext.rfl' _) | (with_reducible exact Ext.new _ _) | (with_reducible refine Ext.alloc' ?_ _) | (with_reducible refine Ext.drew' ?_) | (with_reducible refine Ext.drewN' ?_ _) | (with_reducible refine Ext.set' ?_ ?_ _; rotate_left; (focus (first | omega | (simp; done) | (simp; omega)))) | (with_reducible refine Ext.then (b := ?_) ?_ ?_; rotate_left; rotate_left; (with_reducible assumption))))
  generalize w1.drewN nq = w2 at *
  clear hb1 ho1
  have hl := ho.lt
  obtain ⟨hoc, hof⟩ := ho.facts
  have hspec : buildS neg n d = if 1099511627776 < n / Nat.gcd n d ∨ 1048576 < d / Nat.gcd n d then (⟨0, 0⟩, 5)
      else (⟨if neg then -((n / Nat.gcd n d : Nat) : Int) else (n / Nat.gcd n d : Nat), (d / Nat.gcd n d : Nat)⟩, 0) := rfl
  have hql := Nat.div_le_self n (n.gcd d)
  have hml := Nat.div_le_self d (n.gcd d)
  have HS := Lib.hid hspec
  clear hspec hq1 hq2
  generalize n / Nat.gcd n d = q at *
  generalize d / Nat.gcd n d = m at *
  generalize Nat.gcd n d = g at *
  by_cases h1 : 1099511627776 < q
  · go_wp2_with fail
    exact bodyPost_ret (v := .tuple #[.agg #[.int .i64 0, .int .i64 0], .int .i64 5]) (by simp [results, Tryz.results135, go_sem, hoc, hof, hl]) rfl ⟨by rw [HS.out, if_pos (.inl h1)]; rfl, (by repeat (first | (with_reducible assumption) | (with_reducible exact Ext.rfl' _) | (with_reducible exact Ext.new _ _) | (with_reducible refine Ext.alloc' ?_ _) | (with_reducible refine Ext.drew' ?_) | (with_reducible refine Ext.drewN' ?_ _) | (with_reducible refine Ext.set' ?_ ?_ _; rotate_left; (focus (first | omega | (simp; done) | (simp; omega)))) | (with_reducible refine Ext.then (b := ?_) ?_ ?_; rotate_left; rotate_left; (with_reducible assumption))))⟩
  · by_cases h2 : 1048576 < m
    · go_wp2_with fail
      exact bodyPost_ret (v := .tuple #[.agg #[.int .i64 0, .int .i64 0], .int .i64 5]) (by simp [results, Tryz.results135, go_sem, hoc, hof, hl]) rfl ⟨by rw [HS.out, if_pos (.inr h2)]; rfl, (by repeat (first | (with_reducible assumption) | (with_reducible exact Ext.rfl' _) | (with_reducible exact Ext.new _ _) | (with_reducible refine Ext.alloc' ?_ _) | (with_reducible refine Ext.drew' ?_) | (with_reducible refine Ext.drewN' ?_ _) | (with_reducible refine Ext.set' ?_ ?_ _; rotate_left; (focus (first | omega | (simp; done) | (simp; omega)))) | (with_reducible refine Ext.then (b := ?_) ?_ ?_; rotate_left; rotate_left; (with_reducible assumption))))⟩
    · cases neg with
      | true =>
        go_wp2_with fail
        exact bodyPost_ret (v := .tuple #[.agg #[.int .i64 (-q), .int .i64 m], .int .i64 0]) (by simp [results, Tryz.results135, go_sem, hoc, hof, hl]) rfl ⟨by rw [HS.out, if_neg (by omega)]; rfl, (by repeat (first | (with_reducible assumption) | (with_reducible exact Ext.rfl' _) | (with_reducible exact Ext.new _ _) | (with_reducible refine Ext.alloc' ?_ _) | (with_reducible refine Ext.drew' ?_) | (with_reducible refine Ext.drewN' ?_ _) | (with_reducible refine Ext.set' ?_ ?_ _; rotate_left; (focus (first | omega | (simp; done) | (simp; omega)))) | (with_reducible refine Ext.then (b := ?_) ?_ ?_; rotate_left; rotate_left; (with_reducible assumption))))⟩
      | false =>
        go_wp2_with fail
        exact bodyPost_ret (v := .tuple #[.agg #[.int .i64 q, .int .i64 m], .int .i64 0]) (by simp [results, Tryz.results135, go_sem, hoc, hof, hl]) rfl ⟨by rw [HS.out, if_neg (by omega)]; rfl, (by repeat (first | (with_reducible assumption) | (with_reducible exact Ext.rfl' _) | (with_reducible exact Ext.new _ _) | (with_reducible refine Ext.alloc' ?_ _) | (with_reducible refine Ext.drew' ?_) | (with_reducible refine Ext.drewN' ?_ _) | (with_reducible refine Ext.set' ?_ ?_ _; rotate_left; (focus (first | omega | (simp; done) | (simp; omega)))) | (with_reducible refine Ext.then (b := ?_) ?_ ?_; rotate_left; rotate_left; (with_reducible assumption))))⟩
set_option maxHeartbeats 400000 in
theorem new_c (num den : Int) (w : World) (hn : I64 num) (hd : I64 den) :
    Calls Tryz.prog 120 #[.int .i64 num, .int .i64 den] w (RetV w (ratErr (newS num den).1 (newS num den).2)) := by
  obtain ⟨hn1, hn2⟩ := hn
  obtain ⟨hd1, hd2⟩ := hd
  by_cases h0 : den = 0
  · subst h0
    go_enter Tryz.func120, Tryz.ntmps120
    go_wp2_with fail
    exact bodyPost_ret (v := .tuple #[.agg #[.int .i64 0, .int .i64 0], .int .i64 1]) (by simp [results, Tryz.results120, go_sem]) rfl ⟨rfl, (by repeat (first | (with_reducible assumption) | (with_reducible exact Ext.rfl' _) | (with_reducible exact Ext.new _ _) | (with_reducible refine Ext.alloc' ?_ _) | (with_reducible refine Ext.drew' ?_) | (with_reducible refine Ext.drewN' ?_ _) | (with_reducible refine Ext.set' ?_ ?_ _; rotate_left; (focus (first | omega | (simp; done) | (simp; omega)))) | (with_reducible refine Ext.then (b := ?_) ?_ ?_; rotate_left; rotate_left; (with_reducible assumption))))⟩
  · go_enter Tryz.func120, Tryz.ntmps120
    go_wp2_with fail
    refine (sizeI_c num _ ⟨hn1, hn2⟩).mono ?_
    rintro e w1 ⟨rfl, hb1⟩
    go_wp2_with fail
    refine (sizeI_c den _ ⟨hd1, hd2⟩).mono ?_
    rintro e w2 ⟨rfl, hb2⟩
    go_wp2_with fail
    refine (build_c _ num.natAbs den.natAbs _ (by omega) (by omega) (by omega)).mono ?_
    rintro e w3 ⟨rfl, hb3⟩
    have ho : Own w3 w.heap.size #[.int .i64 0, .int .i64 0] 100 := (by repeat (first | (with_reducible assumption) | (with_reducible exact Own.new _ _ _) | (with_reducible refine Own.new' _ _ _ ?_; (focus (simp; done))) | (with_reducible refine Own.alloc ?_ _) | (with_reducible refine Own.drew ?_) | (with_reducible refine Own.drewN ?_ _) | (with_reducible refine Own.keep (w := ?_) ?_ ?_; rotate_left; (with_reducible assumption); (exact (by repeat (first | (with_reducible assumption) | (with_reducible exact Ext.rfl' _) | (with_reducible exact Ext.new _ _) | (with_reducible refine Ext.alloc' ?_ _) | (with_reducible refine Ext.drew' ?_) | (with_reducible refine Ext.drewN' ?_ _) | (with_reducible refine Ext.set' ?_ ?_ _; rotate_left; (focus (first | omega | (simp; done) | (simp; omega)))) | (with_reducible refine Ext.then (b := ?_) ?_ ?_; rotate_left; rotate_left; (with_reducible assumption)))))) | (with_reducible refine Own.keep (w := ?_) ?_ ?_; rotate_left; rotate_left; (with_reducible assumption))))
    have hb : Ext w w3 := (by repeat (first | (with_reducible assumption) | (with_reducible exact Ext.rfl' _) | (with_reducible exact Ext.new _ _) | (with_reducible refine Ext.alloc' ?_ _) | (with_reducible refine Ext.drew' ?_) | (with_reducible refine Ext.drewN' ?_ _) | (with_reducible refine Ext.set' ?_ ?_ _; rotate_left; (focus (first | omega | (simp; done) | (simp; omega)))) | (with_reducible refine Ext.then (b := ?_) ?_ ?_; rotate_left; rotate_left; (with_reducible assumption))))
    clear hb1 hb2 hb3
    have hs : newS num den = buildS (!(decide (num < 0) == decide (den < 0))) num.natAbs den.natAbs := by rw [newS, if_neg h0]; rfl
    rw [← hs]
    have HS := Lib.hid hs; clear hs
    have hl := ho.lt
    obtain ⟨hoc, hof⟩ := ho.facts
    unfold ratErr
    go_wp2_with fail
    exact bodyPost_ret (v := ratErr (newS num den).1 (newS num den).2) (by simp [ratErr, results, Tryz.results120, go_sem, hoc, hof, hl]) rfl ⟨rfl, (by repeat (first | (with_reducible assumption) | (with_reducible exact Ext.rfl' _) | (with_reducible exact Ext.new _ _) | (with_reducible refine Ext.alloc' ?_ _) | (with_reducible refine Ext.drew' ?_) | (with_reducible refine Ext.drewN' ?_ _) | (with_reducible refine Ext.set' ?_ ?_ _; rotate_left; (focus (first | omega | (simp; done) | (simp; omega)))) | (with_reducible refine Ext.then (b := ?_) ?_ ?_; rotate_left; rotate_left; (with_reducible assumption))))⟩
end Go.Proofs.YtcbmgajaaechjaaGreat
