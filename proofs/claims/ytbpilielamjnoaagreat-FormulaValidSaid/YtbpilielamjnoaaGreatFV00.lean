/- Slices that a call owns: append onto them, read them, hand them back.; The memory of a call under way: boxes and slices of its own that it may still write (chunks), what is read and stands (H), and nothing old changed.; More on the memory of a call: a slice that a call has made.; Mem across the steps of a range over a function.; the reference of package ratio: common, Valid, Less, Of.; the reference of package span: Good, apart, in.; the reference of package span: apart, Valid.; the reference of package span: Valid, Equal.; formed, of package formula and of the reference.; Deep of package formula; Size and Deep of the reference.; Valid of the reference of package formula. -/
import Derived.Test.YtbpilielamjnoaaGreatProg
import Derived.WalkKit
import Derived.WalkSpells
import Derived.WalkLawsBesides
import Derived.BigQuiet
import Derived.Deep.QuietTactic
import Derived.Lib.Hide
import Derived.Deep.DeepFit
import Derived.Handy
import Derived.Deep.LoopGhost
import Derived.Deep.DeepCutAuto
import Derived.Deep.Light
import Derived.LoopIn
import Derived.LoopNIn
import Derived.OwnWalkIn
import Derived.RangeFuncBound
import Derived.RangeFuncCalls
import Derived.RangeFuncFrom
import Derived.RangeFuncLeaves
import Derived.RangeFuncNested
import Derived.Shelf.Abstract
import Derived.Shelf.RegionOpen
import Derived.OrdersHeld
import Derived.OrdersIn
import Derived.TacticsIn
import Derived.Laws.Rows
import Derived.Laws.CopyRow
import Derived.Lib.SliceRun
import Derived.Deep.CutBlock
import Derived.Test.YtbpilielamjnoaaGreatFQ00
import Derived.Test.YtbpilielamjnoaaGreatFQ01
import Derived.Test.YtbpilielamjnoaaGreatFQ02
import Derived.Test.YtbpilielamjnoaaGreatFQ03
import Derived.Test.YtbpilielamjnoaaGreatFQ04
import Derived.Test.YtbpilielamjnoaaGreatFQ05
import Derived.Test.YtbpilielamjnoaaGreatFQ06
import Derived.Test.YtbpilielamjnoaaGreatFQ07
import Derived.Test.YtbpilielamjnoaaGreatFQ08
import Derived.Test.YtbpilielamjnoaaGreatFQ09
import Derived.Test.YtbpilielamjnoaaGreatFQ10
import Derived.Test.YtbpilielamjnoaaGreatFQ11
import Derived.Test.YtbpilielamjnoaaGreatFQ12
import Derived.Test.YtbpilielamjnoaaGreatFQ13
import Derived.Test.YtbpilielamjnoaaGreatFQ14
import Derived.Test.YtbpilielamjnoaaGreatFQ15
import Derived.Test.YtbpilielamjnoaaGreatFQ16
import Derived.Test.YtbpilielamjnoaaGreatFQ17
import Derived.Test.YtbpilielamjnoaaGreatFQ18
namespace Go.Proofs.YtbpilielamjnoaaGreat
open Go.RowKit
set_option linter.unusedSimpArgs false
set_option linter.unusedVariables false
section
variable {α : Type} {E : PH → List Value → α → Prop} {sz : Nat} {h h' : PH}
end
section
variable {α : Type} {E : PH → List Value → α → Prop} {sz : Nat} {H : PH} {w w' : World} {base : Nat} {T : TypeId} {v : Value} {xs ys : List α}
theorem Src.ofOwn (h : OwnS base H w E sz T v xs) : Src w H E sz v xs := by
  rcases h with ⟨rfl, rfl⟩ | ⟨g, cap, cur, rfl, h1, h2, h3, h4, h5, h6, h7⟩
  · exact ⟨none, 0, rfl, by simp, .inl rfl⟩
  · refine ⟨_, cap, rfl, h4, .inr ⟨_, _, rfl, h7, fun j u hu => ?_⟩⟩
    rw [add0, cell_of_row w g j cur T (0, 0) h3]
    rw [List.getElem?_take] at hu
    split at hu
    · simpa using hu
    · cases hu
end
section
variable {P : Program} {w : World}
end
end Go.Proofs.YtbpilielamjnoaaGreat
namespace Go.Proofs.YtbpilielamjnoaaGreat
open Go.RowKit
set_option linter.unusedSimpArgs false
set_option linter.unusedVariables false
theorem up_sub {H : PH} {w w1 w' : World} (h : PLe H (ph w)) (e : Ext w w1) : PLe (up H w1 w') (up H w w') := by
  intro k o hk
  unfold up at *
  have := e.size
  split at hk
  · have h1 := ph_lt (h k o hk); rw [if_pos h1]; exact hk
  · rw [if_neg (by omega)]; exact hk
section
variable {w0 w w' : World} {H0 H : PH} {L : List Chunk}
section
variable {α : Type} {E : PH → List Value → α → Prop} {hm : Mono E} {sz : Nat} {T : TypeId} {v : Value} {xs ys : List α}
theorem Mem.src (h : Mem w0 H0 L H w) (i : Nat) (hi : L[i]? = some (own hm sz T v xs)) : Src w H E sz v xs := Src.ofOwn (h.ownS i hi)
end
end
end Go.Proofs.YtbpilielamjnoaaGreat
namespace Go.Proofs.YtbpilielamjnoaaGreat
open Go.RowKit
set_option linter.unusedSimpArgs false
set_option linter.unusedVariables false
section
variable {w0 w w' : World} {H0 H : PH} {L : List Chunk}
variable {α : Type} {E : PH → List Value → α → Prop} {hm : Mono E} {sz : Nat} {T : TypeId} {v : Value} {xs ys : List α}
end
end Go.Proofs.YtbpilielamjnoaaGreat
namespace Go.Proofs.YtbpilielamjnoaaGreat
open Go.RowKit Go.Shelf
set_option linter.unusedSimpArgs false
set_option linter.unusedVariables false
section
variable {w0 A B w w' : World} {H0 H : PH} {L : List Chunk}
section
variable {α : Type} {E : PH → List Value → α → Prop} {hm : Mono E} {sz : Nat} {T : TypeId} {v : Value} {xs ys : List α}
end
end
end Go.Proofs.YtbpilielamjnoaaGreat
namespace Go.Proofs.YtbpilielamjnoaaGreat
open Go.RowKit Go.Shelf
set_option linter.unusedSimpArgs false
set_option linter.unusedVariables false
def B62 (n : Int) : Prop := -4611686018427387904 ≤ n ∧ n ≤ 4611686018427387904
set_option maxRecDepth 100000 in
set_option maxHeartbeats 1000000 in
theorem common_c (a b : Int) (w : World) (ha : B62 a) (hb : B62 b) : Calls Tryz.prog 165 #[.int .i64 a, .int .i64 b] w (RetV w (.int .i64 (Int.gcd a b))) := by
  go_enter Tryz.func165, Tryz.ntmps165
  go_wp2
  go_loopw [0, 1] (fun u v wr => ∃ x y : Int, B62 x ∧ B62 y ∧ u = .int .i64 x ∧ v = .int .i64 y ∧ Hid (Int.gcd x y = Int.gcd a b) ∧ Ext w wr) (fun _ v _ => (intOf v).natAbs)
  case atStart => exact ⟨a, b, ha, hb, rfl, rfl, Lib.hid rfl, (by with_reducible repeat (first | assumption | exact Ext.rfl' _ | exact Ext.new _ _ | refine Ext.alloc' ?_ _ | refine Ext.drew' ?_ | refine Ext.drewN' ?_ _ | (refine Ext.then (b := ?_) ?_ ?_; rotate_left; rotate_left; assumption)))⟩
  case round =>
    obtain ⟨x, y, hx, hy, rfl, rfl, hg, he⟩ := hrel
    by_cases h0 : y = 0
    · subst h0
      have h9 : Hid ((Int.gcd a b : Int) = x.natAbs) := Lib.hid (by rw [← hg.out, Int.gcd_zero_right])
      unfold B62 at hx
      by_cases hn : x < 0
      · go_wp2_with fail
        go_ret
        exact ⟨ret_int (by rw [h9.out]; omega), (by with_reducible repeat (first | assumption | exact Ext.rfl' _ | exact Ext.new _ _ | refine Ext.alloc' ?_ _ | refine Ext.drew' ?_ | refine Ext.drewN' ?_ _ | (refine Ext.then (b := ?_) ?_ ?_; rotate_left; rotate_left; assumption)))⟩
      · go_wp2_with fail
        go_ret
        exact ⟨ret_int (by rw [h9.out]; omega), (by with_reducible repeat (first | assumption | exact Ext.rfl' _ | exact Ext.new _ _ | refine Ext.alloc' ?_ _ | refine Ext.drew' ?_ | refine Ext.drewN' ?_ _ | (refine Ext.then (b := ?_) ?_ ?_; rotate_left; rotate_left; assumption)))⟩
    · have hb0 : (y != 0) = true := by simpa using h0
      have e1 : (x.tmod y).natAbs = x.natAbs % y.natAbs := Int.natAbs_tmod x y
      have e2 : x.natAbs % y.natAbs < y.natAbs := Nat.mod_lt _ (by omega)
      have hg2 : Hid (Int.gcd y (x.tmod y) = Int.gcd a b) := Lib.hid (by rw [← hg.out]; unfold Int.gcd; rw [e1, Nat.gcd_comm x.natAbs, Nat.gcd_rec y.natAbs x.natAbs, Nat.gcd_comm])
      have h7 : B62 (x.tmod y) := by unfold B62 at *; omega
      generalize hq : x.tmod y = q at *
      replace hq := Lib.hid hq
      go_wp2_with fail
      go_quiet (fail)
      rw [hq.out]
      go_wp2_with fail
      refine ⟨⟨y, q, hy, h7, rfl, rfl, hg2, (by with_reducible repeat (first | assumption | exact Ext.rfl' _ | exact Ext.new _ _ | refine Ext.alloc' ?_ _ | refine Ext.drew' ?_ | refine Ext.drewN' ?_ _ | (refine Ext.then (b := ?_) ?_ ?_; rotate_left; rotate_left; assumption)))⟩, ?_⟩
      simp only [intOf]; omega
set_option maxRecDepth 100000 in
set_option maxHeartbeats 1000000 in
theorem rvalid_c (r : Rat2) (w : World) : Calls Tryz.prog 147 #[raA r] w (RetV w (.int .i64 (ErrIf (RatOk r) 1))) := by
  obtain ⟨n, d⟩ := r
  have hO := Proofs.YtbpilielamjnoaaGreat.Own.new w #[.int .i64 n, .int .i64 d] 81
  unfold raA
  dsimp only
  by_cases hbad : d < 1 ∨ 1048576 < d ∨ n < -1099511627776 ∨ 1099511627776 < n
  · have hs : Hid (¬ RatOk ⟨n, d⟩) := by show ¬ _; rw [ratOk_iff]; dsimp only; omega
    clear hO
    by_cases h1 : d < 1
    · go_enter Tryz.func147, Tryz.ntmps147
      go_wp2_with fail
      go_ret
      exact ⟨ret_ek hs.out, (by with_reducible repeat (first | assumption | exact Ext.rfl' _ | exact Ext.new _ _ | refine Ext.alloc' ?_ _ | refine Ext.drew' ?_ | refine Ext.drewN' ?_ _ | (refine Ext.then (b := ?_) ?_ ?_; rotate_left; rotate_left; assumption)))⟩
    · by_cases h2 : 1048576 < d
      · go_enter Tryz.func147, Tryz.ntmps147
        go_wp2_with fail
        go_ret
        exact ⟨ret_ek hs.out, (by with_reducible repeat (first | assumption | exact Ext.rfl' _ | exact Ext.new _ _ | refine Ext.alloc' ?_ _ | refine Ext.drew' ?_ | refine Ext.drewN' ?_ _ | (refine Ext.then (b := ?_) ?_ ?_; rotate_left; rotate_left; assumption)))⟩
      · by_cases h3 : 1099511627776 < n
        · go_enter Tryz.func147, Tryz.ntmps147
          go_wp2_with fail
          go_ret
          exact ⟨ret_ek hs.out, (by with_reducible repeat (first | assumption | exact Ext.rfl' _ | exact Ext.new _ _ | refine Ext.alloc' ?_ _ | refine Ext.drew' ?_ | refine Ext.drewN' ?_ _ | (refine Ext.then (b := ?_) ?_ ?_; rotate_left; rotate_left; assumption)))⟩
        · have h4 : n < -1099511627776 := by omega
          go_enter Tryz.func147, Tryz.ntmps147
          go_wp2_with fail
          go_ret
          exact ⟨ret_ek hs.out, (by with_reducible repeat (first | assumption | exact Ext.rfl' _ | exact Ext.new _ _ | refine Ext.alloc' ?_ _ | refine Ext.drew' ?_ | refine Ext.drewN' ?_ _ | (refine Ext.then (b := ?_) ?_ ?_; rotate_left; rotate_left; assumption)))⟩
  · have h1 : ¬ d < 1 := by omega
    have h2 : ¬ 1048576 < d := by omega
    have h3 : ¬ 1099511627776 < n := by omega
    have h4 : ¬ n < -1099511627776 := by omega
    have hc := fun w => common_c n d w (by unfold B62; omega) (by unfold B62; omega)
    have hs : Hid ((((Int.gcd n d : Nat) : Int) = 1) ↔ RatOk ⟨n, d⟩) := by
      show _ ↔ _
      rw [ratOk_iff]; dsimp only; omega
    generalize (Int.gcd n d : Int) = g at *
    replace hc := Lib.hid hc
    clear hbad
    have hx := Ext.new w (.cells #[.int .i64 n, .int .i64 d] 81)
    clear hO
    go_enter Tryz.func147, Tryz.ntmps147
    go_wp2_with fail
    refine RetV_at (hc.out _) ?_
    intro w1 hx1
    by_cases hg : g = 1
    · have h9 := Lib.hid (hs.out.1 hg)
      have hgb : (g != 1) = false := by simpa using hg
      clear hs
      go_wp2_with fail
      go_ret
      exact ⟨ret_e0 h9.out, (by with_reducible repeat (first | assumption | exact Ext.rfl' _ | exact Ext.new _ _ | refine Ext.alloc' ?_ _ | refine Ext.drew' ?_ | refine Ext.drewN' ?_ _ | (refine Ext.then (b := ?_) ?_ ?_; rotate_left; rotate_left; assumption)))⟩
    · have h9 := Lib.hid (fun h => hg (hs.out.2 h))
      have hgb : (g != 1) = true := by simpa using hg
      clear hs
      go_wp2_with fail
      go_ret
      exact ⟨ret_ek h9.out, (by with_reducible repeat (first | assumption | exact Ext.rfl' _ | exact Ext.new _ _ | refine Ext.alloc' ?_ _ | refine Ext.drew' ?_ | refine Ext.drewN' ?_ _ | (refine Ext.then (b := ?_) ?_ ?_; rotate_left; rotate_left; assumption)))⟩
set_option maxRecDepth 100000 in
set_option maxHeartbeats 1000000 in
theorem rless_c (a b : Rat2) (w : World) (ha : a.bd) (hb : b.bd) : Calls Tryz.prog 167 #[raA a, raA b] w (RetV w (.bool (lessR a b))) := by
  have hs : Hid (lessR a b = decide (a.num * b.den < b.num * a.den)) := rfl
  generalize lessR a b = q at hs ⊢
  obtain ⟨n, d⟩ := a
  obtain ⟨n', d'⟩ := b
  obtain ⟨a1, a2, a3, a4⟩ := ha
  obtain ⟨b1, b2, b3, b4⟩ := hb
  dsimp only at *
  have m1 := mul_bd2 a1 a2 b3 b4
  have m2 := mul_bd2 b1 b2 a3 a4
  clear a1 a2 a3 a4 b1 b2 b3 b4
  unfold raA
  dsimp only
  have hx := (Ext.new w (.cells #[.int .i64 n, .int .i64 d] 81)).alloc' (.cells #[.int .i64 n', .int .i64 d'] 81)
  have w1 : IntKind.i64.wrap (n * d') = n * d' := wrap_id (by omega) (by omega)
  have w2 : IntKind.i64.wrap (n' * d) = n' * d := wrap_id (by omega) (by omega)
  have w3 : wrap64 (n * d') = n * d' := wrap64_id (by omega) (by omega)
  have w4 : wrap64 (n' * d) = n' * d := wrap64_id (by omega) (by omega)
  go_enter Tryz.func167, Tryz.ntmps167
  go_wp2_with fail
  go_ret
  exact ⟨ret_bool hs.out.symm, hx⟩
end Go.Proofs.YtbpilielamjnoaaGreat
namespace Go.Proofs.YtbpilielamjnoaaGreat
open Go.RowKit Go.Shelf
set_option linter.unusedSimpArgs false
set_option linter.unusedVariables false
set_option maxRecDepth 100000 in
set_option maxHeartbeats 1000000 in
theorem rsmall_c (r : Rat2) (w : World) : Calls Tryz.prog 166 #[raA r] w (RetV w (.bool (smallB r))) := by
  have hs : Hid (smallB r = (decide (RatOk r) && decide (r.num ≤ 1073741824) && decide (-1073741824 ≤ r.num) && decide (r.den ≤ 32768))) := by
    show _ = _
    rw [Bool.eq_iff_iff, smallB_iff]
    simp only [Bool.and_eq_true, decide_eq_true_eq]
    constructor
    · rintro ⟨h, h1, h2⟩; exact ⟨⟨⟨h, by omega⟩, by omega⟩, h2⟩
    · rintro ⟨⟨⟨h, h1⟩, h2⟩, h3⟩; exact ⟨h, by omega, h3⟩
  have hv := fun w => rvalid_c r w
  have he := errIf_beq (p := RatOk r) (k := 1) (by decide)
  generalize ErrIf (RatOk r) 1 = z at hv he
  generalize decide (RatOk r) = ok at *
  generalize smallB r = q at *
  obtain ⟨n, d⟩ := r
  unfold raA at *
  dsimp only at *
  have hw := Ext.new w (.cells #[.int .i64 n, .int .i64 d] 81)
  have hO := Proofs.YtbpilielamjnoaaGreat.Own.new w #[.int .i64 n, .int .i64 d] 81
  replace hv := Lib.hid hv
  go_enter Tryz.func166, Tryz.ntmps166
  go_wp2_with fail
  generalize w.alloc _ = W at *
  refine RetV_at (hv.out _) ?_
  intro w1 hx1
  replace hO := hO.keep hx1
  replace hw := hw.then hx1
  obtain ⟨c1, f1⟩ := hO.facts
  have z1 := hO.lt
  clear hx1
  cases ok with
  | false =>
    go_wp2_with fail
    go_ret
    exact ⟨ret_bool (by rw [hs.out]; simp), (by with_reducible repeat (first | assumption | exact Ext.rfl' _ | exact Ext.new _ _ | refine Ext.alloc' ?_ _ | refine Ext.drew' ?_ | refine Ext.drewN' ?_ _ | (refine Ext.then (b := ?_) ?_ ?_; rotate_left; rotate_left; assumption)))⟩
  | true =>
    by_cases h1 : n ≤ 1073741824
    · by_cases h2 : -1073741824 ≤ n
      · go_wp2_with fail
        go_ret
        exact ⟨ret_bool (by rw [hs.out]; simp [h1, h2]), (by with_reducible repeat (first | assumption | exact Ext.rfl' _ | exact Ext.new _ _ | refine Ext.alloc' ?_ _ | refine Ext.drew' ?_ | refine Ext.drewN' ?_ _ | (refine Ext.then (b := ?_) ?_ ?_; rotate_left; rotate_left; assumption)))⟩
      · go_wp2_with fail
        go_ret
        exact ⟨ret_bool (by rw [hs.out]; simp; intros; omega), (by with_reducible repeat (first | assumption | exact Ext.rfl' _ | exact Ext.new _ _ | refine Ext.alloc' ?_ _ | refine Ext.drew' ?_ | refine Ext.drewN' ?_ _ | (refine Ext.then (b := ?_) ?_ ?_; rotate_left; rotate_left; assumption)))⟩
    · go_wp2_with fail
      go_ret
      exact ⟨ret_bool (by rw [hs.out]; simp; intros; omega), (by with_reducible repeat (first | assumption | exact Ext.rfl' _ | exact Ext.new _ _ | refine Ext.alloc' ?_ _ | refine Ext.drew' ?_ | refine Ext.drewN' ?_ _ | (refine Ext.then (b := ?_) ?_ ?_; rotate_left; rotate_left; assumption)))⟩
theorem goodB_inf {x : Itv} (hi : (x.loI || x.hiI) = true) : goodB x = (limB x.lo x.loO x.loI && limB x.hi x.hiO x.hiI) := by
  rw [Bool.eq_iff_iff, goodB_iff, Bool.and_eq_true]
  constructor
  · rintro ⟨h1, h2, -⟩; exact ⟨h1, h2⟩
  · rintro ⟨h1, h2⟩
    refine ⟨h1, h2, ?_⟩
    have s2 := limB_hi h2
    unfold loE hiE at *
    cases h3 : x.loI <;> cases h4 : x.hiI <;> simp [h3, h4] at hi ⊢ <;> simp [lessE, botE, topE]
theorem goodB_fin {x : Itv} (h1 : x.loI = false) (h2 : x.hiI = false) : goodB x = (smallB x.lo && smallB x.hi && if x.lo = x.hi then !x.loO && !x.hiO else lessR x.lo x.hi) := by
  unfold goodB limB loE hiE
  rw [h1, h2]
  simp only [Bool.false_eq_true, if_false]
  cases h3 : smallB x.lo
  · rfl
  cases h4 : smallB x.hi
  · rfl
  simp only [Bool.true_and]
  unfold lessE lessR
  rw [if_neg (by simp), if_neg (by simp)]
  by_cases h : x.lo.num * x.hi.den = x.hi.num * x.lo.den
  · have he := Rat2.same (smallB_ok h3) (smallB_ok h4) h
    rw [if_neg (by simpa using h), if_pos he]
  · rw [if_pos h, if_neg (fun e => h (by rw [e]))]
theorem gl1 {lI rI lO rO p p' zl zr q : Bool} (h1 : (lI || rI) = true → q = ((if lI then zl && !lO else p) && if rI then zr && !rO else p')) (h2 : ((lI && (!zl || lO)) || (rI && (!zr || rO))) = true) : q = false := by
  cases lI <;> cases rI <;> cases lO <;> cases rO <;> cases zl <;> cases zr <;> simp_all
theorem gl2 {lI rI lO rO p p' zl zr zq ls q : Bool} (h1 : (lI || rI) = true → q = ((if lI then zl && !lO else p) && if rI then zr && !rO else p')) (h2 : lI = false → rI = false → q = (p && p' && if zq then !lO && !rO else ls)) (h3 : ((!lI && !p) || (!rI && !p')) = true) : q = false := by
  cases lI <;> cases rI <;> cases p <;> cases p' <;> simp_all
theorem gl3 {lI rI lO rO p p' zl zr q : Bool} (h1 : (lI || rI) = true → q = ((if lI then zl && !lO else p) && if rI then zr && !rO else p')) (h2 : ((lI && (!zl || lO)) || (rI && (!zr || rO))) = false) (h3 : ((!lI && !p) || (!rI && !p')) = false) (h4 : (lI || rI) = true) : q = true := by
  cases lI <;> cases rI <;> cases lO <;> cases rO <;> cases zl <;> cases zr <;> cases p <;> cases p' <;> simp_all
theorem smallB_bd {r : Rat2} (h : smallB r = true) : r.bd := (smallB_iff.1 h).1.bd
set_option maxRecDepth 100000 in
set_option maxHeartbeats 8000000 in
theorem rgood_c (x : Itv) (w : World) : Calls Tryz.prog 148 #[itA x] w (RetV w (.bool (goodB x))) := by
  have h1 := fun w => rsmall_c x.lo w
  have h2 := fun w => rsmall_c x.hi w
  have h3 := fun (a : smallB x.lo = true) (b : smallB x.hi = true) w => rless_c x.lo x.hi w (smallB_bd a) (smallB_bd b)
  have hinf := goodB_inf (x := x)
  have hfin := goodB_fin (x := x)
  unfold limB at hinf
  obtain ⟨⟨a, b⟩, ⟨c, d⟩, lO, rO, lI, rI⟩ := x
  unfold itA raA at *
  dsimp only at *
  have e1 : ((⟨a, b⟩ : Rat2) == ⟨0, 0⟩) = (a == 0 && b == 0) := by rw [Bool.eq_iff_iff]; simp
  have e2 : ((⟨c, d⟩ : Rat2) == ⟨0, 0⟩) = (c == 0 && d == 0) := by rw [Bool.eq_iff_iff]; simp
  have e3 : decide ((⟨a, b⟩ : Rat2) = ⟨c, d⟩) = (a == c && b == d) := by rw [Bool.eq_iff_iff]; simp
  rw [e1, e2] at hinf
  have hfin2 : lI = false → rI = false → goodB ⟨⟨a, b⟩, ⟨c, d⟩, lO, rO, lI, rI⟩ = (smallB ⟨a, b⟩ && smallB ⟨c, d⟩ && if (a == c && b == d) then !lO && !rO else lessR ⟨a, b⟩ ⟨c, d⟩) := fun q1 q2 => by
    rw [hfin q1 q2, ← e3]; simp
  clear e1 e2 e3 hfin
  generalize smallB ⟨a, b⟩ = p at *
  generalize smallB ⟨c, d⟩ = p' at *
  generalize lessR ⟨a, b⟩ ⟨c, d⟩ = ls at *
  generalize goodB _ = q at *
  have hw := Ext.new w (.cells #[.int .i64 a, .int .i64 b, .int .i64 c, .int .i64 d, .bool lO, .bool rO, .bool lI, .bool rI] 96)
  have hO := Proofs.YtbpilielamjnoaaGreat.Own.new w #[.int .i64 a, .int .i64 b, .int .i64 c, .int .i64 d, .bool lO, .bool rO, .bool lI, .bool rI] 96
  replace h1 := Lib.hid h1
  replace h2 := Lib.hid h2
  replace h3 := Lib.hid h3
  replace hinf := Lib.hid hinf
  replace hfin2 := Lib.hid hfin2
  obtain ⟨z1, hz1⟩ : ∃ z, (a == 0) = z := ⟨_, rfl⟩
  obtain ⟨z2, hz2⟩ : ∃ z, (b == 0) = z := ⟨_, rfl⟩
  obtain ⟨z3, hz3⟩ : ∃ z, (c == 0) = z := ⟨_, rfl⟩
  obtain ⟨z4, hz4⟩ : ∃ z, (d == 0) = z := ⟨_, rfl⟩
  go_enter Tryz.func148, Tryz.ntmps148
  go_upto_region 1 with (fail)
  generalize w.heap.size = b1 at *
  generalize w.alloc _ = W at *
  obtain ⟨c1, f1⟩ := hO.facts
  have zz1 := hO.lt
  go_cut [30] (fun v wx => v = .bool ((lI && (!(a == 0 && b == 0) || lO)) || (rI && (!(c == 0 && d == 0) || rO))) ∧ wx = W)
  case first =>
    cases lI with
    | false =>
      cases rI with
      | false => (go_wp2_with fail; go_meet; (case rel => exact ⟨by simp [*], rfl⟩))
      | true => cases rO <;> cases z3 <;> cases z4 <;> (go_wp2_with fail; go_meet; (case rel => exact ⟨by simp [*], rfl⟩))
    | true =>
      cases lO with
      | true => cases z1 <;> cases z2 <;> (go_wp2_with fail; go_meet; (case rel => exact ⟨by simp [*], rfl⟩))
      | false =>
        cases z1 with
        | false => cases z2 <;> (go_wp2_with fail; go_meet; (case rel => exact ⟨by simp [*], rfl⟩))
        | true =>
          cases z2 with
          | false => (go_wp2_with fail; go_meet; (case rel => exact ⟨by simp [*], rfl⟩))
          | true =>
            cases rI with
            | false => (go_wp2_with fail; go_meet; (case rel => exact ⟨by simp [*], rfl⟩))
            | true => cases rO <;> cases z3 <;> cases z4 <;> (go_wp2_with fail; go_meet; (case rel => exact ⟨by simp [*], rfl⟩))
  case rest =>
    obtain ⟨rfl, rfl⟩ := hcut
    obtain ⟨bad, hbad⟩ : ∃ bad, ((lI && (!(a == 0 && b == 0) || lO)) || (rI && (!(c == 0 && d == 0) || rO))) = bad := ⟨_, rfl⟩
    rw [hbad]
    obtain ⟨zl, hzl⟩ : ∃ z, (a == 0 && b == 0) = z := ⟨_, rfl⟩
    obtain ⟨zr, hzr⟩ : ∃ z, (c == 0 && d == 0) = z := ⟨_, rfl⟩
    obtain ⟨zq, hzq⟩ : ∃ z, (a == c && b == d) = z := ⟨_, rfl⟩
    have hinf2 : Hid ((lI || rI) = true → q = ((if lI then zl && !lO else p) && if rI then zr && !rO else p')) := Lib.hid (by rw [← hzl, ← hzr]; exact hinf.out)
    have hfin3 : Hid (lI = false → rI = false → q = (p && p' && if zq then !lO && !rO else ls)) := Lib.hid (by rw [← hzq]; exact hfin2.out)
    have hbad2 : Hid (((lI && (!zl || lO)) || (rI && (!zr || rO))) = bad) := Lib.hid (by rw [← hzl, ← hzr]; exact hbad)
    clear hinf hfin2 hz1 hz2 hz3 hz4 hbad hzl hzr
    cases bad with
    | true =>
      have hq : Hid (q = false) := Lib.hid (gl1 hinf2.out hbad2.out)
      go_wp2_with fail
      go_ret
      exact ⟨ret_bool hq.out.symm, (by with_reducible repeat (first | assumption | exact Ext.rfl' _ | exact Ext.new _ _ | refine Ext.alloc' ?_ _ | refine Ext.drew' ?_ | refine Ext.drewN' ?_ _ | (refine Ext.then (b := ?_) ?_ ?_; rotate_left; rotate_left; assumption)))⟩
    | false =>
      go_wp2_with fail
      refine RetV_at (h1.out _) ?_
      intro w1 hx1
      replace hO := hO.keep hx1
      replace hw := hw.then hx1
      clear hx1 c1 f1 zz1
      obtain ⟨c1, f1⟩ := hO.facts
      have zz1 := hO.lt
      go_wp2_with fail
      refine RetV_at (h2.out _) ?_
      intro w2 hx2
      replace hO := hO.keep hx2
      replace hw := hw.then hx2
      clear hx2 c1 f1 zz1
      obtain ⟨c1, f1⟩ := hO.facts
      have zz1 := hO.lt
      go_upto_region 5 with (fail)
      go_cut [52] (fun v wx => v = .bool ((!lI && !p) || (!rI && !p')) ∧ wx = w2)
      case first =>
        cases lI with
        | true =>
          cases rI with
          | true => (go_wp2_with fail; go_meet; (case rel => exact ⟨by simp, rfl⟩))
          | false => cases p' <;> (go_wp2_with fail; go_meet; (case rel => exact ⟨by simp, rfl⟩))
        | false =>
          cases p with
          | false => (go_wp2_with fail; go_meet; (case rel => exact ⟨by simp, rfl⟩))
          | true =>
            cases rI with
            | true => (go_wp2_with fail; go_meet; (case rel => exact ⟨by simp, rfl⟩))
            | false => cases p' <;> (go_wp2_with fail; go_meet; (case rel => exact ⟨by simp, rfl⟩))
      case rest =>
        obtain ⟨rfl, rfl⟩ := hcut
        obtain ⟨bd, hbd⟩ : ∃ bd, ((!lI && !p) || (!rI && !p')) = bd := ⟨_, rfl⟩
        rw [hbd]
        replace hbd := Lib.hid hbd
        cases bd with
        | true =>
          have hq : Hid (q = false) := Lib.hid (gl2 hinf2.out hfin3.out hbd.out)
          go_wp2_with fail
          go_ret
          exact ⟨ret_bool hq.out.symm, (by with_reducible repeat (first | assumption | exact Ext.rfl' _ | exact Ext.new _ _ | refine Ext.alloc' ?_ _ | refine Ext.drew' ?_ | refine Ext.drewN' ?_ _ | (refine Ext.then (b := ?_) ?_ ?_; rotate_left; rotate_left; assumption)))⟩
        | false =>
          by_cases hli : (lI || rI) = true
          · have hq : Hid (q = true) := Lib.hid (gl3 hinf2.out hbad2.out hbd.out hli)
            cases lI with
            | true =>
              go_wp2_with fail
              go_ret
              exact ⟨ret_bool hq.out.symm, (by with_reducible repeat (first | assumption | exact Ext.rfl' _ | exact Ext.new _ _ | refine Ext.alloc' ?_ _ | refine Ext.drew' ?_ | refine Ext.drewN' ?_ _ | (refine Ext.then (b := ?_) ?_ ?_; rotate_left; rotate_left; assumption)))⟩
            | false =>
              obtain rfl : rI = true := by simpa using hli
              go_wp2_with fail
              go_ret
              exact ⟨ret_bool hq.out.symm, (by with_reducible repeat (first | assumption | exact Ext.rfl' _ | exact Ext.new _ _ | refine Ext.alloc' ?_ _ | refine Ext.drew' ?_ | refine Ext.drewN' ?_ _ | (refine Ext.then (b := ?_) ?_ ?_; rotate_left; rotate_left; assumption)))⟩
          · obtain ⟨rfl, rfl⟩ : lI = false ∧ rI = false := by simpa using hli
            have hpp := hbd.out
            obtain ⟨rfl, rfl⟩ : p = true ∧ p' = true := by simpa using hpp
            have hq : Hid (q = if zq then !lO && !rO else ls) := Lib.hid (by simpa using hfin3.out rfl rfl)
            clear hpp hbd hli
            cases zq with
            | true =>
              have he : a = c ∧ b = d := by simpa using hzq
              obtain ⟨rfl, rfl⟩ := he
              clear hzq h1 h2 h3 hinf2 hfin3 hbad2
              cases lO <;> (go_wp2_with fail; go_ret; exact ⟨ret_bool (by rw [hq.out]; simp), (by with_reducible repeat (first | assumption | exact Ext.rfl' _ | exact Ext.new _ _ | refine Ext.alloc' ?_ _ | refine Ext.drew' ?_ | refine Ext.drewN' ?_ _ | (refine Ext.then (b := ?_) ?_ ?_; rotate_left; rotate_left; assumption)))⟩)
            | false =>
              have h3' := h3.out (by first | trivial | rfl) (by first | trivial | rfl)
              replace h3' := Lib.hid h3'
              clear h1 h2 h3 hinf2 hfin3 hbad2
              by_cases hac : a = c
              · have hbd2 : ¬ b = d := by rintro rfl; simp [hac] at hzq
                subst hac
                have hbdb : (b == d) = false := by simpa using hbd2
                clear hzq hbd2
                go_wp2_with fail
                refine RetV_at (h3'.out _) ?_
                intro w5 hx5
                go_wp2_with fail
                go_ret
                exact ⟨ret_bool (by rw [hq.out]; rfl), (by with_reducible repeat (first | assumption | exact Ext.rfl' _ | exact Ext.new _ _ | refine Ext.alloc' ?_ _ | refine Ext.drew' ?_ | refine Ext.drewN' ?_ _ | (refine Ext.then (b := ?_) ?_ ?_; rotate_left; rotate_left; assumption)))⟩
              · have hacb : (a == c) = false := by simpa using hac
                clear hzq
                go_wp2_with fail
                refine RetV_at (h3'.out _) ?_
                intro w5 hx5
                go_wp2_with fail
                go_ret
                exact ⟨ret_bool (by rw [hq.out]; rfl), (by with_reducible repeat (first | assumption | exact Ext.rfl' _ | exact Ext.new _ _ | refine Ext.alloc' ?_ _ | refine Ext.drew' ?_ | refine Ext.drewN' ?_ _ | (refine Ext.then (b := ?_) ?_ ?_; rotate_left; rotate_left; assumption)))⟩
end Go.Proofs.YtbpilielamjnoaaGreat
namespace Go.Proofs.YtbpilielamjnoaaGreat
open Go.RowKit Go.Shelf
set_option linter.unusedSimpArgs false
set_option linter.unusedVariables false
theorem less_apart {a b : Itv} (ha : goodB a = true) (hb : goodB b = true) : lessE (hiE a) (loE b) = if a.hiI || b.loI then false else if a.hi = b.lo then a.hiO && b.loO else lessR a.hi b.lo := by
  unfold hiE loE
  cases h1 : a.hiI
  · cases h2 : b.loI
    · have s1 := goodB.smhi ha h1
      have s2 := goodB.smlo hb h2
      simp only [Bool.false_eq_true, if_false, Bool.or_false]
      unfold lessE lessR
      rw [if_neg (by simp), if_neg (by simp)]
      by_cases h : a.hi.num * b.lo.den = b.lo.num * a.hi.den
      · have he := Rat2.same (smallB_ok s1) (smallB_ok s2) h
        rw [if_neg (by simpa using h), if_pos he]; simp
      · rw [if_pos h, if_neg (fun e => h (by rw [e]))]
    · simp [lessE, botE]
  · simp only [if_true, Bool.true_or]
    cases h2 : b.loI <;> simp [lessE, topE, botE]
set_option maxRecDepth 100000 in
set_option maxHeartbeats 4000000 in
theorem apart_c (x y : Itv) (w : World) (hx : goodB x = true) (hy : goodB y = true) : Calls Tryz.prog 157 #[itA x, itA y] w (RetV w (.bool (lessE (hiE x) (loE y)))) := by
  have hs := Lib.hid (less_apart hx hy)
  have hl : (x.hiI || y.loI) = false → ∀ w, Calls Tryz.prog 167 #[raA x.hi, raA y.lo] w (RetV w (.bool (lessR x.hi y.lo))) := fun h w => by
    obtain ⟨h1, h2⟩ : x.hiI = false ∧ y.loI = false := by simpa using h
    exact rless_c x.hi y.lo w (smallB_bd (goodB.smhi hx h1)) (smallB_bd (goodB.smlo hy h2))
  generalize lessE (hiE x) (loE y) = q at *
  clear hx hy
  obtain ⟨⟨a, b⟩, ⟨c, d⟩, lO, rO, lI, rI⟩ := x
  obtain ⟨⟨a', b'⟩, ⟨c', d'⟩, lO', rO', lI', rI'⟩ := y
  unfold itA raA at *
  dsimp only at *
  generalize lessR _ _ = ls at *
  replace hl := Lib.hid hl
  have hw := (Ext.new w (.cells #[.int .i64 a, .int .i64 b, .int .i64 c, .int .i64 d, .bool lO, .bool rO, .bool lI, .bool rI] 96)).alloc' (.cells #[.int .i64 a', .int .i64 b', .int .i64 c', .int .i64 d', .bool lO', .bool rO', .bool lI', .bool rI'] 96)
  cases rI with
  | true =>
    go_enter Tryz.func157, Tryz.ntmps157
    go_wp2_with fail
    go_ret
    exact ⟨ret_bool (by rw [hs.out]; simp), hw⟩
  | false =>
    cases lI' with
    | true =>
      go_enter Tryz.func157, Tryz.ntmps157
      go_wp2_with fail
      go_ret
      exact ⟨ret_bool (by rw [hs.out]; simp), hw⟩
    | false =>
      have hl2 := hl.out (by rfl)
      by_cases h1 : c = a'
      · subst h1
        by_cases h2 : d = b'
        · subst h2
          cases rO <;>
            (go_enter Tryz.func157, Tryz.ntmps157
             go_wp2_with fail
             go_ret
             exact ⟨ret_bool (by rw [hs.out]; simp), hw⟩)
        · have hb : (d == b') = false := by simpa using h2
          replace hl2 := Lib.hid hl2
          have hs2 : Hid (q = ls) := Lib.hid (by rw [hs.out]; simp [h2])
          clear h2
          go_enter Tryz.func157, Tryz.ntmps157
          go_wp2_with fail
          refine RetV_at (hl2.out _) ?_
          intro w5 hx5
          go_wp2_with fail
          go_ret
          exact ⟨ret_bool (by rw [hs2.out]), hw.then hx5⟩
      · have hb : (c == a') = false := by simpa using h1
        replace hl2 := Lib.hid hl2
        have hs2 : Hid (q = ls) := Lib.hid (by rw [hs.out]; simp [h1])
        clear h1
        go_enter Tryz.func157, Tryz.ntmps157
        go_wp2_with fail
        refine RetV_at (hl2.out _) ?_
        intro w5 hx5
        go_wp2_with fail
        go_ret
        exact ⟨ret_bool (by rw [hs2.out]), hw.then hx5⟩
end Go.Proofs.YtbpilielamjnoaaGreat
namespace Go.Proofs.YtbpilielamjnoaaGreat
open Go.RowKit Go.Shelf
set_option linter.unusedSimpArgs false
set_option linter.unusedVariables false
set_option maxRecDepth 100000 in
set_option maxHeartbeats 8000000 in
theorem rvalid4_c (v : Value) (l : List Itv) (w : World) (hr : ItvsR (ph w) v l) : Calls Tryz.prog 124 #[v] w (RetV w (.int .i64 (setE l))) := by
  obtain ⟨a, c, rfl, hlen, hr⟩ := hr.form
  have hE : Hid (setE l = if setF none l = false then 1 else if 32 < l.length then 4 else 0) := rfl
  go_enter Tryz.func124, Tryz.ntmps124
  go_wp2_with fail
  go_loopw [3] (fun i wr => ∃ k : Nat, k ≤ l.length ∧ i = .int .i64 k ∧ Hid (setF none l = setF (prv l k) (l.drop k) ∧ ∀ x ∈ l.take k, goodB x = true) ∧ Ext w wr) (fun i _ => l.length - (intOf i).toNat)
  case atStart => exact ⟨0, Nat.zero_le _, rfl, Lib.hid ⟨rfl, by simp⟩, Ext.rfl' _⟩
  case round =>
    obtain ⟨k, hk, rfl, ho, hx⟩ := hrel
    by_cases hlt : k < l.length
    · obtain ⟨b, o, rfl, h0, h1, h2, h3, h4, h5, h6, h7, hbl, hI⟩ := ItvsR.at (hr.mono mono_ItvR hx.ple) k hlt
      have hja : decide (k < l.length) = true := decide_eq_true hlt
      have hgood := fun w => rgood_c l[k] w
      have hg0 := fun (hg : goodB l[k] = false) => setF_good hlt hg
      have hg1 := fun (hg : goodB l[k] = true) => take_all hlt hg ho.out.2
      have hk0 := fun (h : k = 0) (hg : goodB l[k] = true) => show setF (prv l k) (l.drop k) = setF (prv l (k + 1)) (l.drop (k + 1)) by
        subst h; rw [setF_zero hlt, hg, Bool.true_and]
      have hk1 := fun (h : 0 < k) => setF_drop hlt h
      have hap := fun (h : 0 < k) (hg : goodB l[k] = true) w => apart_c (l[k - 1]'(by omega)) l[k] w (ho.out.2 _ (by rw [List.mem_take_iff_getElem]; exact ⟨k - 1, by omega, rfl⟩)) hg
      have hrow := fun (h : 0 < k) => ItvsR.at (hr.mono mono_ItvR hx.ple) (k - 1) (by omega)
      obtain ⟨y, hy⟩ : ∃ y, ∀ h : 0 < k, y = l[k - 1]'(by omega) := by
        by_cases h : 0 < k
        · exact ⟨l[k - 1]'(by omega), fun _ => rfl⟩
        · exact ⟨l[k], fun h' => absurd h' h⟩
      have hap' : ∀ (h : 0 < k) (hg : goodB l[k] = true) w, Calls Tryz.prog 157 #[itA y, itA l[k]] w (RetV w (.bool (lessE (hiE y) (loE l[k])))) := fun h hg w => by
        rw [hy h]; exact hap h hg w
      have hk1' : ∀ h : 0 < k, setF (prv l k) (l.drop k) = (goodB l[k] && lessE (hiE y) (loE l[k]) && setF (prv l (k + 1)) (l.drop (k + 1))) := fun h => by
        rw [hy h]; exact hk1 h
      have hrow' : ∀ h : 0 < k, wr.cell? ⟨b, o + (k - 1) * 8, none⟩ = some (.int .i64 y.lo.num) ∧ wr.cell? ⟨b, o + (k - 1) * 8 + 1, none⟩ = some (.int .i64 y.lo.den) ∧ wr.cell? ⟨b, o + (k - 1) * 8 + 2, none⟩ = some (.int .i64 y.hi.num) ∧ wr.cell? ⟨b, o + (k - 1) * 8 + 3, none⟩ = some (.int .i64 y.hi.den) ∧ wr.cell? ⟨b, o + (k - 1) * 8 + 4, none⟩ = some (.bool y.loO) ∧ wr.cell? ⟨b, o + (k - 1) * 8 + 5, none⟩ = some (.bool y.hiO) ∧ wr.cell? ⟨b, o + (k - 1) * 8 + 6, none⟩ = some (.bool y.loI) ∧ wr.cell? ⟨b, o + (k - 1) * 8 + 7, none⟩ = some (.bool y.hiI) := fun h => by
        obtain ⟨b', o', e, q0, q1, q2, q3, q4, q5, q6, q7, -⟩ := hrow h
        cases e
        rw [hy h]
        exact ⟨q0, q1, q2, q3, q4, q5, q6, q7⟩
      clear hap hk1 hrow hy
      generalize lessE (hiE y) (loE l[k]) = lt at *
      unfold itA at hgood hap'
      generalize goodB l[k] = gd at *
      generalize l[k] = x at *
      clear hI
      obtain ⟨⟨p, q⟩, ⟨r, s⟩, lO, rO, lI, rI⟩ := x
      obtain ⟨⟨p', q'⟩, ⟨r', s'⟩, lO', rO', lI', rI'⟩ := y
      dsimp only at *
      replace hgood := Lib.hid hgood
      replace hap' := Lib.hid hap'
      replace hk0 := Lib.hid hk0
      replace hk1' := Lib.hid hk1'
      replace hg0 := Lib.hid hg0
      replace hg1 := Lib.hid hg1
      replace hrow' := Lib.hid hrow'
      have hE1 : Hid (setF none l = false → setE l = 1) := Lib.hid fun h => by rw [hE.out, if_pos h]
      go_wp2_with fail
      refine RetV_at (hgood.out _) ?_
      intro w2 hx2
      replace hx := hx.then hx2
      replace h0 := hx2.cell1 h0
      replace h1 := hx2.cell1 h1
      replace h2 := hx2.cell1 h2
      replace h3 := hx2.cell1 h3
      replace h4 := hx2.cell1 h4
      replace h5 := hx2.cell1 h5
      replace h6 := hx2.cell1 h6
      replace h7 := hx2.cell1 h7
      replace hbl := cell_lt h0
      cases gd with
      | false =>
        have h9 : Hid (setE l = 1) := Lib.hid (hE1.out (by rw [ho.out.1]; exact hg0.out rfl))
        clear hrow' hap' hk0 hk1'
        go_wp2_with fail
        (refine wp_region_I 19 (by kernel_rfl) (by kernel_rfl) ?_; simp only [List.toList_toArray, List.take_succ_cons, List.take_zero, List.drop_succ_cons, List.drop_zero])
        iterate 3 (refine walkI_is (u := ?_) rfl (by simp) rfl ?_ ?_; rotate_left; (focus (intro A w' hS hA K hK; (simp only [List.map_cons, List.map_nil, knows, Is, Op.operands, Call.operands, List.lookup_cons, List.lookup_nil, Nat.reduceBEq, Bool.false_eq_true, if_false, if_true, Act.eval, Array.getD_eq_getD_getElem?, List.getElem?_toArray, List.getElem?_cons_succ, List.getElem?_cons_zero, Option.getD_some, and_true, true_and, List.append_toArray, List.nil_append, List.cons_append, List.toList_toArray, Array.toList_append, Option.toArray, List.append_nil] at hA); (obtain ⟨hSc, hSf, hSs⟩ := hS.cells; go_simp; exact hK _ (by first | exact Ext.rfl' _ | exact Ext.new _ _ | assumption)))); (try simp only [List.nil_append, List.cons_append]))
        iterate 15 (refine walkI_no rfl (by simp) rfl rfl rfl ?_ ?_; (focus (simp [undef]; done)); (try simp only [List.nil_append, List.cons_append]))
        (refine walkI_is (u := ?_) rfl (by simp) rfl ?_ ?_; rotate_left; (focus (intro A w' hS hA K hK; (simp only [List.map_cons, List.map_nil, knows, Is, Op.operands, Call.operands, List.lookup_cons, List.lookup_nil, Nat.reduceBEq, Bool.false_eq_true, if_false, if_true, Act.eval, Array.getD_eq_getD_getElem?, List.getElem?_toArray, List.getElem?_cons_succ, List.getElem?_cons_zero, Option.getD_some, and_true, true_and, List.append_toArray, List.nil_append, List.cons_append, List.toList_toArray, Array.toList_append, Option.toArray, List.append_nil] at hA); (obtain ⟨hSc, hSf, hSs⟩ := hS.cells; go_simp; exact hK _ (by first | exact Ext.rfl' _ | exact Ext.new _ _ | assumption)))); (try simp only [List.nil_append, List.cons_append]))
        (refine walkI_nil ?_; simp only [List.nil_append, List.cons_append, fins, Is, forall_eq, Act.put, List.setIfInBounds_toArray, List.set_cons_zero, List.set_cons_succ])
        intro w3 hx3
        go_wp2_with fail
        go_ret
        exact ⟨ret_int h9.out.symm, hx.then hx3⟩
      | true =>
        by_cases hk00 : k = 0
        · have h8 : Hid (setF none l = setF (prv l (k + 1)) (l.drop (k + 1)) ∧ ∀ x ∈ l.take (k + 1), goodB x = true) := Lib.hid ⟨by rw [ho.out.1]; exact hk0.out hk00 (by first | trivial | rfl), hg1.out (by first | trivial | rfl)⟩
          have hkb : decide (0 < k) = false := by simpa using hk00
          clear hk0 hk1' hrow' hap'
          replace hk00 := Lib.hid hk00
          go_wp2_with fail
          (refine wp_region_I 19 (by kernel_rfl) (by kernel_rfl) ?_; simp only [List.toList_toArray, List.take_succ_cons, List.take_zero, List.drop_succ_cons, List.drop_zero])
          iterate 3 (refine walkI_is (u := ?_) rfl (by simp) rfl ?_ ?_; rotate_left; (focus (intro A w' hS hA K hK; (simp only [List.map_cons, List.map_nil, knows, Is, Op.operands, Call.operands, List.lookup_cons, List.lookup_nil, Nat.reduceBEq, Bool.false_eq_true, if_false, if_true, Act.eval, Array.getD_eq_getD_getElem?, List.getElem?_toArray, List.getElem?_cons_succ, List.getElem?_cons_zero, Option.getD_some, and_true, true_and, List.append_toArray, List.nil_append, List.cons_append, List.toList_toArray, Array.toList_append, Option.toArray, List.append_nil] at hA); (obtain ⟨hSc, hSf, hSs⟩ := hS.cells; go_simp; exact hK _ (by first | exact Ext.rfl' _ | exact Ext.new _ _ | assumption)))); (try simp only [List.nil_append, List.cons_append]))
          iterate 3 (refine walkI_yesis (u := ?_) rfl (by simp) rfl rfl rfl ?_ ?_; rotate_left; (focus (intro A w' hS hA K hK; (simp only [List.map_cons, List.map_nil, knows, Is, Op.operands, Call.operands, List.lookup_cons, List.lookup_nil, Nat.reduceBEq, Bool.false_eq_true, if_false, if_true, Act.eval, Array.getD_eq_getD_getElem?, List.getElem?_toArray, List.getElem?_cons_succ, List.getElem?_cons_zero, Option.getD_some, and_true, true_and, List.append_toArray, List.nil_append, List.cons_append, List.toList_toArray, Array.toList_append, Option.toArray, List.append_nil] at hA); (obtain ⟨hSc, hSf, hSs⟩ := hS.cells; go_simp; exact hK _ (by first | exact Ext.rfl' _ | exact Ext.new _ _ | assumption)))); (try simp only [List.nil_append, List.cons_append]))
          iterate 11 (refine walkI_no rfl (by simp) rfl rfl rfl ?_ ?_; (focus (simp [undef]; done)); (try simp only [List.nil_append, List.cons_append]))
          (refine walkI_yesis (u := ?_) rfl (by simp) rfl rfl rfl ?_ ?_; rotate_left; (focus (intro A w' hS hA K hK; (simp only [List.map_cons, List.map_nil, knows, Is, Op.operands, Call.operands, List.lookup_cons, List.lookup_nil, Nat.reduceBEq, Bool.false_eq_true, if_false, if_true, Act.eval, Array.getD_eq_getD_getElem?, List.getElem?_toArray, List.getElem?_cons_succ, List.getElem?_cons_zero, Option.getD_some, and_true, true_and, List.append_toArray, List.nil_append, List.cons_append, List.toList_toArray, Array.toList_append, Option.toArray, List.append_nil] at hA); (obtain ⟨hSc, hSf, hSs⟩ := hS.cells; go_simp; exact hK _ (by first | exact Ext.rfl' _ | exact Ext.new _ _ | assumption)))); (try simp only [List.nil_append, List.cons_append]))
          (refine walkI_is (u := ?_) rfl (by simp) rfl ?_ ?_; rotate_left; (focus (intro A w' hS hA K hK; (simp only [List.map_cons, List.map_nil, knows, Is, Op.operands, Call.operands, List.lookup_cons, List.lookup_nil, Nat.reduceBEq, Bool.false_eq_true, if_false, if_true, Act.eval, Array.getD_eq_getD_getElem?, List.getElem?_toArray, List.getElem?_cons_succ, List.getElem?_cons_zero, Option.getD_some, and_true, true_and, List.append_toArray, List.nil_append, List.cons_append, List.toList_toArray, Array.toList_append, Option.toArray, List.append_nil] at hA); (obtain ⟨hSc, hSf, hSs⟩ := hS.cells; go_simp; exact hK _ (by first | exact Ext.rfl' _ | exact Ext.new _ _ | assumption)))); (try simp only [List.nil_append, List.cons_append]))
          (refine walkI_nil ?_; simp only [List.nil_append, List.cons_append, fins, Is, forall_eq, Act.put, List.setIfInBounds_toArray, List.set_cons_zero, List.set_cons_succ])
          intro w3 hx3
          go_wp2_with fail
          go_roundw
          case rel => exact ⟨k + 1, by omega, by go_num, h8.out, hx.then hx3⟩
          case measure => simp [intOf]; omega
        · have hkb : decide (0 < k) = true := by simp; omega
          have hkp : 0 < k := by omega
          have hkm : IntKind.i64.wrap ((k : Int) - 1) = ((k - 1 : Nat) : Int) := by rw [IntKind.wrap_i64]; omega
          obtain ⟨q0, q1, q2, q3, q4, q5, q6, q7⟩ := hrow'.out hkp
          replace q0 := hx2.cell1 q0
          replace q1 := hx2.cell1 q1
          replace q2 := hx2.cell1 q2
          replace q3 := hx2.cell1 q3
          replace q4 := hx2.cell1 q4
          replace q5 := hx2.cell1 q5
          replace q6 := hx2.cell1 q6
          replace q7 := hx2.cell1 q7
          have hk1m : k - 1 < l.length := by omega
          have hk1i : ((k - 1 : Nat) : Int) < (l.length : Int) := by omega
          have hc := hap'.out hkp (by first | trivial | rfl)
          replace hc := Lib.hid hc
          have hs := hk1'.out hkp
          replace hs := Lib.hid hs
          clear hrow' hk0 hap' hk1'
          go_wp2_with fail
          (refine wp_region_I 19 (by kernel_rfl) (by kernel_rfl) ?_; simp only [List.toList_toArray, List.take_succ_cons, List.take_zero, List.drop_succ_cons, List.drop_zero])
          iterate 3 (refine walkI_is (u := ?_) rfl (by simp) rfl ?_ ?_; rotate_left; (focus (intro A w' hS hA K hK; (simp only [List.map_cons, List.map_nil, knows, Is, Op.operands, Call.operands, List.lookup_cons, List.lookup_nil, Nat.reduceBEq, Bool.false_eq_true, if_false, if_true, Act.eval, Array.getD_eq_getD_getElem?, List.getElem?_toArray, List.getElem?_cons_succ, List.getElem?_cons_zero, Option.getD_some, and_true, true_and, List.append_toArray, List.nil_append, List.cons_append, List.toList_toArray, Array.toList_append, Option.toArray, List.append_nil] at hA); (obtain ⟨hSc, hSf, hSs⟩ := hS.cells; go_simp; exact hK _ (by first | exact Ext.rfl' _ | exact Ext.new _ _ | assumption)))); (try simp only [List.nil_append, List.cons_append]))
          iterate 12 (refine walkI_yesis (u := ?_) rfl (by simp) rfl rfl rfl ?_ ?_; rotate_left; (focus (intro A w' hS hA K hK; (simp only [List.map_cons, List.map_nil, knows, Is, Op.operands, Call.operands, List.lookup_cons, List.lookup_nil, Nat.reduceBEq, Bool.false_eq_true, if_false, if_true, Act.eval, Array.getD_eq_getD_getElem?, List.getElem?_toArray, List.getElem?_cons_succ, List.getElem?_cons_zero, Option.getD_some, and_true, true_and, List.append_toArray, List.nil_append, List.cons_append, List.toList_toArray, Array.toList_append, Option.toArray, List.append_nil] at hA); (obtain ⟨hSc, hSf, hSs⟩ := hS.cells; go_simp; exact hK _ (by first | exact Ext.rfl' _ | exact Ext.new _ _ | assumption)))); (try simp only [List.nil_append, List.cons_append]))
          (refine walkI_yesis (u := ?_) rfl (by simp) rfl rfl rfl ?_ ?_; rotate_left; (focus (intro A w' hS hA K hK; (simp only [List.map_cons, List.map_nil, knows, Is, Op.operands, Call.operands, List.lookup_cons, List.lookup_nil, Nat.reduceBEq, Bool.false_eq_true, if_false, if_true, Act.eval, Array.getD_eq_getD_getElem?, List.getElem?_toArray, List.getElem?_cons_succ, List.getElem?_cons_zero, Option.getD_some, and_true, true_and, List.append_toArray, List.nil_append, List.cons_append, List.toList_toArray, Array.toList_append, Option.toArray, List.append_nil] at hA); first | (go_simp; refine RetV_at (hc.out w') ?_; intro w6 hx6; exact hK _ hx6) | (obtain ⟨hSc, hSf, hSs⟩ := hS.cells; go_simp; exact hK _ (by first | exact Ext.rfl' _ | exact Ext.new _ _ | assumption)))); (try simp only [List.nil_append, List.cons_append]))
          iterate 2 (refine walkI_yesis (u := ?_) rfl (by simp) rfl rfl rfl ?_ ?_; rotate_left; (focus (intro A w' hS hA K hK; (simp only [List.map_cons, List.map_nil, knows, Is, Op.operands, Call.operands, List.lookup_cons, List.lookup_nil, Nat.reduceBEq, Bool.false_eq_true, if_false, if_true, Act.eval, Array.getD_eq_getD_getElem?, List.getElem?_toArray, List.getElem?_cons_succ, List.getElem?_cons_zero, Option.getD_some, and_true, true_and, List.append_toArray, List.nil_append, List.cons_append, List.toList_toArray, Array.toList_append, Option.toArray, List.append_nil] at hA); (obtain ⟨hSc, hSf, hSs⟩ := hS.cells; go_simp; exact hK _ (by first | exact Ext.rfl' _ | exact Ext.new _ _ | assumption)))); (try simp only [List.nil_append, List.cons_append]))
          (refine walkI_is (u := ?_) rfl (by simp) rfl ?_ ?_; rotate_left; (focus (intro A w' hS hA K hK; (simp only [List.map_cons, List.map_nil, knows, Is, Op.operands, Call.operands, List.lookup_cons, List.lookup_nil, Nat.reduceBEq, Bool.false_eq_true, if_false, if_true, Act.eval, Array.getD_eq_getD_getElem?, List.getElem?_toArray, List.getElem?_cons_succ, List.getElem?_cons_zero, Option.getD_some, and_true, true_and, List.append_toArray, List.nil_append, List.cons_append, List.toList_toArray, Array.toList_append, Option.toArray, List.append_nil] at hA); (obtain ⟨hSc, hSf, hSs⟩ := hS.cells; go_simp; exact hK _ (by first | exact Ext.rfl' _ | exact Ext.new _ _ | assumption)))); (try simp only [List.nil_append, List.cons_append]))
          (refine walkI_nil ?_; simp only [List.nil_append, List.cons_append, fins, Is, forall_eq, Act.put, List.setIfInBounds_toArray, List.set_cons_zero, List.set_cons_succ])
          intro w3 hx3
          replace hx := hx.then hx3
          cases lt with
          | false =>
            have h9 : Hid (setE l = 1) := Lib.hid (hE1.out (by rw [ho.out.1, hs.out]; rfl))
            go_wp2_with fail
            go_ret
            exact ⟨ret_int h9.out.symm, hx⟩
          | true =>
            have h8 : Hid (setF none l = setF (prv l (k + 1)) (l.drop (k + 1)) ∧ ∀ x ∈ l.take (k + 1), goodB x = true) := Lib.hid ⟨by rw [ho.out.1, hs.out]; simp, hg1.out (by first | trivial | rfl)⟩
            clear q0 q1 q2 q3 q4 q5 q6 q7 h0 h1 h2 h3 h4 h5 h6 h7
            go_wp2_with fail
            go_roundw
            case rel => exact ⟨k + 1, by omega, by go_num, h8.out, hx⟩
            case measure => simp [intOf]; omega
    · have hja : decide (k < l.length) = false := by simpa using hlt
      have hk2 : k = l.length := by omega
      have h9 : Hid (setE l = if 32 < l.length then 4 else 0) := Lib.hid (by
        have h1 := ho.out.1
        rw [hk2, List.drop_length] at h1
        rw [hE.out, if_neg (by rw [h1]; simp [setF])])
      by_cases h32 : 32 < l.length
      · rw [if_pos h32] at h9
        go_wp2_with fail
        go_ret
        exact ⟨ret_int h9.out.symm, hx⟩
      · rw [if_neg h32] at h9
        go_wp2_with fail
        go_ret
        exact ⟨ret_int h9.out.symm, hx⟩
end Go.Proofs.YtbpilielamjnoaaGreat
namespace Go.Proofs.YtbpilielamjnoaaGreat
open Go.RowKit
set_option linter.unusedSimpArgs false
set_option linter.unusedVariables false
set_option maxHeartbeats 1000000 in
theorem rformed_c (f : Fm) (cs : List Value) (w : World) (hr : FmR (ph w) cs f) : Calls Tryz.prog 82 #[.agg cs.toArray] w (RetV w (.bool (formed1 f))) := by
  obtain ⟨a3, c3, a4, c4, rfl, -, -, hil, hkl, hi, hk⟩ := hr.form
  unfold fmC
  obtain ⟨op, n, inn, kids⟩ := f
  simp only [Fm.op, Fm.n, Fm.inn, Fm.kids] at *
  clear hr
  by_cases h2 : op = 2
  · subst h2
    by_cases hk0 : kids.length = 0
    · by_cases hn0 : 0 ≤ n
      · by_cases hn1 : n < 32
        · have hv : Hid (formed1 (.mk 2 n inn kids) = (setE inn == 0)) := by
            show _ = _
            rw [formed1_mk]
            have : kids.isEmpty = true := by rw [List.isEmpty_iff]; exact List.eq_nil_of_length_eq_zero hk0
            simp [this, hn0, hn1]
            rfl
          have hc := Lib.hid hi
          clear hi hk
          have b1 : decide (0 ≤ n) = true := by simpa using hn0
          have b2 : decide (n < 32) = true := by simpa using hn1
          have b3 : ((kids.length : Int) == 0) = true := by simpa using hk0
          go_enter Tryz.func82, Tryz.ntmps82
          go_wp2_with fail
          refine RetV_at (rvalid4_c _ inn _ (hc.out.mono mono_ItvR (Ext.ple (by with_reducible repeat (first | assumption | exact Ext.rfl' _ | exact Ext.new _ _ | refine Ext.alloc' ?_ _ | refine Ext.drew' ?_ | refine Ext.drewN' ?_ _ | (refine Ext.then (b := ?_) ?_ ?_; rotate_left; rotate_left; assumption)))))) ?_
          intro w1 hx1
          generalize setE inn = e at *
          go_wp2_with fail
          go_ret
          exact ⟨ret_bool hv.out.symm, (by with_reducible repeat (first | assumption | exact Ext.rfl' _ | exact Ext.new _ _ | refine Ext.alloc' ?_ _ | refine Ext.drew' ?_ | refine Ext.drewN' ?_ _ | (refine Ext.then (b := ?_) ?_ ?_; rotate_left; rotate_left; assumption)))⟩
        · have hv : Hid (formed1 (.mk 2 n inn kids) = false) := by
            show _ = _
            rw [formed1_mk]
            simp [hn1]
          have b1 : decide (0 ≤ n) = true := by simpa using hn0
          have b2 : decide (n < 32) = false := by simpa using hn1
          have b3 : ((kids.length : Int) == 0) = true := by simpa using hk0
          clear hi hk
          go_enter Tryz.func82, Tryz.ntmps82
          go_wp2_with fail
          go_ret
          exact ⟨ret_bool hv.out.symm, (by with_reducible repeat (first | assumption | exact Ext.rfl' _ | exact Ext.new _ _ | refine Ext.alloc' ?_ _ | refine Ext.drew' ?_ | refine Ext.drewN' ?_ _ | (refine Ext.then (b := ?_) ?_ ?_; rotate_left; rotate_left; assumption)))⟩
      · have hv : Hid (formed1 (.mk 2 n inn kids) = false) := by
          show _ = _
          rw [formed1_mk]
          simp [hn0]
        have b1 : decide (0 ≤ n) = false := by simpa using hn0
        have b3 : ((kids.length : Int) == 0) = true := by simpa using hk0
        clear hi hk
        go_enter Tryz.func82, Tryz.ntmps82
        go_wp2_with fail
        go_ret
        exact ⟨ret_bool hv.out.symm, (by with_reducible repeat (first | assumption | exact Ext.rfl' _ | exact Ext.new _ _ | refine Ext.alloc' ?_ _ | refine Ext.drew' ?_ | refine Ext.drewN' ?_ _ | (refine Ext.then (b := ?_) ?_ ?_; rotate_left; rotate_left; assumption)))⟩
    · have hv : Hid (formed1 (.mk 2 n inn kids) = false) := by
        show _ = _
        rw [formed1_mk]
        have : kids.isEmpty = false := by cases kids <;> simp_all
        simp [this]
      have b3 : ((kids.length : Int) == 0) = false := by simpa using hk0
      clear hi hk
      go_enter Tryz.func82, Tryz.ntmps82
      go_wp2_with fail
      go_ret
      exact ⟨ret_bool hv.out.symm, (by with_reducible repeat (first | assumption | exact Ext.rfl' _ | exact Ext.new _ _ | refine Ext.alloc' ?_ _ | refine Ext.drew' ?_ | refine Ext.drewN' ?_ _ | (refine Ext.then (b := ?_) ?_ ?_; rotate_left; rotate_left; assumption)))⟩
  have a2 : (op == 2) = false := by simpa using h2
  have c2' : (op != 2) = true := by simpa using h2
  by_cases hin : 0 < inn.length
  · have hv : Hid (formed1 (.mk op n inn kids) = false) := by
      show _ = _
      rw [formed1_mk]
      have : inn ≠ [] := by intro e; subst e; simp at hin
      simp [h2, this]
    have b1 : decide (0 < (inn.length : Int)) = true := by simpa using hin
    clear hi hk
    go_enter Tryz.func82, Tryz.ntmps82
    go_wp2_with fail
    go_ret
    exact ⟨ret_bool hv.out.symm, (by with_reducible repeat (first | assumption | exact Ext.rfl' _ | exact Ext.new _ _ | refine Ext.alloc' ?_ _ | refine Ext.drew' ?_ | refine Ext.drewN' ?_ _ | (refine Ext.then (b := ?_) ?_ ?_; rotate_left; rotate_left; assumption)))⟩
  have hin' : inn = [] := List.eq_nil_of_length_eq_zero (by omega)
  subst hin'
  have b1 : decide (0 < (([] : List Itv).length : Int)) = false := by simp
  by_cases h1 : op = 1
  · subst h1
    by_cases hk0 : kids.length = 0
    · have b3 : ((kids.length : Int) == 0) = true := by simpa using hk0
      by_cases hn0 : 0 ≤ n
      · have hv : Hid (formed1 (.mk 1 n [] kids) = decide (n < 64)) := by
          show _ = _
          rw [formed1_mk]
          have : kids.isEmpty = true := by rw [List.isEmpty_iff]; exact List.eq_nil_of_length_eq_zero hk0
          simp [this, hn0]
        have b2 : decide (0 ≤ n) = true := by simpa using hn0
        clear hi hk
        go_enter Tryz.func82, Tryz.ntmps82
        go_wp2_with fail
        go_ret
        exact ⟨ret_bool hv.out.symm, (by with_reducible repeat (first | assumption | exact Ext.rfl' _ | exact Ext.new _ _ | refine Ext.alloc' ?_ _ | refine Ext.drew' ?_ | refine Ext.drewN' ?_ _ | (refine Ext.then (b := ?_) ?_ ?_; rotate_left; rotate_left; assumption)))⟩
      · have hv : Hid (formed1 (.mk 1 n [] kids) = false) := by
          show _ = _
          rw [formed1_mk]
          simp [hn0]
        have b2 : decide (0 ≤ n) = false := by simpa using hn0
        clear hi hk
        go_enter Tryz.func82, Tryz.ntmps82
        go_wp2_with fail
        go_ret
        exact ⟨ret_bool hv.out.symm, (by with_reducible repeat (first | assumption | exact Ext.rfl' _ | exact Ext.new _ _ | refine Ext.alloc' ?_ _ | refine Ext.drew' ?_ | refine Ext.drewN' ?_ _ | (refine Ext.then (b := ?_) ?_ ?_; rotate_left; rotate_left; assumption)))⟩
    · have hv : Hid (formed1 (.mk 1 n [] kids) = false) := by
        show _ = _
        rw [formed1_mk]
        have : kids.isEmpty = false := by cases kids <;> simp_all
        simp [this]
      have b3 : ((kids.length : Int) == 0) = false := by simpa using hk0
      clear hi hk
      go_enter Tryz.func82, Tryz.ntmps82
      go_wp2_with fail
      go_ret
      exact ⟨ret_bool hv.out.symm, (by with_reducible repeat (first | assumption | exact Ext.rfl' _ | exact Ext.new _ _ | refine Ext.alloc' ?_ _ | refine Ext.drew' ?_ | refine Ext.drewN' ?_ _ | (refine Ext.then (b := ?_) ?_ ?_; rotate_left; rotate_left; assumption)))⟩
  have a1 : (op == 1) = false := by simpa using h1
  have c1' : (op != 1) = true := by simpa using h1
  by_cases hn : n = 0
  · subst hn
    clear hi hk
    by_cases h0 : op = 0
    · subst h0
      have hv : Hid (formed1 (.mk 0 0 [] kids) = ((kids.length : Int) == 0)) := by show _ = _; rw [formed1_mk, ← emp_len]; simp
      go_enter Tryz.func82, Tryz.ntmps82
      go_wp2_with fail
      go_ret
      exact ⟨ret_bool hv.out.symm, (by with_reducible repeat (first | assumption | exact Ext.rfl' _ | exact Ext.new _ _ | refine Ext.alloc' ?_ _ | refine Ext.drew' ?_ | refine Ext.drewN' ?_ _ | (refine Ext.then (b := ?_) ?_ ?_; rotate_left; rotate_left; assumption)))⟩
    have a0 : (op == 0) = false := by simpa using h0
    by_cases h3 : op = 3
    · subst h3
      have hv : Hid (formed1 (.mk 3 0 [] kids) = ((kids.length : Int) == 1)) := by show _ = _; rw [formed1_mk, ← len1]; simp
      go_enter Tryz.func82, Tryz.ntmps82
      go_wp2_with fail
      go_ret
      exact ⟨ret_bool hv.out.symm, (by with_reducible repeat (first | assumption | exact Ext.rfl' _ | exact Ext.new _ _ | refine Ext.alloc' ?_ _ | refine Ext.drew' ?_ | refine Ext.drewN' ?_ _ | (refine Ext.then (b := ?_) ?_ ?_; rotate_left; rotate_left; assumption)))⟩
    have a3' : (op == 3) = false := by simpa using h3
    by_cases h6 : op = 6
    · subst h6
      have hv : Hid (formed1 (.mk 6 0 [] kids) = ((kids.length : Int) == 1)) := by show _ = _; rw [formed1_mk, ← len1]; simp
      go_enter Tryz.func82, Tryz.ntmps82
      go_wp2_with fail
      go_ret
      exact ⟨ret_bool hv.out.symm, (by with_reducible repeat (first | assumption | exact Ext.rfl' _ | exact Ext.new _ _ | refine Ext.alloc' ?_ _ | refine Ext.drew' ?_ | refine Ext.drewN' ?_ _ | (refine Ext.then (b := ?_) ?_ ?_; rotate_left; rotate_left; assumption)))⟩
    have a6 : (op == 6) = false := by simpa using h6
    by_cases h4 : op = 4
    · subst h4
      have hv : Hid (formed1 (.mk 4 0 [] kids) = true) := by show _ = _; rw [formed1_mk]; simp
      go_enter Tryz.func82, Tryz.ntmps82
      go_wp2_with fail
      go_ret
      exact ⟨ret_bool hv.out.symm, (by with_reducible repeat (first | assumption | exact Ext.rfl' _ | exact Ext.new _ _ | refine Ext.alloc' ?_ _ | refine Ext.drew' ?_ | refine Ext.drewN' ?_ _ | (refine Ext.then (b := ?_) ?_ ?_; rotate_left; rotate_left; assumption)))⟩
    have a4' : (op == 4) = false := by simpa using h4
    have hv : Hid (formed1 (.mk op 0 [] kids) = (op == 5)) := by show _ = _; rw [formed1_mk, if_neg (by simp), if_neg h0, if_neg h1, if_neg h2, if_neg (by omega), decide_eq_false h4, Bool.false_or, Bool.eq_iff_iff]; simp
    go_enter Tryz.func82, Tryz.ntmps82
    go_wp2_with fail
    go_ret
    exact ⟨ret_bool hv.out.symm, (by with_reducible repeat (first | assumption | exact Ext.rfl' _ | exact Ext.new _ _ | refine Ext.alloc' ?_ _ | refine Ext.drew' ?_ | refine Ext.drewN' ?_ _ | (refine Ext.then (b := ?_) ?_ ?_; rotate_left; rotate_left; assumption)))⟩
  · have hv : Hid (formed1 (.mk op n [] kids) = false) := by
      show _ = _
      rw [formed1_mk]
      simp [h2, h1, hn]
    have b2 : (n == 0) = false := by simpa using hn
    have b4 : (n != 0) = true := by simpa using hn
    clear hi hk
    go_enter Tryz.func82, Tryz.ntmps82
    go_wp2_with fail
    go_ret
    exact ⟨ret_bool hv.out.symm, (by with_reducible repeat (first | assumption | exact Ext.rfl' _ | exact Ext.new _ _ | refine Ext.alloc' ?_ _ | refine Ext.drew' ?_ | refine Ext.drewN' ?_ _ | (refine Ext.then (b := ?_) ?_ ?_; rotate_left; rotate_left; assumption)))⟩
end Go.Proofs.YtbpilielamjnoaaGreat
namespace Go.Proofs.YtbpilielamjnoaaGreat
open Go.RowKit
set_option linter.unusedSimpArgs false
set_option linter.unusedVariables false
set_option maxHeartbeats 400000 in
theorem rfsize_c (f : Fm) : ∀ (cs : List Value) (w : World), FmR (ph w) cs f → f.size < 1000000 →
    Calls Tryz.prog 14 #[.agg cs.toArray] w (RetV w (.int .i64 f.size)) := by
  induction f using Fm.ind with
  | h f ih =>
    intro cs w hr hs
    obtain ⟨a3, c3, a4, c4, rfl, -, -, -, hlen, -, hp⟩ := hr.form
    unfold fmC
    rw [Fm.size_eq] at hs
    go_enter Tryz.func14, Tryz.ntmps14
    go_wp2
    go_loopw [3, 4] (fun n i wr => ∃ k : Nat, k ≤ f.kids.length ∧ i = .int .i64 k ∧ n = .int .i64 (1 + sumN Fm.size (f.kids.take k) : Nat) ∧ Own wr w.heap.size #[.int .i64 f.op, .int .i64 f.n, .slice a3 f.inn.length c3, .slice a4 f.kids.length c4] 29 ∧ Ext w wr) (fun _ i _ => f.kids.length - (intOf i).toNat)
    case atStart => exact ⟨0, Nat.zero_le _, rfl, by simp [sumN], (by repeat (first | (with_reducible assumption) | (with_reducible exact Own.new _ _ _) | (with_reducible refine Own.new' _ _ _ ?_; (focus (simp; done))) | (with_reducible refine Own.alloc ?_ _) | (with_reducible refine Own.drew ?_) | (with_reducible refine Own.drewN ?_ _) | (with_reducible refine Own.keep (w := ?_) ?_ ?_; rotate_left; (with_reducible assumption); (exact (by with_reducible repeat (first | assumption | exact Ext.rfl' _ | exact Ext.new _ _ | refine Ext.alloc' ?_ _ | refine Ext.drew' ?_ | refine Ext.drewN' ?_ _ | (refine Ext.then (b := ?_) ?_ ?_; rotate_left; rotate_left; assumption))))) | (with_reducible refine Own.keep (w := ?_) ?_ ?_; rotate_left; rotate_left; (with_reducible assumption)))), (by with_reducible repeat (first | assumption | exact Ext.rfl' _ | exact Ext.new _ _ | refine Ext.alloc' ?_ _ | refine Ext.drew' ?_ | refine Ext.drewN' ?_ _ | (refine Ext.then (b := ?_) ?_ ?_; rotate_left; rotate_left; assumption)))⟩
    case round =>
      obtain ⟨k, hk, rfl, rfl, ho, hb⟩ := hrel
      obtain ⟨hoc, hof⟩ := ho.facts
      have hst := sumN_take_le Fm.size f.kids k
      by_cases hlt : k < f.kids.length
      · have hp' := hp.mono mono_FmR hb.ple
        obtain ⟨b, o, b3, d3, b4, d4, rfl, h0, h1, h2, h3, hE, hbl⟩ := FmsR.at hp' k hlt
        unfold fmC at hE
        have H3 := Lib.hid (sumN_take Fm.size f.kids k hlt)
        have hst2 := sumN_take_le Fm.size f.kids (k+1)
        rw [H3.out] at hst2
        have H := Lib.hid ih
        clear ih hp hp'
        go_wp2_with fail
        refine (H.out _ (by simp) _ _ (mono_FmR _ _ _ _ (Ext.ple (by with_reducible repeat (first | assumption | exact Ext.rfl' _ | exact Ext.new _ _ | refine Ext.alloc' ?_ _ | refine Ext.drew' ?_ | refine Ext.drewN' ?_ _ | (refine Ext.then (b := ?_) ?_ ?_; rotate_left; rotate_left; assumption)))) hE) (by omega)).mono ?_
        rintro e w1 ⟨rfl, hb1⟩
        go_wp2_with fail
        go_roundw
        case rel => exact ⟨k + 1, by omega, by go_num, by rw [H3.out]; go_num, (by repeat (first | (with_reducible assumption) | (with_reducible exact Own.new _ _ _) | (with_reducible refine Own.new' _ _ _ ?_; (focus (simp; done))) | (with_reducible refine Own.alloc ?_ _) | (with_reducible refine Own.drew ?_) | (with_reducible refine Own.drewN ?_ _) | (with_reducible refine Own.keep (w := ?_) ?_ ?_; rotate_left; (with_reducible assumption); (exact (by with_reducible repeat (first | assumption | exact Ext.rfl' _ | exact Ext.new _ _ | refine Ext.alloc' ?_ _ | refine Ext.drew' ?_ | refine Ext.drewN' ?_ _ | (refine Ext.then (b := ?_) ?_ ?_; rotate_left; rotate_left; assumption))))) | (with_reducible refine Own.keep (w := ?_) ?_ ?_; rotate_left; rotate_left; (with_reducible assumption)))), (by with_reducible repeat (first | assumption | exact Ext.rfl' _ | exact Ext.new _ _ | refine Ext.alloc' ?_ _ | refine Ext.drew' ?_ | refine Ext.drewN' ?_ _ | (refine Ext.then (b := ?_) ?_ ?_; rotate_left; rotate_left; assumption)))⟩
        case measure => simp [intOf]; omega
      · have hst2 : f.kids.take k = f.kids := List.take_of_length_le (by omega)
        have H3 := Lib.hid hst2
        clear hst2 ih hp
        go_wp2_with fail
        go_ret
        refine ⟨ret_int ?_, hb⟩
        rw [H3.out, Fm.size_eq]
set_option maxHeartbeats 400000 in
theorem rfdeep_c (f : Fm) : ∀ (cs : List Value) (w : World), FmR (ph w) cs f → f.deep < 1000000 →
    Calls Tryz.prog 16 #[.agg cs.toArray] w (RetV w (.int .i64 f.deep)) := by
  induction f using Fm.ind with
  | h f ih =>
    intro cs w hr hs
    obtain ⟨a3, c3, a4, c4, rfl, -, -, -, hlen, -, hp⟩ := hr.form
    unfold fmC
    rw [Fm.deep_eq] at hs
    go_enter Tryz.func16, Tryz.ntmps16
    go_wp2
    go_loopw [3, 4] (fun n i wr => ∃ k : Nat, k ≤ f.kids.length ∧ i = .int .i64 k ∧ n = .int .i64 (maxN Fm.deep (f.kids.take k) : Nat) ∧ Own wr w.heap.size #[.int .i64 f.op, .int .i64 f.n, .slice a3 f.inn.length c3, .slice a4 f.kids.length c4] 29 ∧ Ext w wr) (fun _ i _ => f.kids.length - (intOf i).toNat)
    case atStart => exact ⟨0, Nat.zero_le _, rfl, by simp [maxN], (by repeat (first | (with_reducible assumption) | (with_reducible exact Own.new _ _ _) | (with_reducible refine Own.new' _ _ _ ?_; (focus (simp; done))) | (with_reducible refine Own.alloc ?_ _) | (with_reducible refine Own.drew ?_) | (with_reducible refine Own.drewN ?_ _) | (with_reducible refine Own.keep (w := ?_) ?_ ?_; rotate_left; (with_reducible assumption); (exact (by with_reducible repeat (first | assumption | exact Ext.rfl' _ | exact Ext.new _ _ | refine Ext.alloc' ?_ _ | refine Ext.drew' ?_ | refine Ext.drewN' ?_ _ | (refine Ext.then (b := ?_) ?_ ?_; rotate_left; rotate_left; assumption))))) | (with_reducible refine Own.keep (w := ?_) ?_ ?_; rotate_left; rotate_left; (with_reducible assumption)))), (by with_reducible repeat (first | assumption | exact Ext.rfl' _ | exact Ext.new _ _ | refine Ext.alloc' ?_ _ | refine Ext.drew' ?_ | refine Ext.drewN' ?_ _ | (refine Ext.then (b := ?_) ?_ ?_; rotate_left; rotate_left; assumption)))⟩
    case round =>
      obtain ⟨k, hk, rfl, rfl, ho, hb⟩ := hrel
      obtain ⟨hoc, hof⟩ := ho.facts
      have hst := maxN_take_le Fm.deep f.kids k
      by_cases hlt : k < f.kids.length
      · have hp' := hp.mono mono_FmR hb.ple
        obtain ⟨b, o, b3, d3, b4, d4, rfl, h0, h1, h2, h3, hE, hbl⟩ := FmsR.at hp' k hlt
        unfold fmC at hE
        have H3 := Lib.hid (maxN_take Fm.deep f.kids k hlt)
        have hst2 := maxN_take_le Fm.deep f.kids (k+1)
        rw [H3.out] at hst2
        have H := Lib.hid ih
        clear ih hp hp'
        go_wp2_with fail
        refine (H.out _ (by simp) _ _ (mono_FmR _ _ _ _ (Ext.ple (by with_reducible repeat (first | assumption | exact Ext.rfl' _ | exact Ext.new _ _ | refine Ext.alloc' ?_ _ | refine Ext.drew' ?_ | refine Ext.drewN' ?_ _ | (refine Ext.then (b := ?_) ?_ ?_; rotate_left; rotate_left; assumption)))) hE) (by omega)).mono ?_
        rintro e w1 ⟨rfl, hb1⟩
        go_wp2_with fail
        go_roundw
        case rel => exact ⟨k + 1, by omega, by go_num, by rw [H3.out]; go_num, (by repeat (first | (with_reducible assumption) | (with_reducible exact Own.new _ _ _) | (with_reducible refine Own.new' _ _ _ ?_; (focus (simp; done))) | (with_reducible refine Own.alloc ?_ _) | (with_reducible refine Own.drew ?_) | (with_reducible refine Own.drewN ?_ _) | (with_reducible refine Own.keep (w := ?_) ?_ ?_; rotate_left; (with_reducible assumption); (exact (by with_reducible repeat (first | assumption | exact Ext.rfl' _ | exact Ext.new _ _ | refine Ext.alloc' ?_ _ | refine Ext.drew' ?_ | refine Ext.drewN' ?_ _ | (refine Ext.then (b := ?_) ?_ ?_; rotate_left; rotate_left; assumption))))) | (with_reducible refine Own.keep (w := ?_) ?_ ?_; rotate_left; rotate_left; (with_reducible assumption)))), (by with_reducible repeat (first | assumption | exact Ext.rfl' _ | exact Ext.new _ _ | refine Ext.alloc' ?_ _ | refine Ext.drew' ?_ | refine Ext.drewN' ?_ _ | (refine Ext.then (b := ?_) ?_ ?_; rotate_left; rotate_left; assumption)))⟩
        case measure => simp [intOf]; omega
      · have hst2 : f.kids.take k = f.kids := List.take_of_length_le (by omega)
        have H3 := Lib.hid hst2
        clear hst2 ih hp
        go_wp2_with fail
        go_ret
        refine ⟨ret_int ?_, hb⟩
        rw [H3.out, Fm.deep_eq]; omega
end Go.Proofs.YtbpilielamjnoaaGreat
namespace Go.Proofs.YtbpilielamjnoaaGreat
open Go.RowKit
set_option linter.unusedSimpArgs false
set_option linter.unusedVariables false
set_option maxHeartbeats 1000000 in
theorem rwhole_c (f : Fm) : ∀ (cs : List Value) (w : World), FmR (ph w) cs f → Calls Tryz.prog 42 #[.agg cs.toArray] w (RetV w (.bool (wholeB f))) := by
  induction f using Fm.ind with
  | h f ih =>
    intro cs w hr
    have hr' := hr
    obtain ⟨a3, c3, a4, c4, rfl, -, -, -, hlen, -, hp⟩ := hr.form
    unfold fmC at *
    have hw := Lib.hid (wholeB_eq f)
    go_enter Tryz.func42, Tryz.ntmps42
    go_wp2_with fail
    refine RetV_at (rformed_c f _ _ (mono_FmR _ _ _ _ (Ext.ple (by with_reducible repeat (first | assumption | exact Ext.rfl' _ | exact Ext.new _ _ | refine Ext.alloc' ?_ _ | refine Ext.drew' ?_ | refine Ext.drewN' ?_ _ | (refine Ext.then (b := ?_) ?_ ?_; rotate_left; rotate_left; assumption)))) hr')) ?_
    intro w1 hx1
    have ho : Own w1 w.heap.size #[.int .i64 f.op, .int .i64 f.n, .slice a3 f.inn.length c3, .slice a4 f.kids.length c4] 29 := (by repeat (first | (with_reducible assumption) | (with_reducible exact Own.new _ _ _) | (with_reducible refine Own.new' _ _ _ ?_; (focus (simp; done))) | (with_reducible refine Own.alloc ?_ _) | (with_reducible refine Own.drew ?_) | (with_reducible refine Own.drewN ?_ _) | (with_reducible refine Own.keep (w := ?_) ?_ ?_; rotate_left; (with_reducible assumption); (exact (by with_reducible repeat (first | assumption | exact Ext.rfl' _ | exact Ext.new _ _ | refine Ext.alloc' ?_ _ | refine Ext.drew' ?_ | refine Ext.drewN' ?_ _ | (refine Ext.then (b := ?_) ?_ ?_; rotate_left; rotate_left; assumption))))) | (with_reducible refine Own.keep (w := ?_) ?_ ?_; rotate_left; rotate_left; (with_reducible assumption))))
    have hx : Ext w w1 := (by with_reducible repeat (first | assumption | exact Ext.rfl' _ | exact Ext.new _ _ | refine Ext.alloc' ?_ _ | refine Ext.drew' ?_ | refine Ext.drewN' ?_ _ | (refine Ext.then (b := ?_) ?_ ?_; rotate_left; rotate_left; assumption)))
    clear hx1 hr hr'
    cases hf : formed1 f with
    | false =>
      have hv : Hid (wholeB f = false) := by show _ = _; rw [hw.out, hf]; rfl
      go_wp2_with fail
      go_ret
      exact ⟨ret_bool hv.out.symm, (by with_reducible repeat (first | assumption | exact Ext.rfl' _ | exact Ext.new _ _ | refine Ext.alloc' ?_ _ | refine Ext.drew' ?_ | refine Ext.drewN' ?_ _ | (refine Ext.then (b := ?_) ?_ ?_; rotate_left; rotate_left; assumption)))⟩
    | true =>
      have hv : Hid (wholeB f = f.kids.all wholeB) := by show _ = _; rw [hw.out, hf]; rfl
      obtain ⟨hoc, hof⟩ := ho.facts
      have H := Lib.hid ih
      clear hf hw ih
      go_wp2_with fail
      go_loopw [3] (fun i wr => ∃ k : Nat, k ≤ f.kids.length ∧ i = .int .i64 k ∧ Hid (∀ x ∈ f.kids.take k, wholeB x = true) ∧ Own wr w.heap.size #[.int .i64 f.op, .int .i64 f.n, .slice a3 f.inn.length c3, .slice a4 f.kids.length c4] 29 ∧ Ext w wr) (fun i _ => f.kids.length - (intOf i).toNat)
      case atStart => exact ⟨0, Nat.zero_le _, rfl, Lib.hid (by simp), ho, hx⟩
      case round =>
        obtain ⟨k, hk, rfl, hg, ho2, hb⟩ := hrel
        obtain ⟨hoc2, hof2⟩ := ho2.facts
        by_cases hlt : k < f.kids.length
        · have hp' := hp.mono mono_FmR hb.ple
          obtain ⟨b, o, b3, d3, b4, d4, rfl, h0, h1, h2, h3, hE, hbl⟩ := FmsR.at hp' k hlt
          unfold fmC at hE
          clear hp hp' ho hx hoc hof
          go_wp2_with fail
          refine RetV_at (H.out _ (List.getElem_mem hlt) _ _ (mono_FmR _ _ _ _ (Ext.ple (by with_reducible repeat (first | assumption | exact Ext.rfl' _ | exact Ext.new _ _ | refine Ext.alloc' ?_ _ | refine Ext.drew' ?_ | refine Ext.drewN' ?_ _ | (refine Ext.then (b := ?_) ?_ ?_; rotate_left; rotate_left; assumption)))) hE)) ?_
          intro w2 hx2
          cases hpk : wholeB f.kids[k] with
          | true =>
            have HP := Lib.hid hpk
            go_wp2_with fail
            go_roundw
            case rel => exact ⟨k + 1, by omega, by go_num, take_all hlt HP.out hg.out, (by repeat (first | (with_reducible assumption) | (with_reducible exact Own.new _ _ _) | (with_reducible refine Own.new' _ _ _ ?_; (focus (simp; done))) | (with_reducible refine Own.alloc ?_ _) | (with_reducible refine Own.drew ?_) | (with_reducible refine Own.drewN ?_ _) | (with_reducible refine Own.keep (w := ?_) ?_ ?_; rotate_left; (with_reducible assumption); (exact (by with_reducible repeat (first | assumption | exact Ext.rfl' _ | exact Ext.new _ _ | refine Ext.alloc' ?_ _ | refine Ext.drew' ?_ | refine Ext.drewN' ?_ _ | (refine Ext.then (b := ?_) ?_ ?_; rotate_left; rotate_left; assumption))))) | (with_reducible refine Own.keep (w := ?_) ?_ ?_; rotate_left; rotate_left; (with_reducible assumption)))), (by with_reducible repeat (first | assumption | exact Ext.rfl' _ | exact Ext.new _ _ | refine Ext.alloc' ?_ _ | refine Ext.drew' ?_ | refine Ext.drewN' ?_ _ | (refine Ext.then (b := ?_) ?_ ?_; rotate_left; rotate_left; assumption)))⟩
            case measure => simp [intOf]; omega
          | false =>
            have hv2 : Hid (wholeB f = false) := by
              show _ = _
              rw [hv.out, List.all_eq_false]
              exact ⟨_, List.getElem_mem hlt, by rw [hpk]; simp⟩
            go_wp2_with fail
            go_ret
            exact ⟨ret_bool hv2.out.symm, (by with_reducible repeat (first | assumption | exact Ext.rfl' _ | exact Ext.new _ _ | refine Ext.alloc' ?_ _ | refine Ext.drew' ?_ | refine Ext.drewN' ?_ _ | (refine Ext.then (b := ?_) ?_ ?_; rotate_left; rotate_left; assumption)))⟩
        · have hv2 : Hid (wholeB f = true) := by
            show _ = _
            rw [hv.out, List.all_eq_true]
            exact take_done (by omega) hg.out
          clear hp
          go_wp2_with fail
          go_ret
          exact ⟨ret_bool hv2.out.symm, (by with_reducible repeat (first | assumption | exact Ext.rfl' _ | exact Ext.new _ _ | refine Ext.alloc' ?_ _ | refine Ext.drew' ?_ | refine Ext.drewN' ?_ _ | (refine Ext.then (b := ?_) ?_ ?_; rotate_left; rotate_left; assumption)))⟩
theorem rfvalid_c (f : Fm) (cs : List Value) (w : World) (hr : FmR (ph w) cs f) (hs : f.bulk ≤ 900000) : Calls Tryz.prog 11 #[.agg cs.toArray] w (RetV w (.int .i64 (validF f))) := by
  have hr' := hr
  obtain ⟨a3, c3, a4, c4, rfl, -⟩ := hr.form
  unfold fmC at *
  have hs1 := f.size_le_bulk
  have hs2 := f.deep_le_size
  go_enter Tryz.func11, Tryz.ntmps11
  go_wp2_with fail
  refine RetV_at (rfsize_c f _ _ (mono_FmR _ _ _ _ (Ext.ple (by with_reducible repeat (first | assumption | exact Ext.rfl' _ | exact Ext.new _ _ | refine Ext.alloc' ?_ _ | refine Ext.drew' ?_ | refine Ext.drewN' ?_ _ | (refine Ext.then (b := ?_) ?_ ?_; rotate_left; rotate_left; assumption)))) hr') (by omega)) ?_
  intro w1 hx1
  have ho : Own w1 w.heap.size #[.int .i64 f.op, .int .i64 f.n, .slice a3 f.inn.length c3, .slice a4 f.kids.length c4] 29 := (by repeat (first | (with_reducible assumption) | (with_reducible exact Own.new _ _ _) | (with_reducible refine Own.new' _ _ _ ?_; (focus (simp; done))) | (with_reducible refine Own.alloc ?_ _) | (with_reducible refine Own.drew ?_) | (with_reducible refine Own.drewN ?_ _) | (with_reducible refine Own.keep (w := ?_) ?_ ?_; rotate_left; (with_reducible assumption); (exact (by with_reducible repeat (first | assumption | exact Ext.rfl' _ | exact Ext.new _ _ | refine Ext.alloc' ?_ _ | refine Ext.drew' ?_ | refine Ext.drewN' ?_ _ | (refine Ext.then (b := ?_) ?_ ?_; rotate_left; rotate_left; assumption))))) | (with_reducible refine Own.keep (w := ?_) ?_ ?_; rotate_left; rotate_left; (with_reducible assumption))))
  have hx : Ext w w1 := (by with_reducible repeat (first | assumption | exact Ext.rfl' _ | exact Ext.new _ _ | refine Ext.alloc' ?_ _ | refine Ext.drew' ?_ | refine Ext.drewN' ?_ _ | (refine Ext.then (b := ?_) ?_ ?_; rotate_left; rotate_left; assumption)))
  clear hx1
  obtain ⟨hoc, hof⟩ := ho.facts
  by_cases hS : 96 < f.size
  · have hv : Hid (validF f = 4) := by show _ = _; unfold validF; rw [if_pos (.inl hS)]
    have b1 : decide (96 < (f.size : Int)) = true := by simp; omega
    go_wp2_with fail
    go_ret
    exact ⟨ret_int hv.out.symm, (by with_reducible repeat (first | assumption | exact Ext.rfl' _ | exact Ext.new _ _ | refine Ext.alloc' ?_ _ | refine Ext.drew' ?_ | refine Ext.drewN' ?_ _ | (refine Ext.then (b := ?_) ?_ ?_; rotate_left; rotate_left; assumption)))⟩
  have b1 : decide (96 < (f.size : Int)) = false := by simp; omega
  go_wp2_with fail
  refine RetV_at (rfdeep_c f _ _ (mono_FmR _ _ _ _ (Ext.ple (by with_reducible repeat (first | assumption | exact Ext.rfl' _ | exact Ext.new _ _ | refine Ext.alloc' ?_ _ | refine Ext.drew' ?_ | refine Ext.drewN' ?_ _ | (refine Ext.then (b := ?_) ?_ ?_; rotate_left; rotate_left; assumption)))) hr') (by omega)) ?_
  intro w2 hx2
  replace ho := ho.keep hx2
  replace hx : Ext w w2 := (by with_reducible repeat (first | assumption | exact Ext.rfl' _ | exact Ext.new _ _ | refine Ext.alloc' ?_ _ | refine Ext.drew' ?_ | refine Ext.drewN' ?_ _ | (refine Ext.then (b := ?_) ?_ ?_; rotate_left; rotate_left; assumption)))
  clear hx2 hoc hof
  obtain ⟨hoc, hof⟩ := ho.facts
  by_cases hD : 8 < f.deep
  · have hv : Hid (validF f = 4) := by show _ = _; unfold validF; rw [if_pos (.inr hD)]
    have b2 : decide (8 < (f.deep : Int)) = true := by simp; omega
    go_wp2_with fail
    go_ret
    exact ⟨ret_int hv.out.symm, (by with_reducible repeat (first | assumption | exact Ext.rfl' _ | exact Ext.new _ _ | refine Ext.alloc' ?_ _ | refine Ext.drew' ?_ | refine Ext.drewN' ?_ _ | (refine Ext.then (b := ?_) ?_ ?_; rotate_left; rotate_left; assumption)))⟩
  have b2 : decide (8 < (f.deep : Int)) = false := by simp; omega
  have hv : Hid (validF f = if wholeB f then 0 else 1) := by show _ = _; unfold validF; rw [if_neg (by omega)]
  go_wp2_with fail
  refine RetV_at (rwhole_c f _ _ (mono_FmR _ _ _ _ (Ext.ple (by with_reducible repeat (first | assumption | exact Ext.rfl' _ | exact Ext.new _ _ | refine Ext.alloc' ?_ _ | refine Ext.drew' ?_ | refine Ext.drewN' ?_ _ | (refine Ext.then (b := ?_) ?_ ?_; rotate_left; rotate_left; assumption)))) hr')) ?_
  intro w3 hx3
  cases hW : wholeB f with
  | true =>
    have hv2 : Hid (validF f = 0) := by show _ = _; rw [hv.out, hW]; rfl
    go_wp2_with fail
    go_ret
    exact ⟨ret_int hv2.out.symm, (by with_reducible repeat (first | assumption | exact Ext.rfl' _ | exact Ext.new _ _ | refine Ext.alloc' ?_ _ | refine Ext.drew' ?_ | refine Ext.drewN' ?_ _ | (refine Ext.then (b := ?_) ?_ ?_; rotate_left; rotate_left; assumption)))⟩
  | false =>
    have hv2 : Hid (validF f = 1) := by show _ = _; rw [hv.out, hW]; rfl
    go_wp2_with fail
    go_ret
    exact ⟨ret_int hv2.out.symm, (by with_reducible repeat (first | assumption | exact Ext.rfl' _ | exact Ext.new _ _ | refine Ext.alloc' ?_ _ | refine Ext.drew' ?_ | refine Ext.drewN' ?_ _ | (refine Ext.then (b := ?_) ?_ ?_; rotate_left; rotate_left; assumption)))⟩
end Go.Proofs.YtbpilielamjnoaaGreat
