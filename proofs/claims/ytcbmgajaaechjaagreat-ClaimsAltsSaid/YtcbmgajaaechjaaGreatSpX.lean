/- the reference of package span: Good, apart, in. -/
import Derived.Test.YtcbmgajaaechjaaGreatSpR
namespace Go.Proofs.YtcbmgajaaechjaaGreat
open Go.RowKit Go.Shelf
set_option linter.unusedSimpArgs false
set_option linter.unusedVariables false
theorem smallB_I {r : Rat2} (h : smallB r = true) : r.I := (smallB_iff.1 h).1.I
set_option maxRecDepth 100000 in
set_option maxHeartbeats 1000000 in
theorem rsmall_c (r : Rat2) (w : World) : Calls Tryz.prog 139 #[raA r] w (RetV w (.bool (smallB r))) := by
  have hs : Hid (smallB r = (decide (RatOk r) && decide (r.num ≤ 1073741824) && decide (-1073741824 ≤ r.num) && decide (r.den ≤ 32768))) := by
    show _ = _
    rw [Bool.eq_iff_iff, smallB_iff]
    simp only [Bool.and_eq_true, decide_eq_true_eq]
    constructor
    · rintro ⟨h, h1, h2⟩; exact ⟨⟨⟨h, by omega⟩, by omega⟩, h2⟩
    · rintro ⟨⟨⟨h, h1⟩, h2⟩, h3⟩; exact ⟨h, by omega, h3⟩
  have hv := fun w => rvalid_c r w
  have he := errIf_beq (p := RatOk r) (k := 1) (by decide)
  generalize ErrIf (RatOk r) 1 = z at hv he
  generalize decide (RatOk r) = ok at *
  generalize smallB r = q at *
  obtain ⟨n, d⟩ := r
  unfold raA at *
  dsimp only at *
  have hw := Ext.new w (.cells #[.int .i64 n, .int .i64 d] 100)
  have hO := Proofs.YtcbmgajaaechjaaGreat.Own.new w #[.int .i64 n, .int .i64 d] 100
  replace hv := Lib.hid hv
  go_enter Tryz.func139, Tryz.ntmps139
  go_wp2_with fail
  generalize w.alloc _ = W at *
  refine RetV_at (hv.out _) ?_
  intro w1 hx1
  replace hO := hO.keep hx1
  replace hw := hw.then hx1
  obtain ⟨c1, f1⟩ := hO.facts
  have z1 := hO.lt
  clear hx1
  cases ok with
  | false =>
    go_wp2_with fail
    go_ret
    exact ⟨ret_bool (by rw [hs.out]; simp), (by repeat (first | (with_reducible assumption) | (with_reducible exact Ext.rfl' _) | (with_reducible exact Ext.new _ _) | (with_reducible refine Ext.alloc' ?_ _) | (with_reducible refine Ext.drew' ?_) | (with_reducible refine Ext.drewN' ?_ _) | (with_reducible refine Ext.set' ?_ ?_ _; rotate_left; (focus (first | omega | (simp; done) | (simp; omega)))) | (with_reducible refine Ext.then (b := ?_) ?_ ?_; rotate_left; rotate_left; (with_reducible assumption))))⟩
  | true =>
    by_cases h1 : n ≤ 1073741824
    · by_cases h2 : -1073741824 ≤ n
      · go_wp2_with fail
        go_ret
        exact ⟨ret_bool (by rw [hs.out]; simp [h1, h2]), (by repeat (first | (with_reducible assumption) | (with_reducible exact Ext.rfl' _) | (with_reducible exact Ext.new _ _) | (with_reducible refine Ext.alloc' ?_ _) | (with_reducible refine Ext.drew' ?_) | (with_reducible refine Ext.drewN' ?_ _) | (with_reducible refine Ext.set' ?_ ?_ _; rotate_left; (focus (first | omega | (simp; done) | (simp; omega)))) | (with_reducible refine Ext.then (b := ?_) ?_ ?_; rotate_left; rotate_left; (with_reducible assumption))))⟩
      · go_wp2_with fail
        go_ret
        exact ⟨ret_bool (by rw [hs.out]; simp; intros; omega), (by repeat (first | (with_reducible assumption) | (with_reducible exact Ext.rfl' _) | (with_reducible exact Ext.new _ _) | (with_reducible refine Ext.alloc' ?_ _) | (with_reducible refine Ext.drew' ?_) | (with_reducible refine Ext.drewN' ?_ _) | (with_reducible refine Ext.set' ?_ ?_ _; rotate_left; (focus (first | omega | (simp; done) | (simp; omega)))) | (with_reducible refine Ext.then (b := ?_) ?_ ?_; rotate_left; rotate_left; (with_reducible assumption))))⟩
    · go_wp2_with fail
      go_ret
      exact ⟨ret_bool (by rw [hs.out]; simp; intros; omega), (by repeat (first | (with_reducible assumption) | (with_reducible exact Ext.rfl' _) | (with_reducible exact Ext.new _ _) | (with_reducible refine Ext.alloc' ?_ _) | (with_reducible refine Ext.drew' ?_) | (with_reducible refine Ext.drewN' ?_ _) | (with_reducible refine Ext.set' ?_ ?_ _; rotate_left; (focus (first | omega | (simp; done) | (simp; omega)))) | (with_reducible refine Ext.then (b := ?_) ?_ ?_; rotate_left; rotate_left; (with_reducible assumption))))⟩
/-- an interval without limits that are wrong -/
theorem goodB_inf {x : Itv} (hi : (x.loI || x.hiI) = true) : goodB x = (limB x.lo x.loO x.loI && limB x.hi x.hiO x.hiI) := by
  rw [Bool.eq_iff_iff, goodB_iff, Bool.and_eq_true]
  constructor
  · rintro ⟨h1, h2, -⟩; exact ⟨h1, h2⟩
  · rintro ⟨h1, h2⟩
    refine ⟨h1, h2, ?_⟩
    have s2 := limB_hi h2
    unfold loE hiE at *
    cases h3 : x.loI <;> cases h4 : x.hiI <;> simp [h3, h4] at hi ⊢ <;> simp [lessE, botE, topE]
theorem goodB_fin {x : Itv} (h1 : x.loI = false) (h2 : x.hiI = false) : goodB x = (smallB x.lo && smallB x.hi && if x.lo = x.hi then !x.loO && !x.hiO else lessR x.lo x.hi) := by
  unfold goodB limB loE hiE
  rw [h1, h2]
  simp only [Bool.false_eq_true, if_false]
  cases h3 : smallB x.lo
  · rfl
  cases h4 : smallB x.hi
  · rfl
  simp only [Bool.true_and]
  unfold lessE lessR
  rw [if_neg (by simp), if_neg (by simp)]
  by_cases h : x.lo.num * x.hi.den = x.hi.num * x.lo.den
  · have he := Rat2.same (smallB_ok h3) (smallB_ok h4) h
    rw [if_neg (by simpa using h), if_pos he]
  · rw [if_pos h, if_neg (fun e => h (by rw [e]))]
theorem gl1 {lI rI lO rO p p' zl zr q : Bool} (h1 : (lI || rI) = true → q = ((if lI then zl && !lO else p) && if rI then zr && !rO else p')) (h2 : ((lI && (!zl || lO)) || (rI && (!zr || rO))) = true) : q = false := by
  cases lI <;> cases rI <;> cases lO <;> cases rO <;> cases zl <;> cases zr <;> simp_all
theorem gl2 {lI rI lO rO p p' zl zr zq ls q : Bool} (h1 : (lI || rI) = true → q = ((if lI then zl && !lO else p) && if rI then zr && !rO else p')) (h2 : lI = false → rI = false → q = (p && p' && if zq then !lO && !rO else ls)) (h3 : ((!lI && !p) || (!rI && !p')) = true) : q = false := by
  cases lI <;> cases rI <;> cases p <;> cases p' <;> simp_all
theorem gl3 {lI rI lO rO p p' zl zr q : Bool} (h1 : (lI || rI) = true → q = ((if lI then zl && !lO else p) && if rI then zr && !rO else p')) (h2 : ((lI && (!zl || lO)) || (rI && (!zr || rO))) = false) (h3 : ((!lI && !p) || (!rI && !p')) = false) (h4 : (lI || rI) = true) : q = true := by
  cases lI <;> cases rI <;> cases lO <;> cases rO <;> cases zl <;> cases zr <;> cases p <;> cases p' <;> simp_all
theorem smallB_bd {r : Rat2} (h : smallB r = true) : r.bd := (smallB_iff.1 h).1.bd
theorem zero_small : smallB ⟨0, 0⟩ = false := by decide
set_option maxRecDepth 100000 in
set_option maxHeartbeats 8000000 in
theorem rgood_c (x : Itv) (w : World) : Calls Tryz.prog 127 #[itA x] w (RetV w (.bool (goodB x))) := by
  have h1 := fun w => rsmall_c x.lo w
  have h2 := fun w => rsmall_c x.hi w
  have h3 := fun (a : smallB x.lo = true) (b : smallB x.hi = true) w => rless_c x.lo x.hi w (smallB_bd a) (smallB_bd b)
  have hinf := goodB_inf (x := x)
  have hfin := goodB_fin (x := x)
  unfold limB at hinf
  obtain ⟨⟨a, b⟩, ⟨c, d⟩, lO, rO, lI, rI⟩ := x
  unfold itA raA at *
  dsimp only at *
  have e1 : ((⟨a, b⟩ : Rat2) == ⟨0, 0⟩) = (a == 0 && b == 0) := by rw [Bool.eq_iff_iff]; simp
  have e2 : ((⟨c, d⟩ : Rat2) == ⟨0, 0⟩) = (c == 0 && d == 0) := by rw [Bool.eq_iff_iff]; simp
  have e3 : decide ((⟨a, b⟩ : Rat2) = ⟨c, d⟩) = (a == c && b == d) := by rw [Bool.eq_iff_iff]; simp
  rw [e1, e2] at hinf
  have hfin2 : lI = false → rI = false → goodB ⟨⟨a, b⟩, ⟨c, d⟩, lO, rO, lI, rI⟩ = (smallB ⟨a, b⟩ && smallB ⟨c, d⟩ && if (a == c && b == d) then !lO && !rO else lessR ⟨a, b⟩ ⟨c, d⟩) := fun q1 q2 => by
    rw [hfin q1 q2, ← e3]; simp
  clear e1 e2 e3 hfin
  generalize smallB ⟨a, b⟩ = p at *
  generalize smallB ⟨c, d⟩ = p' at *
  generalize lessR ⟨a, b⟩ ⟨c, d⟩ = ls at *
  generalize goodB _ = q at *
  have hw := Ext.new w (.cells #[.int .i64 a, .int .i64 b, .int .i64 c, .int .i64 d, .bool lO, .bool rO, .bool lI, .bool rI] 117)
  have hO := Proofs.YtcbmgajaaechjaaGreat.Own.new w #[.int .i64 a, .int .i64 b, .int .i64 c, .int .i64 d, .bool lO, .bool rO, .bool lI, .bool rI] 117
  replace h1 := Lib.hid h1
  replace h2 := Lib.hid h2
  replace h3 := Lib.hid h3
  replace hinf := Lib.hid hinf
  replace hfin2 := Lib.hid hfin2
  obtain ⟨z1, hz1⟩ : ∃ z, (a == 0) = z := ⟨_, rfl⟩
  obtain ⟨z2, hz2⟩ : ∃ z, (b == 0) = z := ⟨_, rfl⟩
  obtain ⟨z3, hz3⟩ : ∃ z, (c == 0) = z := ⟨_, rfl⟩
  obtain ⟨z4, hz4⟩ : ∃ z, (d == 0) = z := ⟨_, rfl⟩
  go_enter Tryz.func127, Tryz.ntmps127
  go_upto_region 1 with (fail)
  generalize w.heap.size = b1 at *
  generalize w.alloc _ = W at *
  obtain ⟨c1, f1⟩ := hO.facts
  have zz1 := hO.lt
  go_cut [30] (fun v wx => v = .bool ((lI && (!(a == 0 && b == 0) || lO)) || (rI && (!(c == 0 && d == 0) || rO))) ∧ wx = W)
  case first =>
    cases lI with
    | false =>
      cases rI with
      | false => (go_wp2_with fail; go_meet; (case rel => exact ⟨by simp [*], rfl⟩))
      | true => cases rO <;> cases z3 <;> cases z4 <;> (go_wp2_with fail; go_meet; (case rel => exact ⟨by simp [*], rfl⟩))
    | true =>
      cases lO with
      | true => cases z1 <;> cases z2 <;> (go_wp2_with fail; go_meet; (case rel => exact ⟨by simp [*], rfl⟩))
      | false =>
        cases z1 with
        | false => cases z2 <;> (go_wp2_with fail; go_meet; (case rel => exact ⟨by simp [*], rfl⟩))
        | true =>
          cases z2 with
          | false => (go_wp2_with fail; go_meet; (case rel => exact ⟨by simp [*], rfl⟩))
          | true =>
            cases rI with
            | false => (go_wp2_with fail; go_meet; (case rel => exact ⟨by simp [*], rfl⟩))
            | true => cases rO <;> cases z3 <;> cases z4 <;> (go_wp2_with fail; go_meet; (case rel => exact ⟨by simp [*], rfl⟩))
  case rest =>
    obtain ⟨rfl, rfl⟩ := hcut
    obtain ⟨bad, hbad⟩ : ∃ bad, ((lI && (!(a == 0 && b == 0) || lO)) || (rI && (!(c == 0 && d == 0) || rO))) = bad := ⟨_, rfl⟩
    rw [hbad]
    obtain ⟨zl, hzl⟩ : ∃ z, (a == 0 && b == 0) = z := ⟨_, rfl⟩
    obtain ⟨zr, hzr⟩ : ∃ z, (c == 0 && d == 0) = z := ⟨_, rfl⟩
    obtain ⟨zq, hzq⟩ : ∃ z, (a == c && b == d) = z := ⟨_, rfl⟩
    have hinf2 : Hid ((lI || rI) = true → q = ((if lI then zl && !lO else p) && if rI then zr && !rO else p')) := Lib.hid (by rw [← hzl, ← hzr]; exact hinf.out)
    have hfin3 : Hid (lI = false → rI = false → q = (p && p' && if zq then !lO && !rO else ls)) := Lib.hid (by rw [← hzq]; exact hfin2.out)
    have hbad2 : Hid (((lI && (!zl || lO)) || (rI && (!zr || rO))) = bad) := Lib.hid (by rw [← hzl, ← hzr]; exact hbad)
    clear hinf hfin2 hz1 hz2 hz3 hz4 hbad hzl hzr
    cases bad with
    | true =>
      have hq : Hid (q = false) := Lib.hid (gl1 hinf2.out hbad2.out)
      go_wp2_with fail
      go_ret
      exact ⟨ret_bool hq.out.symm, (by repeat (first | (with_reducible assumption) | (with_reducible exact Ext.rfl' _) | (with_reducible exact Ext.new _ _) | (with_reducible refine Ext.alloc' ?_ _) | (with_reducible refine Ext.drew' ?_) | (with_reducible refine Ext.drewN' ?_ _) | (with_reducible refine Ext.set' ?_ ?_ _; rotate_left; (focus (first | omega | (simp; done) | (simp; omega)))) | (with_reducible refine Ext.then (b := ?_) ?_ ?_; rotate_left; rotate_left; (with_reducible assumption))))⟩
    | false =>
      go_wp2_with fail
      refine RetV_at (h1.out _) ?_
      intro w1 hx1
      replace hO := hO.keep hx1
      replace hw := hw.then hx1
      clear hx1 c1 f1 zz1
      obtain ⟨c1, f1⟩ := hO.facts
      have zz1 := hO.lt
      go_wp2_with fail
      refine RetV_at (h2.out _) ?_
      intro w2 hx2
      replace hO := hO.keep hx2
      replace hw := hw.then hx2
      clear hx2 c1 f1 zz1
      obtain ⟨c1, f1⟩ := hO.facts
      have zz1 := hO.lt
      go_upto_region 5 with (fail)
      go_cut [52] (fun v wx => v = .bool ((!lI && !p) || (!rI && !p')) ∧ wx = w2)
      case first =>
        cases lI with
        | true =>
          cases rI with
          | true => (go_wp2_with fail; go_meet; (case rel => exact ⟨by simp, rfl⟩))
          | false => cases p' <;> (go_wp2_with fail; go_meet; (case rel => exact ⟨by simp, rfl⟩))
        | false =>
          cases p with
          | false => (go_wp2_with fail; go_meet; (case rel => exact ⟨by simp, rfl⟩))
          | true =>
            cases rI with
            | true => (go_wp2_with fail; go_meet; (case rel => exact ⟨by simp, rfl⟩))
            | false => cases p' <;> (go_wp2_with fail; go_meet; (case rel => exact ⟨by simp, rfl⟩))
      case rest =>
        obtain ⟨rfl, rfl⟩ := hcut
        obtain ⟨bd, hbd⟩ : ∃ bd, ((!lI && !p) || (!rI && !p')) = bd := ⟨_, rfl⟩
        rw [hbd]
        replace hbd := Lib.hid hbd
        cases bd with
        | true =>
          have hq : Hid (q = false) := Lib.hid (gl2 hinf2.out hfin3.out hbd.out)
          go_wp2_with fail
          go_ret
          exact ⟨ret_bool hq.out.symm, (by repeat (first | (with_reducible assumption) | (with_reducible exact Ext.rfl' _) | (with_reducible exact Ext.new _ _) | (with_reducible refine Ext.alloc' ?_ _) | (with_reducible refine Ext.drew' ?_) | (with_reducible refine Ext.drewN' ?_ _) | (with_reducible refine Ext.set' ?_ ?_ _; rotate_left; (focus (first | omega | (simp; done) | (simp; omega)))) | (with_reducible refine Ext.then (b := ?_) ?_ ?_; rotate_left; rotate_left; (with_reducible assumption))))⟩
        | false =>
          by_cases hli : (lI || rI) = true
          · have hq : Hid (q = true) := Lib.hid (gl3 hinf2.out hbad2.out hbd.out hli)
            cases lI with
            | true =>
              go_wp2_with fail
              go_ret
              exact ⟨ret_bool hq.out.symm, (by repeat (first | (with_reducible assumption) | (with_reducible exact Ext.rfl' _) | (with_reducible exact Ext.new _ _) | (with_reducible refine Ext.alloc' ?_ _) | (with_reducible refine Ext.drew' ?_) | (with_reducible refine Ext.drewN' ?_ _) | (with_reducible refine Ext.set' ?_ ?_ _; rotate_left; (focus (first | omega | (simp; done) | (simp; omega)))) | (with_reducible refine Ext.then (b := ?_) ?_ ?_; rotate_left; rotate_left; (with_reducible assumption))))⟩
            | false =>
              obtain rfl : rI = true := by simpa using hli
              go_wp2_with fail
              go_ret
              exact ⟨ret_bool hq.out.symm, (by repeat (first | (with_reducible assumption) | (with_reducible exact Ext.rfl' _) | (with_reducible exact Ext.new _ _) | (with_reducible refine Ext.alloc' ?_ _) | (with_reducible refine Ext.drew' ?_) | (with_reducible refine Ext.drewN' ?_ _) | (with_reducible refine Ext.set' ?_ ?_ _; rotate_left; (focus (first | omega | (simp; done) | (simp; omega)))) | (with_reducible refine Ext.then (b := ?_) ?_ ?_; rotate_left; rotate_left; (with_reducible assumption))))⟩
          · obtain ⟨rfl, rfl⟩ : lI = false ∧ rI = false := by simpa using hli
            have hpp := hbd.out
            obtain ⟨rfl, rfl⟩ : p = true ∧ p' = true := by simpa using hpp
            have hq : Hid (q = if zq then !lO && !rO else ls) := Lib.hid (by simpa using hfin3.out rfl rfl)
            clear hpp hbd hli
            cases zq with
            | true =>
              have he : a = c ∧ b = d := by simpa using hzq
              obtain ⟨rfl, rfl⟩ := he
              clear hzq h1 h2 h3 hinf2 hfin3 hbad2
              cases lO <;> (go_wp2_with fail; go_ret; exact ⟨ret_bool (by rw [hq.out]; simp), (by repeat (first | (with_reducible assumption) | (with_reducible exact Ext.rfl' _) | (with_reducible exact Ext.new _ _) | (with_reducible refine Ext.alloc' ?_ _) | (with_reducible refine Ext.drew' ?_) | (with_reducible refine Ext.drewN' ?_ _) | (with_reducible refine Ext.set' ?_ ?_ _; rotate_left; (focus (first | omega | (simp; done) | (simp; omega)))) | (with_reducible refine Ext.then (b := ?_) ?_ ?_; rotate_left; rotate_left; (with_reducible assumption))))⟩)
            | false =>
              have h3' := h3.out (by first | trivial | rfl) (by first | trivial | rfl)
              replace h3' := Lib.hid h3'
              clear h1 h2 h3 hinf2 hfin3 hbad2
              by_cases hac : a = c
              · have hbd2 : ¬ b = d := by rintro rfl; simp [hac] at hzq
                subst hac
                have hbdb : (b == d) = false := by simpa using hbd2
                clear hzq hbd2
                go_wp2_with fail
                refine RetV_at (h3'.out _) ?_
                intro w5 hx5
                go_wp2_with fail
                go_ret
                exact ⟨ret_bool (by rw [hq.out]; rfl), (by repeat (first | (with_reducible assumption) | (with_reducible exact Ext.rfl' _) | (with_reducible exact Ext.new _ _) | (with_reducible refine Ext.alloc' ?_ _) | (with_reducible refine Ext.drew' ?_) | (with_reducible refine Ext.drewN' ?_ _) | (with_reducible refine Ext.set' ?_ ?_ _; rotate_left; (focus (first | omega | (simp; done) | (simp; omega)))) | (with_reducible refine Ext.then (b := ?_) ?_ ?_; rotate_left; rotate_left; (with_reducible assumption))))⟩
              · have hacb : (a == c) = false := by simpa using hac
                clear hzq
                go_wp2_with fail
                refine RetV_at (h3'.out _) ?_
                intro w5 hx5
                go_wp2_with fail
                go_ret
                exact ⟨ret_bool (by rw [hq.out]; rfl), (by repeat (first | (with_reducible assumption) | (with_reducible exact Ext.rfl' _) | (with_reducible exact Ext.new _ _) | (with_reducible refine Ext.alloc' ?_ _) | (with_reducible refine Ext.drew' ?_) | (with_reducible refine Ext.drewN' ?_ _) | (with_reducible refine Ext.set' ?_ ?_ _; rotate_left; (focus (first | omega | (simp; done) | (simp; omega)))) | (with_reducible refine Ext.then (b := ?_) ?_ ?_; rotate_left; rotate_left; (with_reducible assumption))))⟩
end Go.Proofs.YtcbmgajaaechjaaGreat
