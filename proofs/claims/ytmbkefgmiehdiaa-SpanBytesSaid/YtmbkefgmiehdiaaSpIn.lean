/- the reference of package span: in, covers. -/
import Derived.Deep.CutBlock
import Derived.Test.YtmbkefgmiehdiaaSpPt
namespace Go.Proofs.Ytmbkefgmiehdiaa
open Go.RowKit Go.Shelf
set_option linter.unusedSimpArgs false
set_option linter.unusedVariables false
theorem lessE_lo (x : Itv) (r : Rat2) (hr : r.ok) (hx : goodB x = true) : lessE ⟨0, r, false⟩ (loE x) = (!x.loI && (lessR r x.lo || (decide (r = x.lo) && x.loO))) := by
  unfold loE
  cases h1 : x.loI
  · have s1 := smallB_ok (goodB.smlo hx h1)
    simp only [Bool.false_eq_true, if_false, Bool.not_false, Bool.true_and]
    unfold lessE lessR
    rw [if_neg (by simp), if_neg (by simp)]
    by_cases h : r.num * x.lo.den = x.lo.num * r.den
    · have he := Rat2.same hr s1 h
      rw [if_neg (by simpa using h)]
      subst he; simp
    · rw [if_pos h]
      have : r ≠ x.lo := fun e => h (by rw [e])
      simp [this]
  · simp [lessE, botE]
theorem lessE_hi (x : Itv) (r : Rat2) (hr : r.ok) (hx : goodB x = true) : lessE ⟨0, r, false⟩ (hiE x) = !(!x.hiI && (lessR x.hi r || (decide (r = x.hi) && x.hiO))) := by
  unfold hiE
  cases h1 : x.hiI
  · have s1 := smallB_ok (goodB.smhi hx h1)
    simp only [Bool.false_eq_true, if_false, Bool.not_false, Bool.true_and]
    unfold lessE lessR
    rw [if_neg (by simp), if_neg (by simp)]
    by_cases h : r.num * x.hi.den = x.hi.num * r.den
    · have he := Rat2.same hr s1 h
      rw [if_neg (by simpa using h)]
      subst he; simp
    · rw [if_pos h]
      have : r ≠ x.hi := fun e => h (by rw [e])
      simp only [this, decide_false, Bool.false_and, Bool.or_false]
      rw [Bool.eq_iff_iff]; simp; omega
  · simp [lessE, topE]
theorem hasB_eq (x : Itv) (r : Rat2) (hr : r.ok) (hx : goodB x = true) : hasB x r = (!(!x.loI && (lessR r x.lo || (decide (r = x.lo) && x.loO))) && !(!x.hiI && (lessR x.hi r || (decide (r = x.hi) && x.hiO)))) := by
  unfold hasB insB
  rw [lessE_lo x r hr hx, lessE_hi x r hr hx]
theorem dec_eq (a b c d : Int) : decide ((⟨a, b⟩ : Rat2) = ⟨c, d⟩) = (a == c && b == d) := by rw [Bool.eq_iff_iff]; simp
set_option maxRecDepth 100000 in
set_option maxHeartbeats 8000000 in
theorem rin_c (x : Itv) (r : Rat2) (w : World) (hx : goodB x = true) (hr : RatOk r) : Calls Try.prog 56 #[itA x, raA r] w (RetV w (.bool (hasB x r))) := by
  have hs := hasB_eq x r hr.ok hx
  have h1 := fun (h : x.loI = false) w => rless_c r x.lo w hr.bd (smallB_bd (goodB.smlo hx h))
  have h2 := fun (h : x.hiI = false) w => rless_c x.hi r w (smallB_bd (goodB.smhi hx h)) hr.bd
  generalize hasB x r = q at *
  obtain ⟨⟨a, b⟩, ⟨c, d⟩, lO, rO, lI, rI⟩ := x
  obtain ⟨n, m⟩ := r
  unfold itA raA at *
  dsimp only at *
  rw [dec_eq, dec_eq] at hs
  generalize lessR ⟨n, m⟩ ⟨a, b⟩ = l1 at *
  generalize lessR ⟨c, d⟩ ⟨n, m⟩ = l2 at *
  clear hx hr
  replace h1 := Lib.hid h1
  replace h2 := Lib.hid h2
  replace hs := Lib.hid hs
  have hO := Proofs.Ytmbkefgmiehdiaa.Own.alloc (Proofs.Ytmbkefgmiehdiaa.Own.new w #[.int .i64 a, .int .i64 b, .int .i64 c, .int .i64 d, .bool lO, .bool rO, .bool lI, .bool rI] 43) (.cells #[.int .i64 n, .int .i64 m] 40)
  have hO2 := Proofs.Ytmbkefgmiehdiaa.Own.new' (w.alloc (.cells #[.int .i64 a, .int .i64 b, .int .i64 c, .int .i64 d, .bool lO, .bool rO, .bool lI, .bool rI] 43)) #[.int .i64 n, .int .i64 m] 40 (n := w.heap.size + 1) (by simp)
  have hw := (Ext.new w (.cells #[.int .i64 a, .int .i64 b, .int .i64 c, .int .i64 d, .bool lO, .bool rO, .bool lI, .bool rI] 43)).alloc' (.cells #[.int .i64 n, .int .i64 m] 40)
  go_enter Try.func56, Try.ntmps56
  go_upto_region 1 with (fail)
  generalize w.heap.size = b1 at *
  generalize (w.alloc _).alloc _ = W at *
  obtain ⟨c1, f1⟩ := hO.facts
  obtain ⟨c2, f2⟩ := hO2.facts
  have z1 := hO.lt
  have z2 := hO2.lt
  go_cut [5] (fun v wx => v = .bool (!lI && (l1 || ((n == a && m == b) && lO))) ∧ Ext W wx)
  case first =>
    cases lI with
    | true =>
      go_wp2_with fail
      go_meet
      case rel => exact ⟨by simp, Ext.rfl' _⟩
    | false =>
      have h1' := h1.out (by first | trivial | rfl)
      replace h1' := Lib.hid h1'
      go_wp2_with fail
      refine RetV_at (h1'.out _) ?_
      intro w5 hx5
      replace hO := hO.keep hx5
      replace hO2 := hO2.keep hx5
      clear c1 f1 c2 f2 z1 z2
      obtain ⟨c1, f1⟩ := hO.facts
      obtain ⟨c2, f2⟩ := hO2.facts
      have z1 := hO.lt
      have z2 := hO2.lt
      cases l1 with
      | true =>
        go_wp2_with fail
        go_meet
        case rel => exact ⟨by simp, hx5⟩
      | false =>
        by_cases e1 : n = a
        · by_cases e2 : m = b
          · subst e1 e2
            go_wp2_with fail
            go_meet
            case rel => exact ⟨by simp, hx5⟩
          · subst e1
            have e2b : (m == b) = false := by simpa using e2
            go_wp2_with fail
            go_meet
            case rel => exact ⟨by simp [e2], hx5⟩
        · have e1b : (n == a) = false := by simpa using e1
          go_wp2_with fail
          go_meet
          case rel => exact ⟨by simp [e1], hx5⟩
  case rest =>
    clear c1 f1 c2 f2 z1 z2
    obtain ⟨rfl, hx5⟩ := hcut
    generalize hb1 : (!lI && (l1 || ((n == a && m == b) && lO))) = q1 at *
    replace hb1 := Lib.hid hb1
    replace hO := hO.keep hx5
    replace hO2 := hO2.keep hx5
    replace hw := hw.then hx5
    obtain ⟨c1, f1⟩ := hO.facts
    obtain ⟨c2, f2⟩ := hO2.facts
    have z1 := hO.lt
    have z2 := hO2.lt
    go_upto_region 2 with (fail)
    go_cut [6] (fun v wx => v = .bool (!rI && (l2 || ((n == c && m == d) && rO))) ∧ Ext wc wx)
    case first =>
      cases rI with
      | true =>
        go_wp2_with fail
        go_meet
        case rel => exact ⟨by simp, Ext.rfl' _⟩
      | false =>
        have h2' := h2.out (by first | trivial | rfl)
        replace h2' := Lib.hid h2'
        go_wp2_with fail
        refine RetV_at (h2'.out _) ?_
        intro w6 hx6
        replace hO := hO.keep hx6
        replace hO2 := hO2.keep hx6
        clear c1 f1 c2 f2 z1 z2
        obtain ⟨c1, f1⟩ := hO.facts
        obtain ⟨c2, f2⟩ := hO2.facts
        have z1 := hO.lt
        have z2 := hO2.lt
        cases l2 with
        | true =>
          go_wp2_with fail
          go_meet
          case rel => exact ⟨by simp, hx6⟩
        | false =>
          by_cases e1 : n = c
          · by_cases e2 : m = d
            · subst e1 e2
              go_wp2_with fail
              go_meet
              case rel => exact ⟨by simp, hx6⟩
            · subst e1
              have e2b : (m == d) = false := by simpa using e2
              go_wp2_with fail
              go_meet
              case rel => exact ⟨by simp [e2], hx6⟩
          · have e1b : (n == c) = false := by simpa using e1
            go_wp2_with fail
            go_meet
            case rel => exact ⟨by simp [e1], hx6⟩
    case rest =>
      clear c1 f1 c2 f2 z1 z2
      obtain ⟨rfl, hx6⟩ := hcut
      generalize hb2 : (!rI && (l2 || ((n == c && m == d) && rO))) = q2 at *
      have hfin : Hid (q = (!q1 && !q2)) := Lib.hid (by rw [hs.out, ← hb1.out, ← hb2])
      replace hw := hw.then hx6
      clear hb2
      cases q1 with
      | true =>
        go_wp2_with fail
        go_ret
        exact ⟨ret_bool (by rw [hfin.out]; simp), hw⟩
      | false =>
        go_wp2_with fail
        go_ret
        exact ⟨ret_bool (by rw [hfin.out]; simp), hw⟩
end Go.Proofs.Ytmbkefgmiehdiaa
