/- the reference of package span: apart, Valid. -/
import Derived.Deep.CutBlock
import Derived.Test.YtcbmgajaaechjaaGreatSpX
import Derived.Test.YtcbmgajaaechjaaGreatSpSm
namespace Go.Proofs.YtcbmgajaaechjaaGreat
open Go.RowKit Go.Shelf
set_option linter.unusedSimpArgs false
set_option linter.unusedVariables false
theorem less_apart {a b : Itv} (ha : goodB a = true) (hb : goodB b = true) : lessE (hiE a) (loE b) = if a.hiI || b.loI then false else if a.hi = b.lo then a.hiO && b.loO else lessR a.hi b.lo := by
  unfold hiE loE
  cases h1 : a.hiI
  · cases h2 : b.loI
    · have s1 := goodB.smhi ha h1
      have s2 := goodB.smlo hb h2
      simp only [Bool.false_eq_true, if_false, Bool.or_false]
      unfold lessE lessR
      rw [if_neg (by simp), if_neg (by simp)]
      by_cases h : a.hi.num * b.lo.den = b.lo.num * a.hi.den
      · have he := Rat2.same (smallB_ok s1) (smallB_ok s2) h
        rw [if_neg (by simpa using h), if_pos he]; simp
      · rw [if_pos h, if_neg (fun e => h (by rw [e]))]
    · simp [lessE, botE]
  · simp only [if_true, Bool.true_or]
    cases h2 : b.loI <;> simp [lessE, topE, botE]
set_option maxRecDepth 100000 in
set_option maxHeartbeats 4000000 in
theorem apart_c (x y : Itv) (w : World) (hx : goodB x = true) (hy : goodB y = true) : Calls Tryz.prog 128 #[itA x, itA y] w (RetV w (.bool (lessE (hiE x) (loE y)))) := by
  have hs := Lib.hid (less_apart hx hy)
  have hl : (x.hiI || y.loI) = false → ∀ w, Calls Tryz.prog 140 #[raA x.hi, raA y.lo] w (RetV w (.bool (lessR x.hi y.lo))) := fun h w => by
    obtain ⟨h1, h2⟩ : x.hiI = false ∧ y.loI = false := by simpa using h
    exact rless_c x.hi y.lo w (smallB_bd (goodB.smhi hx h1)) (smallB_bd (goodB.smlo hy h2))
  generalize lessE (hiE x) (loE y) = q at *
  clear hx hy
  obtain ⟨⟨a, b⟩, ⟨c, d⟩, lO, rO, lI, rI⟩ := x
  obtain ⟨⟨a', b'⟩, ⟨c', d'⟩, lO', rO', lI', rI'⟩ := y
  unfold itA raA at *
  dsimp only at *
  generalize lessR _ _ = ls at *
  replace hl := Lib.hid hl
  have hw := (Ext.new w (.cells #[.int .i64 a, .int .i64 b, .int .i64 c, .int .i64 d, .bool lO, .bool rO, .bool lI, .bool rI] 117)).alloc' (.cells #[.int .i64 a', .int .i64 b', .int .i64 c', .int .i64 d', .bool lO', .bool rO', .bool lI', .bool rI'] 117)
  cases rI with
  | true =>
    go_enter Tryz.func128, Tryz.ntmps128
    go_wp2_with fail
    go_ret
    exact ⟨ret_bool (by rw [hs.out]; simp), hw⟩
  | false =>
    cases lI' with
    | true =>
      go_enter Tryz.func128, Tryz.ntmps128
      go_wp2_with fail
      go_ret
      exact ⟨ret_bool (by rw [hs.out]; simp), hw⟩
    | false =>
      have hl2 := hl.out (by rfl)
      by_cases h1 : c = a'
      · subst h1
        by_cases h2 : d = b'
        · subst h2
          cases rO <;>
            (go_enter Tryz.func128, Tryz.ntmps128
             go_wp2_with fail
             go_ret
             exact ⟨ret_bool (by rw [hs.out]; simp), hw⟩)
        · have hb : (d == b') = false := by simpa using h2
          replace hl2 := Lib.hid hl2
          have hs2 : Hid (q = ls) := Lib.hid (by rw [hs.out]; simp [h2])
          clear h2
          go_enter Tryz.func128, Tryz.ntmps128
          go_wp2_with fail
          refine RetV_at (hl2.out _) ?_
          intro w5 hx5
          go_wp2_with fail
          go_ret
          exact ⟨ret_bool (by rw [hs2.out]), hw.then hx5⟩
      · have hb : (c == a') = false := by simpa using h1
        replace hl2 := Lib.hid hl2
        have hs2 : Hid (q = ls) := Lib.hid (by rw [hs.out]; simp [h1])
        clear h1
        go_enter Tryz.func128, Tryz.ntmps128
        go_wp2_with fail
        refine RetV_at (hl2.out _) ?_
        intro w5 hx5
        go_wp2_with fail
        go_ret
        exact ⟨ret_bool (by rw [hs2.out]), hw.then hx5⟩
end Go.Proofs.YtcbmgajaaechjaaGreat
