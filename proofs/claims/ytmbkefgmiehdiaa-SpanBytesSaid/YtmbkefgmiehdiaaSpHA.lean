/- package ratio: Cmp; package span: Has.; the reference's Has; the generator Ratio.; the plain law of SpanNormal: Normal twice is Normal, and has the same numbers. -/
import Derived.Deep.CutBlock
import Derived.Test.YtmbkefgmiehdiaaSpBA
import Derived.Test.YtmbkefgmiehdiaaSpIn
import Derived.Test.YtmbkefgmiehdiaaSpI2
import Derived.Test.YtmbkefgmiehdiaaSpX
import Derived.Test.YtmbkefgmiehdiaaSpZA
import Derived.Test.YtmbkefgmiehdiaaSpI
namespace Go.Proofs.Ytmbkefgmiehdiaa
open Go.RowKit Go.Shelf
set_option linter.unusedSimpArgs false
set_option linter.unusedVariables false
set_option maxRecDepth 100000 in
set_option maxHeartbeats 4000000 in
theorem cmp_c (a b : Rat2) (w : World) (ha : RatOk a) (hb : RatOk b) : Calls Try.prog 102 #[raA a, raA b] w (RetV w (.tuple #[.int .i64 (cmpR a b), .int .i64 0])) := by
  have hv2 := fun W => ratvalids_c _ [a, b] _ (sliceArr (E := RatR) (sz := 2) (n := 2) (xs := [a, b]) (Proofs.Ytmbkefgmiehdiaa.Own.new W #[.int .i64 a.num, .int .i64 a.den, .int .i64 b.num, .int .i64 b.den] 40) ⟨[.int .i64 a.num, .int .i64 a.den], [.int .i64 b.num, .int .i64 b.den], rfl, rfl, ⟨rfl, ha.I⟩, [.int .i64 b.num, .int .i64 b.den], [], rfl, rfl, ⟨rfl, hb.I⟩, rfl⟩ rfl (by decide))
  have hve : validE [a, b] = 0 := by rw [validE_2, if_pos ⟨ha, hb⟩]
  rw [hve] at hv2
  have hcm := fun w => ratcmp_c a b w ha.bd hb.bd
  generalize cmpR a b = q at *
  clear hve ha hb
  obtain ⟨n, d⟩ := a
  obtain ⟨n', d'⟩ := b
  unfold raA at *
  dsimp only at *
  replace hv2 := Lib.hid hv2
  replace hcm := Lib.hid hcm
  go_enter Try.func102, Try.ntmps102
  have hO2 := (Proofs.Ytmbkefgmiehdiaa.Own.new w #[.int .i64 n, .int .i64 d] 40).alloc (.cells #[.int .i64 n', .int .i64 d'] 40)
  have hO3 := Own.new' (w.alloc (.cells #[.int .i64 n, .int .i64 d] 40)) #[.int .i64 n', .int .i64 d'] 40 (n := w.heap.size + 1) (by simp)
  have hx : Ext w ((w.alloc (.cells #[.int .i64 n, .int .i64 d] 40)).alloc (.cells #[.int .i64 n', .int .i64 d'] 40)) := (by repeat (first | (with_reducible assumption) | (with_reducible exact Ext.rfl' _) | (with_reducible exact Ext.new _ _) | (with_reducible refine Ext.alloc' ?_ _) | (with_reducible refine Ext.drew' ?_) | (with_reducible refine Ext.drewN' ?_ _) | (with_reducible refine Ext.set' ?_ ?_ _; rotate_left; (focus (first | omega | (simp; done) | (simp; omega)))) | (with_reducible refine Ext.then (b := ?_) ?_ ?_; rotate_left; rotate_left; (with_reducible assumption))))
  go_upto_region 1 with (fail)
  generalize w.heap.size = b1 at *
  generalize (w.alloc _).alloc _ = W at *
  have hq := hv2.out W
  replace hq := Lib.hid hq
  obtain ⟨c2, f2⟩ := hO2.facts
  obtain ⟨c3, f3⟩ := hO3.facts
  have z2 := hO2.lt
  have z3 := hO3.lt
  have k20 : _ = some (Value.int .i64 n) := c2 0
  have k21 : _ = some (Value.int .i64 d) := c2 1
  have k30 : _ = some (Value.int .i64 n') := c3 0
  have k31 : _ = some (Value.int .i64 d') := c3 1
  clear c2 c3
  go_wp2_with fail
  refine RetV_at hq.out ?_
  intro w2 hx2
  have hx2' := (Ext.new W (.cells #[.int .i64 n, .int .i64 d, .int .i64 n', .int .i64 d'] 40)).then hx2
  replace hO2 := hO2.keep hx2'
  replace hO3 := hO3.keep hx2'
  replace hx := hx.then hx2'
  clear hq hv2 hx2 hx2' f2 f3 z2 z3 k20 k21 k30 k31
  obtain ⟨c2, f2⟩ := hO2.facts
  obtain ⟨c3, f3⟩ := hO3.facts
  have z2 := hO2.lt
  have z3 := hO3.lt
  have k20 : _ = some (Value.int .i64 n) := c2 0
  have k21 : _ = some (Value.int .i64 d) := c2 1
  have k30 : _ = some (Value.int .i64 n') := c3 0
  have k31 : _ = some (Value.int .i64 d') := c3 1
  clear c2 c3
  go_wp2_with fail
  refine RetV_at (hcm.out _) ?_
  intro w3 hx3
  go_wp2_with fail
  go_ret2
  exact ⟨rfl, hx.then hx3⟩
set_option maxRecDepth 100000 in
set_option maxHeartbeats 4000000 in
theorem has1_c (a b : Rat2) (w : World) (ha : RatOk a) (hb : RatOk b) : Calls Try.prog 101 #[raA a, raA b] w (RetV w (.int .i64 (cmpR a b))) := by
  have hcm := fun w => cmp_c a b w ha hb
  generalize cmpR a b = q at *
  clear ha hb
  obtain ⟨n, d⟩ := a
  obtain ⟨n', d'⟩ := b
  unfold raA at *
  dsimp only at *
  replace hcm := Lib.hid hcm
  go_enter Try.func101, Try.ntmps101
  have hO2 := (Proofs.Ytmbkefgmiehdiaa.Own.new w #[.int .i64 n, .int .i64 d] 40).alloc (.cells #[.int .i64 n', .int .i64 d'] 40)
  have hO3 := Own.new' (w.alloc (.cells #[.int .i64 n, .int .i64 d] 40)) #[.int .i64 n', .int .i64 d'] 40 (n := w.heap.size + 1) (by simp)
  have hx : Ext w ((w.alloc (.cells #[.int .i64 n, .int .i64 d] 40)).alloc (.cells #[.int .i64 n', .int .i64 d'] 40)) := (by repeat (first | (with_reducible assumption) | (with_reducible exact Ext.rfl' _) | (with_reducible exact Ext.new _ _) | (with_reducible refine Ext.alloc' ?_ _) | (with_reducible refine Ext.drew' ?_) | (with_reducible refine Ext.drewN' ?_ _) | (with_reducible refine Ext.set' ?_ ?_ _; rotate_left; (focus (first | omega | (simp; done) | (simp; omega)))) | (with_reducible refine Ext.then (b := ?_) ?_ ?_; rotate_left; rotate_left; (with_reducible assumption))))
  go_upto_region 1 with (fail)
  generalize w.heap.size = b1 at *
  generalize (w.alloc _).alloc _ = W at *
  obtain ⟨c2, f2⟩ := hO2.facts
  obtain ⟨c3, f3⟩ := hO3.facts
  have z2 := hO2.lt
  have z3 := hO3.lt
  have k20 : _ = some (Value.int .i64 n) := c2 0
  have k21 : _ = some (Value.int .i64 d) := c2 1
  have k30 : _ = some (Value.int .i64 n') := c3 0
  have k31 : _ = some (Value.int .i64 d') := c3 1
  clear c2 c3
  go_wp2_with fail
  refine RetV_at (hcm.out _) ?_
  intro w3 hx3
  go_wp2_with fail
  go_ret
  exact ⟨rfl, hx.then hx3⟩
theorem cmpR_less {a b : Rat2} (ha : a.ok) (hb : b.ok) : (cmpR a b = -1 ∧ lessR a b = true ∧ lessR b a = false ∧ decide (a = b) = false) ∨ (cmpR a b = 0 ∧ lessR a b = false ∧ lessR b a = false ∧ decide (a = b) = true) ∨ (cmpR a b = 1 ∧ lessR a b = false ∧ lessR b a = true ∧ decide (a = b) = false) := by
  unfold cmpR lessR
  by_cases h1 : a.num * b.den < b.num * a.den
  · left
    refine ⟨by rw [if_pos h1], by simpa using h1, by simp; omega, ?_⟩
    have : a ≠ b := fun e => by subst e; omega
    simpa using this
  · by_cases h2 : b.num * a.den < a.num * b.den
    · right; right
      refine ⟨by rw [if_neg h1, if_pos h2], by simpa using h1, by simpa using h2, ?_⟩
      have : a ≠ b := fun e => by subst e; omega
      simpa using this
    · right; left
      have := Rat2.same ha hb (by omega)
      exact ⟨by rw [if_neg h1, if_neg h2], by simpa using h1, by simpa using h2, by simpa using this⟩
set_option maxRecDepth 100000 in
set_option maxHeartbeats 8000000 in
theorem has_c (x : Itv) (r : Rat2) (w : World) (hx : goodB x = true) (hr : RatOk r) : Calls Try.prog 61 #[itA x, raA r] w (RetV w (.bool (hasB x r))) := by
  have hs := hasB_eq x r hr.ok hx
  have h1 := fun (h : x.loI = false) w => has1_c r x.lo w hr (smallB_iff.1 (goodB.smlo hx h)).1
  have h2 := fun (h : x.hiI = false) w => has1_c r x.hi w hr (smallB_iff.1 (goodB.smhi hx h)).1
  have d1 := fun (h : x.loI = false) => cmpR_less hr.ok (smallB_ok (goodB.smlo hx h))
  have d2 := fun (h : x.hiI = false) => cmpR_less hr.ok (smallB_ok (goodB.smhi hx h))
  generalize hasB x r = q at *
  obtain ⟨⟨a, b⟩, ⟨c, d⟩, lO, rO, lI, rI⟩ := x
  obtain ⟨n, m⟩ := r
  unfold itA raA at *
  dsimp only at *
  generalize lessR ⟨n, m⟩ ⟨a, b⟩ = l1 at *
  generalize lessR ⟨a, b⟩ ⟨n, m⟩ = l3 at *
  generalize lessR ⟨c, d⟩ ⟨n, m⟩ = l2 at *
  generalize lessR ⟨n, m⟩ ⟨c, d⟩ = l4 at *
  generalize decide ((⟨n, m⟩ : Rat2) = ⟨a, b⟩) = e1 at *
  generalize decide ((⟨n, m⟩ : Rat2) = ⟨c, d⟩) = e2 at *
  generalize cmpR ⟨n, m⟩ ⟨a, b⟩ = k1 at *
  generalize cmpR ⟨n, m⟩ ⟨c, d⟩ = k2 at *
  clear hx hr
  replace h1 := Lib.hid h1
  replace h2 := Lib.hid h2
  replace d1 := Lib.hid d1
  replace d2 := Lib.hid d2
  replace hs := Lib.hid hs
  have hO := Proofs.Ytmbkefgmiehdiaa.Own.alloc (Proofs.Ytmbkefgmiehdiaa.Own.new w #[.int .i64 a, .int .i64 b, .int .i64 c, .int .i64 d, .bool lO, .bool rO, .bool lI, .bool rI] 43) (.cells #[.int .i64 n, .int .i64 m] 40)
  have hO2 := Proofs.Ytmbkefgmiehdiaa.Own.new' (w.alloc (.cells #[.int .i64 a, .int .i64 b, .int .i64 c, .int .i64 d, .bool lO, .bool rO, .bool lI, .bool rI] 43)) #[.int .i64 n, .int .i64 m] 40 (n := w.heap.size + 1) (by simp)
  have hx := (Ext.new w (.cells #[.int .i64 a, .int .i64 b, .int .i64 c, .int .i64 d, .bool lO, .bool rO, .bool lI, .bool rI] 43)).alloc' (.cells #[.int .i64 n, .int .i64 m] 40)
  go_enter Try.func61, Try.ntmps61
  go_upto_region 1 with (fail)
  generalize w.heap.size = b1 at *
  generalize (w.alloc _).alloc _ = W at *
  obtain ⟨c1, f1⟩ := hO.facts
  obtain ⟨c2, f2⟩ := hO2.facts
  have z1 := hO.lt
  have z2 := hO2.lt
  go_upto_region 2 with (fail)
  cases lI with
  | true =>
    cases rI with
    | true =>
      go_wp2_with fail
      go_ret
      exact ⟨ret_bool (by rw [hs.out]; simp), hx⟩
    | false =>
      have h2' := Lib.hid (h2.out (by first | trivial | rfl))
      go_wp2_with fail
      refine RetV_at (h2'.out _) ?_
      intro w9 hx9
      replace hO := hO.keep hx9
      replace hx := hx.then hx9
      clear c1 f1 c2 f2 z1 z2
      obtain ⟨c1, f1⟩ := hO.facts
      have z1 := hO.lt
      rcases d2.out (by first | trivial | rfl) with ⟨rfl, rfl, rfl, rfl⟩ | ⟨rfl, rfl, rfl, rfl⟩ | ⟨rfl, rfl, rfl, rfl⟩
      · go_wp2_with fail
        go_ret
        exact ⟨ret_bool (by rw [hs.out]; simp), hx⟩
      · cases rO with
        | true =>
          go_wp2_with fail
          go_ret
          exact ⟨ret_bool (by rw [hs.out]; simp), hx⟩
        | false =>
          go_wp2_with fail
          go_ret
          exact ⟨ret_bool (by rw [hs.out]; simp), hx⟩
      · go_wp2_with fail
        go_ret
        exact ⟨ret_bool (by rw [hs.out]; simp), hx⟩
  | false =>
    have h1' := Lib.hid (h1.out (by first | trivial | rfl))
    go_wp2_with fail
    refine RetV_at (h1'.out _) ?_
    intro w5 hx5
    replace hO := hO.keep hx5
    replace hO2 := hO2.keep hx5
    replace hx := hx.then hx5
    clear c1 f1 c2 f2 z1 z2
    obtain ⟨c1, f1⟩ := hO.facts
    obtain ⟨c2, f2⟩ := hO2.facts
    have z1 := hO.lt
    have z2 := hO2.lt
    rcases d1.out (by first | trivial | rfl) with ⟨rfl, rfl, rfl, rfl⟩ | ⟨rfl, rfl, rfl, rfl⟩ | ⟨rfl, rfl, rfl, rfl⟩
    · go_wp2_with fail
      go_ret
      exact ⟨ret_bool (by rw [hs.out]; simp), hx⟩
    · cases lO with
      | true =>
        go_wp2_with fail
        go_ret
        exact ⟨ret_bool (by rw [hs.out]; simp), hx⟩
      | false =>
        go_upto_region 6 with (fail)
        cases rI with
        | true =>
          go_wp2_with fail
          go_ret
          exact ⟨ret_bool (by rw [hs.out]; simp), hx⟩
        | false =>
          have h2' := Lib.hid (h2.out (by first | trivial | rfl))
          go_wp2_with fail
          refine RetV_at (h2'.out _) ?_
          intro w9 hx9
          replace hO := hO.keep hx9
          replace hx := hx.then hx9
          clear c1 f1 c2 f2 z1 z2
          obtain ⟨c1, f1⟩ := hO.facts
          have z1 := hO.lt
          rcases d2.out (by first | trivial | rfl) with ⟨rfl, rfl, rfl, rfl⟩ | ⟨rfl, rfl, rfl, rfl⟩ | ⟨rfl, rfl, rfl, rfl⟩
          · go_wp2_with fail
            go_ret
            exact ⟨ret_bool (by rw [hs.out]; simp), hx⟩
          · cases rO with
            | true =>
              go_wp2_with fail
              go_ret
              exact ⟨ret_bool (by rw [hs.out]; simp), hx⟩
            | false =>
              go_wp2_with fail
              go_ret
              exact ⟨ret_bool (by rw [hs.out]; simp), hx⟩
          · go_wp2_with fail
            go_ret
            exact ⟨ret_bool (by rw [hs.out]; simp), hx⟩
    · go_upto_region 6 with (fail)
      cases rI with
      | true =>
        go_wp2_with fail
        go_ret
        exact ⟨ret_bool (by rw [hs.out]; simp), hx⟩
      | false =>
        have h2' := Lib.hid (h2.out (by first | trivial | rfl))
        go_wp2_with fail
        refine RetV_at (h2'.out _) ?_
        intro w9 hx9
        replace hO := hO.keep hx9
        replace hx := hx.then hx9
        clear c1 f1 c2 f2 z1 z2
        obtain ⟨c1, f1⟩ := hO.facts
        have z1 := hO.lt
        rcases d2.out (by first | trivial | rfl) with ⟨rfl, rfl, rfl, rfl⟩ | ⟨rfl, rfl, rfl, rfl⟩ | ⟨rfl, rfl, rfl, rfl⟩
        · go_wp2_with fail
          go_ret
          exact ⟨ret_bool (by rw [hs.out]; simp), hx⟩
        · cases rO with
          | true =>
            go_wp2_with fail
            go_ret
            exact ⟨ret_bool (by rw [hs.out]; simp), hx⟩
          | false =>
            go_wp2_with fail
            go_ret
            exact ⟨ret_bool (by rw [hs.out]; simp), hx⟩
        · go_wp2_with fail
          go_ret
          exact ⟨ret_bool (by rw [hs.out]; simp), hx⟩
set_option maxRecDepth 100000 in
set_option maxHeartbeats 4000000 in
theorem hasf_c (x : Itv) (r : Rat2) (b : Nat) (w : World) (hI : x.I) (hr : RatOk r) (hO : Own w b #[.int .i64 r.num, .int .i64 r.den] 40) :
    Calls Try.prog 59 #[itA x, .pointer (some ⟨b, 0, none⟩)] w (RetV w (.bool (goodB x && hasB x r))) := by
  have hg := fun w => good_c x w hI
  have hh := fun (h : goodB x = true) w => has_c x r w h hr
  generalize goodB x = g at *
  generalize hasB x r = q at *
  clear hI hr
  obtain ⟨⟨p, s⟩, ⟨u, v⟩, lO, rO, lI, rI⟩ := x
  obtain ⟨n, d⟩ := r
  unfold itA raA at *
  dsimp only at *
  have hx := Ext.new w (.cells #[.int .i64 p, .int .i64 s, .int .i64 u, .int .i64 v, .bool lO, .bool rO, .bool lI, .bool rI] 43)
  replace hO := hO.keep hx
  have hO2 := Proofs.Ytmbkefgmiehdiaa.Own.new w #[.int .i64 p, .int .i64 s, .int .i64 u, .int .i64 v, .bool lO, .bool rO, .bool lI, .bool rI] 43
  replace hg := Lib.hid hg
  replace hh := Lib.hid hh
  go_enter Try.func59, Try.ntmps59
  go_upto_region 1 with (fail)
  generalize w.heap.size = b2 at *
  generalize w.alloc _ = W at *
  obtain ⟨c1, f1⟩ := hO.facts
  obtain ⟨c2, f2⟩ := hO2.facts
  have z1 := hO.lt
  have z2 := hO2.lt
  go_wp2_with fail
  refine RetV_at (hg.out _) ?_
  intro w2 hx2
  replace hO := hO.keep hx2
  replace hO2 := hO2.keep hx2
  replace hx := hx.then hx2
  clear c1 f1 c2 f2 z1 z2
  obtain ⟨c1, f1⟩ := hO.facts
  obtain ⟨c2, f2⟩ := hO2.facts
  have z1 := hO.lt
  have z2 := hO2.lt
  cases g with
  | false =>
    go_wp2_with fail
    go_ret
    exact ⟨ret_bool (by simp), hx⟩
  | true =>
    have hh' := Lib.hid (hh.out (by first | trivial | rfl))
    go_wp2_with fail
    refine RetV_at (hh'.out _) ?_
    intro w3 hx3
    go_wp2_with fail
    go_ret
    exact ⟨ret_bool (by simp), hx.then hx3⟩
/-- whether a ratio is a number of a list of intervals -/
def hasL (l : List Itv) (r : Rat2) : Bool := decide (RatOk r) && l.any fun x => goodB x && hasB x r
set_option maxRecDepth 100000 in
set_option maxHeartbeats 4000000 in
theorem hasL_c (v : Value) (l : List Itv) (r : Rat2) (w : World) (hl : ItvsR (ph w) v l) (hI : r.I) : Calls Try.prog 25 #[v, raA r] w (RetV w (.bool (hasL l r))) := by
  have hv := fun w => ratValid_c r w hI.1 hI.2
  have hcl := fun (hok : RatOk r) (w' : World) (b : Nat) (hx : Ext w w') (hO : Own w' b #[.int .i64 r.num, .int .i64 r.den] 40) =>
    containsFunc_itv (fun x => goodB x && hasB x r) 59 #[.pointer (some ⟨b, 0, none⟩)] v l w' (hl.mono mono_ItvR hx.ple) (enters_of Try.func59 (by kernel_rfl) rfl) (by
      rintro w'' hx2 x hy cs ⟨rfl, hI⟩
      exact hasf_c x r b w'' hI hok (hO.keep hx2))
  have hs : Hid (hasL l r = (decide (RatOk r) && l.any fun x => goodB x && hasB x r)) := rfl
  generalize hasL l r = Q at *
  generalize (l.any fun x => goodB x && hasB x r) = q at *
  obtain ⟨a, c, rfl, -, -⟩ := hl.form
  obtain ⟨e, he⟩ : ∃ e, ErrIf (RatOk r) 1 = e := ⟨_, rfl⟩
  rw [he] at hv
  by_cases hok : RatOk r
  · have h0 : e = 0 := by rw [← he]; exact ErrIf_t hok
    subst h0
    have hs2 : Hid (Q = q) := Lib.hid (by rw [hs.out]; simp [hok])
    replace hcl := hcl hok
    clear hok he hs hI hl
    obtain ⟨n, d⟩ := r
    unfold raA
    dsimp only at *
    have hx := Ext.new w (.cells #[.int .i64 n, .int .i64 d] 40)
    have hO := Proofs.Ytmbkefgmiehdiaa.Own.new w #[.int .i64 n, .int .i64 d] 40
    replace hv := Lib.hid hv
    replace hcl := Lib.hid hcl
    go_enter Try.func25, Try.ntmps25
    go_upto_region 1 with (fail)
    generalize w.heap.size = b2 at *
    generalize w.alloc _ = W at *
    obtain ⟨c1, f1⟩ := hO.facts
    have z1 := hO.lt
    go_wp2_with fail
    refine RetV_at (hv.out _) ?_
    intro w2 hx2
    replace hO := hO.keep hx2
    replace hx := hx.then hx2
    have hc2 := Lib.hid (hcl.out w2 b2 hx hO)
    clear c1 f1 z1
    go_wp2_with fail
    refine RetV_at hc2.out ?_
    intro w3 hx3
    go_wp2_with fail
    go_ret
    exact ⟨ret_bool (by rw [hs2.out]), hx.then hx3⟩
  · have h0 : e = 1 := by rw [← he]; exact ErrIf_f hok
    subst h0
    have hs2 : Hid (Q = false) := Lib.hid (by rw [hs.out]; simp [hok])
    clear hok he hs hI hl hcl
    obtain ⟨n, d⟩ := r
    unfold raA
    dsimp only at *
    have hx := Ext.new w (.cells #[.int .i64 n, .int .i64 d] 40)
    have hO := Proofs.Ytmbkefgmiehdiaa.Own.new w #[.int .i64 n, .int .i64 d] 40
    replace hv := Lib.hid hv
    go_enter Try.func25, Try.ntmps25
    go_upto_region 1 with (fail)
    generalize w.heap.size = b2 at *
    generalize w.alloc _ = W at *
    obtain ⟨c1, f1⟩ := hO.facts
    have z1 := hO.lt
    go_wp2_with fail
    refine RetV_at (hv.out _) ?_
    intro w2 hx2
    go_wp2_with fail
    go_ret
    exact ⟨ret_bool hs2.out.symm, hx.then hx2⟩
end Go.Proofs.Ytmbkefgmiehdiaa
namespace Go.Proofs.Ytmbkefgmiehdiaa
open Go.RowKit Go.Shelf
set_option linter.unusedSimpArgs false
set_option linter.unusedVariables false
set_option maxRecDepth 100000 in
set_option maxHeartbeats 8000000 in
theorem rhas_c (v : Value) (l : List Itv) (r : Rat2) (w : World) (hl : ItvsR (ph w) v l) : Calls Try.prog 33 #[v, raA r] w (RetV w (.bool (hasL l r))) := by
  have hv := fun w => rvalid_c r w
  have hin := fun (hok : RatOk r) (x : Itv) (hx : goodB x = true) w => rin_c x r w hx hok
  have hs : Hid (hasL l r = (decide (RatOk r) && l.any fun x => goodB x && hasB x r)) := rfl
  generalize hasL l r = Q at *
  obtain ⟨a, c, rfl, hlen, hl⟩ := hl.form
  obtain ⟨e, he⟩ : ∃ e, ErrIf (RatOk r) 1 = e := ⟨_, rfl⟩
  rw [he] at hv
  by_cases hok : RatOk r
  · have h0 : e = 0 := by rw [← he]; exact ErrIf_t hok
    subst h0
    have hs2 : Hid (Q = l.any fun x => goodB x && hasB x r) := Lib.hid (by rw [hs.out]; simp [hok])
    replace hin := hin hok
    clear hok he hs
    obtain ⟨n, d⟩ := r
    unfold raA at *
    dsimp only at *
    have hx := Ext.new w (.cells #[.int .i64 n, .int .i64 d] 40)
    have hO := Proofs.Ytmbkefgmiehdiaa.Own.new w #[.int .i64 n, .int .i64 d] 40
    replace hv := Lib.hid hv
    replace hin := Lib.hid hin
    go_enter Try.func33, Try.ntmps33
    go_upto_region 1 with (fail)
    generalize w.heap.size = b2 at *
    generalize w.alloc _ = W at *
    obtain ⟨c1, f1⟩ := hO.facts
    have z1 := hO.lt
    go_wp2_with fail
    refine RetV_at (hv.out _) ?_
    intro w2 hx2
    replace hO := hO.keep hx2
    replace hx := hx.then hx2
    clear c1 f1 z1 hx2
    go_wp2_with fail
    go_loopw [5] (fun i wr => ∃ k : Nat, k ≤ l.length ∧ i = .int .i64 k ∧ Hid (∀ x ∈ l.take k, (goodB x && hasB x ⟨n, d⟩) = false) ∧ Own wr b2 #[.int .i64 n, .int .i64 d] 40 ∧ Ext w wr) (fun i _ => l.length - (intOf i).toNat)
    case atStart => exact ⟨0, Nat.zero_le _, rfl, Lib.hid (by simp), hO, hx⟩
    case round =>
      clear hO hx
      obtain ⟨k, hk, rfl, ho, hO, hx⟩ := hrel
      by_cases hlt : k < l.length
      · obtain ⟨b, o, rfl, h0, h1, h2, h3, h4, h5, h6, h7, hbl, hI⟩ := ItvsR.at (hl.mono mono_ItvR hx.ple) k hlt
        have hja : decide (k < l.length) = true := decide_eq_true hlt
        have hgood := fun w => rgood_c l[k] w
        have hi2 := fun (h : goodB l[k] = true) w => hin.out l[k] h w
        have hg1 := fun (hg : (goodB l[k] && hasB l[k] ⟨n, d⟩) = false) => take_all hlt hg ho.out
        have hg0 : (goodB l[k] && hasB l[k] ⟨n, d⟩) = true → Q = true := fun h => by rw [hs2.out]; exact List.any_eq_true.2 ⟨_, List.getElem_mem hlt, h⟩
        unfold itA at hgood hi2
        generalize goodB l[k] = gd at *
        generalize hasB l[k] ⟨n, d⟩ = q at *
        generalize l[k] = x at *
        clear hI
        obtain ⟨⟨p1, p2⟩, ⟨p3, p4⟩, lO, rO, lI, rI⟩ := x
        dsimp only at *
        have hgh := Lib.hid hgood
        have hih := Lib.hid hi2
        have hg0h := Lib.hid hg0
        have hg1h := Lib.hid hg1
        clear hgood hi2 hg0 hg1 hin
        go_wp2_with fail
        refine RetV_at (hgh.out _) ?_
        intro w3 hx3
        replace hO := hO.keep hx3
        replace h0 := hx3.cell1 h0
        replace h1 := hx3.cell1 h1
        replace h2 := hx3.cell1 h2
        replace h3 := hx3.cell1 h3
        replace h4 := hx3.cell1 h4
        replace h5 := hx3.cell1 h5
        replace h6 := hx3.cell1 h6
        replace h7 := hx3.cell1 h7
        replace hx := hx.then hx3
        replace hbl := cell_lt h0
        clear hx3
        obtain ⟨c1, f1⟩ := hO.facts
        have z1 := hO.lt
        have k0 : _ = some (Value.int .i64 n) := c1 0
        have k1 : _ = some (Value.int .i64 d) := c1 1
        clear c1
        cases gd with
        | false =>
          clear h0 h1 h2 h3 h4 h5 h6 h7 f1 k0 k1 z1
          have hg := Lib.hid (hg1h.out (by first | trivial | rfl))
          clear hg0h hg1h
          go_upto_region 7 with (fail)
          (refine wp_region_I 9 (by kernel_rfl) (by kernel_rfl) ?_; simp only [List.toList_toArray, List.take_succ_cons, List.take_zero, List.drop_succ_cons, List.drop_zero])
          (refine walkI_is (u := ?_) rfl (by simp) rfl ?_ ?_; rotate_left; (focus (intro A w' hS hA K hK; (simp only [List.map_cons, List.map_nil, knows, Is, Op.operands, Call.operands, List.lookup_cons, List.lookup_nil, Nat.reduceBEq, Bool.false_eq_true, if_false, if_true, Act.eval, Array.getD_eq_getD_getElem?, List.getElem?_toArray, List.getElem?_cons_succ, List.getElem?_cons_zero, Option.getD_some, and_true, true_and, List.append_toArray, List.nil_append, List.cons_append, List.toList_toArray, Array.toList_append, Option.toArray, List.append_nil] at hA); first | fail | (obtain ⟨hSc, hSf, hSs⟩ := hS.cells; go_simp; exact hK _ (by first | exact Ext.rfl' _ | exact Ext.new _ _ | assumption)))); (try simp only [List.nil_append, List.cons_append]))
          (refine walkI_is (u := ?_) rfl (by simp) rfl ?_ ?_; rotate_left; (focus (intro A w' hS hA K hK; (simp only [List.map_cons, List.map_nil, knows, Is, Op.operands, Call.operands, List.lookup_cons, List.lookup_nil, Nat.reduceBEq, Bool.false_eq_true, if_false, if_true, Act.eval, Array.getD_eq_getD_getElem?, List.getElem?_toArray, List.getElem?_cons_succ, List.getElem?_cons_zero, Option.getD_some, and_true, true_and, List.append_toArray, List.nil_append, List.cons_append, List.toList_toArray, Array.toList_append, Option.toArray, List.append_nil] at hA); first | fail | (obtain ⟨hSc, hSf, hSs⟩ := hS.cells; go_simp; exact hK _ (by first | exact Ext.rfl' _ | exact Ext.new _ _ | assumption)))); (try simp only [List.nil_append, List.cons_append]))
          (refine walkI_no rfl (by simp) rfl rfl rfl ?_ ?_; (focus (simp [undef]; done)); (try simp only [List.nil_append, List.cons_append]))
          (refine walkI_no rfl (by simp) rfl rfl rfl ?_ ?_; (focus (simp [undef]; done)); (try simp only [List.nil_append, List.cons_append]))
          (refine walkI_no rfl (by simp) rfl rfl rfl ?_ ?_; (focus (simp [undef]; done)); (try simp only [List.nil_append, List.cons_append]))
          (refine walkI_no rfl (by simp) rfl rfl rfl ?_ ?_; (focus (simp [undef]; done)); (try simp only [List.nil_append, List.cons_append]))
          (refine walkI_no rfl (by simp) rfl rfl rfl ?_ ?_; (focus (simp [undef]; done)); (try simp only [List.nil_append, List.cons_append]))
          (refine walkI_no rfl (by simp) rfl rfl rfl ?_ ?_; (focus (simp [undef]; done)); (try simp only [List.nil_append, List.cons_append]))
          (refine walkI_is (u := ?_) rfl (by simp) rfl ?_ ?_; rotate_left; (focus (intro A w' hS hA K hK; (simp only [List.map_cons, List.map_nil, knows, Is, Op.operands, Call.operands, List.lookup_cons, List.lookup_nil, Nat.reduceBEq, Bool.false_eq_true, if_false, if_true, Act.eval, Array.getD_eq_getD_getElem?, List.getElem?_toArray, List.getElem?_cons_succ, List.getElem?_cons_zero, Option.getD_some, and_true, true_and, List.append_toArray, List.nil_append, List.cons_append, List.toList_toArray, Array.toList_append, Option.toArray, List.append_nil] at hA); first | fail | (obtain ⟨hSc, hSf, hSs⟩ := hS.cells; go_simp; exact hK _ (by first | exact Ext.rfl' _ | exact Ext.new _ _ | assumption)))); (try simp only [List.nil_append, List.cons_append]))
          (refine walkI_nil ?_; simp only [List.nil_append, List.cons_append, fins, Is, forall_eq, Act.put, List.setIfInBounds_toArray, List.set_cons_zero, List.set_cons_succ])
          intro w6 hx6
          replace hO := hO.keep hx6
          replace hx := hx.then hx6
          go_wp2_with fail
          go_roundw
          case rel => exact ⟨k + 1, by omega, by go_num, Lib.hid hg.out, hO, hx⟩
          case measure => simp [intOf]; omega
        | true =>
          have hi3 := Lib.hid (hih.out (by first | trivial | rfl))
          go_upto_region 7 with (fail)
          (refine wp_region_I 9 (by kernel_rfl) (by kernel_rfl) ?_; simp only [List.toList_toArray, List.take_succ_cons, List.take_zero, List.drop_succ_cons, List.drop_zero])
          (refine walkI_is (u := ?_) rfl (by simp) rfl ?_ ?_; rotate_left; (focus (intro A w' hS hA K hK; (simp only [List.map_cons, List.map_nil, knows, Is, Op.operands, Call.operands, List.lookup_cons, List.lookup_nil, Nat.reduceBEq, Bool.false_eq_true, if_false, if_true, Act.eval, Array.getD_eq_getD_getElem?, List.getElem?_toArray, List.getElem?_cons_succ, List.getElem?_cons_zero, Option.getD_some, and_true, true_and, List.append_toArray, List.nil_append, List.cons_append, List.toList_toArray, Array.toList_append, Option.toArray, List.append_nil] at hA); first | fail | (obtain ⟨hSc, hSf, hSs⟩ := hS.cells; go_simp; exact hK _ (by first | exact Ext.rfl' _ | exact Ext.new _ _ | assumption)))); (try simp only [List.nil_append, List.cons_append]))
          (refine walkI_is (u := ?_) rfl (by simp) rfl ?_ ?_; rotate_left; (focus (intro A w' hS hA K hK; (simp only [List.map_cons, List.map_nil, knows, Is, Op.operands, Call.operands, List.lookup_cons, List.lookup_nil, Nat.reduceBEq, Bool.false_eq_true, if_false, if_true, Act.eval, Array.getD_eq_getD_getElem?, List.getElem?_toArray, List.getElem?_cons_succ, List.getElem?_cons_zero, Option.getD_some, and_true, true_and, List.append_toArray, List.nil_append, List.cons_append, List.toList_toArray, Array.toList_append, Option.toArray, List.append_nil] at hA); first | fail | (obtain ⟨hSc, hSf, hSs⟩ := hS.cells; go_simp; exact hK _ (by first | exact Ext.rfl' _ | exact Ext.new _ _ | assumption)))); (try simp only [List.nil_append, List.cons_append]))
          (refine walkI_yesis (u := ?_) rfl (by simp) rfl rfl rfl ?_ ?_; rotate_left; (focus (intro A w' hS hA K hK; (simp only [List.map_cons, List.map_nil, knows, Is, Op.operands, Call.operands, List.lookup_cons, List.lookup_nil, Nat.reduceBEq, Bool.false_eq_true, if_false, if_true, Act.eval, Array.getD_eq_getD_getElem?, List.getElem?_toArray, List.getElem?_cons_succ, List.getElem?_cons_zero, Option.getD_some, and_true, true_and, List.append_toArray, List.nil_append, List.cons_append, List.toList_toArray, Array.toList_append, Option.toArray, List.append_nil] at hA); first | fail | (obtain ⟨hSc, hSf, hSs⟩ := hS.cells; go_simp; exact hK _ (by first | exact Ext.rfl' _ | exact Ext.new _ _ | assumption)))); (try simp only [List.nil_append, List.cons_append]))
          (refine walkI_yesis (u := ?_) rfl (by simp) rfl rfl rfl ?_ ?_; rotate_left; (focus (intro A w' hS hA K hK; (simp only [List.map_cons, List.map_nil, knows, Is, Op.operands, Call.operands, List.lookup_cons, List.lookup_nil, Nat.reduceBEq, Bool.false_eq_true, if_false, if_true, Act.eval, Array.getD_eq_getD_getElem?, List.getElem?_toArray, List.getElem?_cons_succ, List.getElem?_cons_zero, Option.getD_some, and_true, true_and, List.append_toArray, List.nil_append, List.cons_append, List.toList_toArray, Array.toList_append, Option.toArray, List.append_nil] at hA); first | fail | (obtain ⟨hSc, hSf, hSs⟩ := hS.cells; go_simp; exact hK _ (by first | exact Ext.rfl' _ | exact Ext.new _ _ | assumption)))); (try simp only [List.nil_append, List.cons_append]))
          (refine walkI_yesis (u := ?_) rfl (by simp) rfl rfl rfl ?_ ?_; rotate_left; (focus (intro A w' hS hA K hK; (simp only [List.map_cons, List.map_nil, knows, Is, Op.operands, Call.operands, List.lookup_cons, List.lookup_nil, Nat.reduceBEq, Bool.false_eq_true, if_false, if_true, Act.eval, Array.getD_eq_getD_getElem?, List.getElem?_toArray, List.getElem?_cons_succ, List.getElem?_cons_zero, Option.getD_some, and_true, true_and, List.append_toArray, List.nil_append, List.cons_append, List.toList_toArray, Array.toList_append, Option.toArray, List.append_nil] at hA); first | fail | (obtain ⟨hSc, hSf, hSs⟩ := hS.cells; go_simp; exact hK _ (by first | exact Ext.rfl' _ | exact Ext.new _ _ | assumption)))); (try simp only [List.nil_append, List.cons_append]))
          (refine walkI_yesis (u := ?_) rfl (by simp) rfl rfl rfl ?_ ?_; rotate_left; (focus (intro A w' hS hA K hK; (simp only [List.map_cons, List.map_nil, knows, Is, Op.operands, Call.operands, List.lookup_cons, List.lookup_nil, Nat.reduceBEq, Bool.false_eq_true, if_false, if_true, Act.eval, Array.getD_eq_getD_getElem?, List.getElem?_toArray, List.getElem?_cons_succ, List.getElem?_cons_zero, Option.getD_some, and_true, true_and, List.append_toArray, List.nil_append, List.cons_append, List.toList_toArray, Array.toList_append, Option.toArray, List.append_nil] at hA); first | fail | (obtain ⟨hSc, hSf, hSs⟩ := hS.cells; go_simp; exact hK _ (by first | exact Ext.rfl' _ | exact Ext.new _ _ | assumption)))); (try simp only [List.nil_append, List.cons_append]))
          (refine walkI_yesis (u := ?_) rfl (by simp) rfl rfl rfl ?_ ?_; rotate_left; (focus (intro A w' hS hA K hK; (simp only [List.map_cons, List.map_nil, knows, Is, Op.operands, Call.operands, List.lookup_cons, List.lookup_nil, Nat.reduceBEq, Bool.false_eq_true, if_false, if_true, Act.eval, Array.getD_eq_getD_getElem?, List.getElem?_toArray, List.getElem?_cons_succ, List.getElem?_cons_zero, Option.getD_some, and_true, true_and, List.append_toArray, List.nil_append, List.cons_append, List.toList_toArray, Array.toList_append, Option.toArray, List.append_nil] at hA); first | fail | (obtain ⟨hSc, hSf, hSs⟩ := hS.cells; go_simp; exact hK _ (by first | exact Ext.rfl' _ | exact Ext.new _ _ | assumption)))); (try simp only [List.nil_append, List.cons_append]))
          (refine walkI_yesis (u := ?_) rfl (by simp) rfl rfl rfl ?_ ?_; rotate_left; (focus (intro A w' hS hA K hK; (simp only [List.map_cons, List.map_nil, knows, Is, Op.operands, Call.operands, List.lookup_cons, List.lookup_nil, Nat.reduceBEq, Bool.false_eq_true, if_false, if_true, Act.eval, Array.getD_eq_getD_getElem?, List.getElem?_toArray, List.getElem?_cons_succ, List.getElem?_cons_zero, Option.getD_some, and_true, true_and, List.append_toArray, List.nil_append, List.cons_append, List.toList_toArray, Array.toList_append, Option.toArray, List.append_nil] at hA); first | (go_simp; refine RetV_at (hi3.out w') ?_; intro w6 hx6; exact hK _ hx6) | (obtain ⟨hSc, hSf, hSs⟩ := hS.cells; go_simp; exact hK _ (by first | exact Ext.rfl' _ | exact Ext.new _ _ | assumption)))); (try simp only [List.nil_append, List.cons_append]))
          (refine walkI_is (u := ?_) rfl (by simp) rfl ?_ ?_; rotate_left; (focus (intro A w' hS hA K hK; (simp only [List.map_cons, List.map_nil, knows, Is, Op.operands, Call.operands, List.lookup_cons, List.lookup_nil, Nat.reduceBEq, Bool.false_eq_true, if_false, if_true, Act.eval, Array.getD_eq_getD_getElem?, List.getElem?_toArray, List.getElem?_cons_succ, List.getElem?_cons_zero, Option.getD_some, and_true, true_and, List.append_toArray, List.nil_append, List.cons_append, List.toList_toArray, Array.toList_append, Option.toArray, List.append_nil] at hA); first | fail | (obtain ⟨hSc, hSf, hSs⟩ := hS.cells; go_simp; exact hK _ (by first | exact Ext.rfl' _ | exact Ext.new _ _ | assumption)))); (try simp only [List.nil_append, List.cons_append]))
          (refine walkI_nil ?_; simp only [List.nil_append, List.cons_append, fins, Is, forall_eq, Act.put, List.setIfInBounds_toArray, List.set_cons_zero, List.set_cons_succ])
          intro w6 hx6
          replace hO := hO.keep hx6
          replace hx := hx.then hx6
          clear h0 h1 h2 h3 h4 h5 h6 h7 f1 k0 k1 z1 hi3
          cases q with
          | true =>
            have hQ := Lib.hid (hg0h.out (by first | trivial | rfl))
            go_wp2_with fail
            go_ret
            exact ⟨ret_bool hQ.out.symm, hx⟩
          | false =>
            have hg := Lib.hid (hg1h.out (by first | trivial | rfl))
            clear hg0h hg1h
            go_wp2_with fail
            go_roundw
            case rel => exact ⟨k + 1, by omega, by go_num, Lib.hid hg.out, hO, hx⟩
            case measure => simp [intOf]; omega
      · have hja : decide (k < l.length) = false := by simpa using hlt
        have hQ : Hid (Q = false) := Lib.hid (by
          have := ho.out
          rw [List.take_of_length_le (by omega)] at this
          rw [hs2.out, List.any_eq_false]
          intro x hx; rw [this x hx]; simp)
        clear hin hl
        go_wp2_with fail
        go_ret
        exact ⟨ret_bool hQ.out.symm, hx⟩
  · have h0 : e = 1 := by rw [← he]; exact ErrIf_f hok
    subst h0
    have hs2 : Hid (Q = false) := Lib.hid (by rw [hs.out]; simp [hok])
    clear hok he hs hl hin
    obtain ⟨n, d⟩ := r
    unfold raA at *
    dsimp only at *
    have hx := Ext.new w (.cells #[.int .i64 n, .int .i64 d] 40)
    have hO := Proofs.Ytmbkefgmiehdiaa.Own.new w #[.int .i64 n, .int .i64 d] 40
    replace hv := Lib.hid hv
    go_enter Try.func33, Try.ntmps33
    go_upto_region 1 with (fail)
    generalize w.heap.size = b2 at *
    generalize w.alloc _ = W at *
    obtain ⟨c1, f1⟩ := hO.facts
    have z1 := hO.lt
    go_wp2_with fail
    refine RetV_at (hv.out _) ?_
    intro w2 hx2
    go_wp2_with fail
    go_ret
    exact ⟨ret_bool hs2.out.symm, hx.then hx2⟩
/-- a quotient in lowest terms without error is a ratio -/
theorem ofS_ok {n d : Int} (h3 : 1 ≤ d) (h : (ofS n d).2 = 0) : RatOk (ofS n d).1 := by
  have hg1 : 1 ≤ (Int.gcd n d : Int) := by
    have : 0 < Int.gcd n d := Int.gcd_pos_of_ne_zero_right n (by omega)
    omega
  have hc : Int.gcd (n / (Int.gcd n d : Int)) (d / (Int.gcd n d : Int)) = 1 := Int.gcd_ediv_gcd_ediv_gcd (by omega)
  have hdd : (d / (Int.gcd n d : Int)) * (Int.gcd n d : Int) = d := Int.ediv_mul_cancel (Int.gcd_dvd_right ..)
  unfold ofS at *
  generalize (Int.gcd n d : Int) = g at *
  generalize n / g = x at *
  generalize d / g = y at *
  split at h
  · cases h
  · rename_i hn
    rw [if_neg hn]
    have hy1 : 1 ≤ y := by
      rcases Int.lt_or_le y 1 with h | h
      · have : y * g ≤ 0 := Int.mul_nonpos_of_nonpos_of_nonneg (by omega) (by omega)
        omega
      · exact h
    exact ratOk_iff.2 ⟨hy1, by dsimp only; omega, by dsimp only; omega, by dsimp only; omega, hc⟩
/-- some ratio comes back -/
def RetRat (w : World) (e : Ending) (w' : World) : Prop := ∃ r, RatOk r ∧ e = .returned (raA r) ∧ Ext w w'
set_option maxRecDepth 100000 in
set_option maxHeartbeats 8000000 in
theorem ratio_c (n m : Int) (w : World) (hn : I64 n) (hm : I64 m) : Calls Try.prog 28 #[.int .i64 n, .int .i64 m] w (RetRat w) := by
  have hk := fun w => around_c m 1048576 w hm (by omega) (by omega)
  have hj := fun w => bound_c n 30 w hn (by omega) (by omega)
  have hi := fun w => bound_c n 1099511627776 w hn (by omega) (by omega)
  obtain ⟨k0, k1⟩ := aroundV_range (n := m) (m := 1048576) hm (by omega)
  obtain ⟨j0, j1⟩ := boundV_range (n := n) (m := 30) hn (by omega)
  obtain ⟨i0, i1⟩ := boundV_range (n := n) (m := 1099511627776) hn (by omega)
  generalize aroundV m 1048576 = k at *
  generalize boundV n 30 = j at *
  generalize boundV n 1099511627776 = jj at *
  replace hk := Lib.hid hk
  replace hj := Lib.hid hj
  replace hi := Lib.hid hi
  have hw := Ext.new w (.cells #[.int .i64 0, .int .i64 0] 40)
  have hO := Proofs.Ytmbkefgmiehdiaa.Own.new w #[.int .i64 0, .int .i64 0] 40
  go_enter Try.func28, Try.ntmps28
  go_wp2_with fail
  generalize w.alloc _ = W at *
  refine RetV_at (hk.out _) ?_
  intro w1 hx1
  replace hO := hO.keep hx1
  replace hw := hw.then hx1
  clear hx1
  go_wp2_with fail
  refine RetV_at (hj.out _) ?_
  intro w2 hx2
  replace hO := hO.keep hx2
  replace hw := hw.then hx2
  clear hx2 hk hj
  have q1 : 0 ≤ k / 4 % 12 ∧ k / 4 % 12 < 12 := by omega
  have hn1 : IntKind.i64.wrap (1 + k / 4 % 12) = 1 + k / 4 % 12 := wrap_id (by omega) (by omega)
  obtain ⟨b1, hb1⟩ : ∃ b, (k % 4 == 3) = b := ⟨_, rfl⟩
  go_upto_if 20 with (fail)
  go_cut [6, 7] (fun vn vd wx => ∃ nn dd : Int, vn = .int .i64 nn ∧ vd = .int .i64 dd ∧ B62 nn ∧ 1 ≤ dd ∧ dd ≤ 1048576 ∧ Own wx w.heap.size #[.int .i64 0, .int .i64 0] 40 ∧ Ext w wx)
  case first =>
    cases b1 with
    | false =>
      go_wp2_with fail
      go_meet
      case rel => exact ⟨_, _, rfl, rfl, by unfold B62; omega, by omega, by omega, hO, hw⟩
    | true =>
      clear hn1
      go_wp2_with fail
      refine RetV_at (hi.out _) ?_
      intro w3 hx3
      replace hO := hO.keep hx3
      replace hw := hw.then hx3
      obtain ⟨i6, e6⟩ : ∃ i : Nat, k / 4 % 6 = i := ⟨(k / 4 % 6).toNat, by omega⟩
      have i6l : i6 < 6 := by omega
      have i6i : (i6 : Int) < 6 := by omega
      obtain ⟨dn, hdn, c6⟩ := lit_mem [1, 2, 1048576, 1048575, 32768, 7] 3 w3 i6 i6l
      have hdn1 : 1 ≤ dn ∧ dn ≤ 1048576 := by
        simp only [List.mem_cons, List.not_mem_nil, or_false] at hdn; omega
      simp only [List.map_cons, List.map_nil] at c6
      have hlt6 : w3.heap.size < (w3.alloc (.cells #[.int .i64 1, .int .i64 2, .int .i64 1048576, .int .i64 1048575, .int .i64 32768, .int .i64 7] 3)).heap.size := by simp
      have hx4 := Ext.new w3 (.cells #[.int .i64 1, .int .i64 2, .int .i64 1048576, .int .i64 1048575, .int .i64 32768, .int .i64 7] 3)
      clear q1 hb1
      go_wp2_with fail
      go_meet
      case rel => exact ⟨_, _, rfl, rfl, by unfold B62; omega, hdn1.1, hdn1.2, hO.keep hx4, hw.then hx4⟩
  case rest =>
    clear hO hw hn1
    obtain ⟨nn, dd, rfl, rfl, hn2, hd1, hd2, hO, hw⟩ := hcut
    have hof := fun w => of_c nn dd w hn2 hd1 (by omega)
    have hok := ofS_ok (n := nn) hd1
    generalize ofS nn dd = rr at *
    obtain ⟨⟨p, q⟩, e⟩ := rr
    unfold raE raA at hof
    dsimp only at *
    replace hof := Lib.hid hof
    replace hok := Lib.hid hok
    clear q1 hn2
    go_wp2_with fail
    refine RetV_at (hof.out _) ?_
    intro w5 hx5
    replace hO := hO.keep hx5
    replace hw := hw.then hx5
    have hO2 := Proofs.Ytmbkefgmiehdiaa.Own.new w5 #[.int .i64 p, .int .i64 q] 40
    have hx7 := Ext.new w5 (.cells #[.int .i64 p, .int .i64 q] 40)
    replace hO := hO.keep hx7
    replace hw := hw.then hx7
    clear hx5 hx7 hof
    go_upto_region 8 with (fail)
    generalize w5.heap.size = b8 at *
    generalize w5.alloc _ = W5 at *
    obtain ⟨c1, f1⟩ := hO.facts
    have z1 := hO.lt
    obtain ⟨c2, f2⟩ := hO2.facts
    have z2 := hO2.lt
    by_cases he : e = 0
    · subst he
      have hok2 := Lib.hid (hok.out rfl)
      go_wp2_with fail
      exact bodyPost_ret (v := raA ⟨p, q⟩) (by simp [raA, results, Try.results28, go_sem, c1, f1, z1]) rfl ⟨_, hok2.out, rfl, (by repeat (first | (with_reducible assumption) | (with_reducible exact Ext.rfl' _) | (with_reducible exact Ext.new _ _) | (with_reducible refine Ext.alloc' ?_ _) | (with_reducible refine Ext.drew' ?_) | (with_reducible refine Ext.drewN' ?_ _) | (with_reducible refine Ext.set' ?_ ?_ _; rotate_left; (focus (first | omega | (simp; done) | (simp; omega)))) | (with_reducible refine Ext.then (b := ?_) ?_ ?_; rotate_left; rotate_left; (with_reducible assumption))))⟩
    · have heb : (e != 0) = true := by simpa using he
      have hok2 : Hid (RatOk ⟨1, 1⟩) := Lib.hid (by decide)
      go_wp2_with fail
      exact bodyPost_ret (v := raA ⟨1, 1⟩) (by simp [raA, results, Try.results28, go_sem, c1, f1, z1]) rfl ⟨_, hok2.out, rfl, (by repeat (first | (with_reducible assumption) | (with_reducible exact Ext.rfl' _) | (with_reducible exact Ext.new _ _) | (with_reducible refine Ext.alloc' ?_ _) | (with_reducible refine Ext.drew' ?_) | (with_reducible refine Ext.drewN' ?_ _) | (with_reducible refine Ext.set' ?_ ?_ _; rotate_left; (focus (first | omega | (simp; done) | (simp; omega)))) | (with_reducible refine Ext.then (b := ?_) ?_ ?_; rotate_left; rotate_left; (with_reducible assumption))))⟩
end Go.Proofs.Ytmbkefgmiehdiaa
namespace Go.Proofs.Ytmbkefgmiehdiaa
set_option linter.unusedVariables false
set_option linter.unusedSimpArgs false
theorem norm_set {raw : List Itv} (hg : ∀ x ∈ raw, goodB x = true) (hl : raw.length ≤ 32) : setE (normS raw).1 = 0 ∧ (normS raw).1.length ≤ raw.length := by
  have h1 := fst_len hg
  have h2 : normS raw = (combF fstK [raw], 0) := by
    unfold normS fewE
    rw [if_neg (by rw [Bool.not_eq_true, List.any_eq_false]; intro x hx; simp [hg x hx]), if_neg (by omega)]
  rw [h2]
  exact ⟨setE_of_can (combF_can (flat1 hg)) (by show (combF fstK [raw]).length ≤ 32; omega), h1⟩
theorem equal_t {vx vy : Value} {X : List Itv} {w : World} (hx : ItvsR (ph w) vx X) (hy : ItvsR (ph w) vy X) : Calls Try.prog 26 #[vx, vy] w (RetV w (.bool true)) := by
  have := equal_c vx vy X X w hx hy
  rwa [show decide (X = X) = true by simp] at this
theorem norm_good {l : List Itv} (hg : ∀ x ∈ l, goodB x = true) : normS l = fewE (combF fstK [l]) := by
  unfold normS
  rw [if_neg (by rw [Bool.not_eq_true, List.any_eq_false]; intro x hx; simp [hg x hx])]
theorem hasL_cov {l : List Itv} (hg : ∀ x ∈ l, goodB x = true) {r : Rat2} : hasL l r = (decide (RatOk r) && covB l ⟨0, r, false⟩) := by
  unfold hasL covB
  congr 1
  rw [Bool.eq_iff_iff, List.any_eq_true, List.any_eq_true]
  constructor
  · rintro ⟨x, hx, h⟩
    simp only [Bool.and_eq_true] at h
    exact ⟨x, hx, h.2⟩
  · rintro ⟨x, hx, h⟩
    exact ⟨x, hx, by simp only [Bool.and_eq_true]; exact ⟨hg x hx, h⟩⟩
theorem end_ok {r : Rat2} (h : RatOk r) : (⟨0, r, false⟩ : En).ok := .inl ⟨rfl, h.ok⟩
theorem norm_ok {l : List Itv} (h : (normS l).2 = 0) : setE (normS l).1 = 0 ∧ normS (normS l).1 = ((normS l).1, 0) ∧ ∀ r, hasL (normS l).1 r = hasL l r := by
  by_cases hb : (l.any fun x => !goodB x) = true
  · exfalso
    unfold normS at h
    rw [if_pos hb] at h
    cases h
  · have hg : ∀ x ∈ l, goodB x = true := by
      rw [Bool.not_eq_true, List.any_eq_false] at hb
      intro x hx
      simpa using hb x hx
    have hn := norm_good hg
    have hlen : ¬ 32 < (combF fstK [l]).length := by
      intro hl
      rw [hn] at h
      unfold fewE at h
      rw [if_pos hl] at h
      cases h
    have hx : (normS l).1 = combF fstK [l] := by
      rw [hn]; unfold fewE; rw [if_neg hlen]
    rw [hx]
    have hc := combF_can (keep := fstK) (flat1 hg)
    have hs : setE (combF fstK [l]) = 0 := setE_of_can hc (by omega)
    refine ⟨hs, ?_, fun r => ?_⟩
    · rw [norm_good hc.good]
      have : combF fstK [combF fstK [l]] = combF fstK [l] := (combF_can (flat1 hc.good)).uniq hc fun e he => by
        rw [combF_cov (flat1 hc.good) he]
        exact cov_guard hc.good e
      rw [this]
      unfold fewE
      rw [if_neg hlen]
    · rw [hasL_cov hc.good, hasL_cov hg]
      by_cases hr : RatOk r
      · rw [combF_cov (flat1 hg) (end_ok hr)]
        simp [fstK]
      · simp [hr]
end Go.Proofs.Ytmbkefgmiehdiaa
