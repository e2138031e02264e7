/- package span: valid, Equal, Within, Has. -/
import Derived.Test.YtmbkefgmiehdiaaSpH
namespace Go.Proofs.Ytmbkefgmiehdiaa
open Go.RowKit Go.Shelf
set_option linter.unusedSimpArgs false
set_option linter.unusedVariables false
def SetE (h : PH) (cs : List Value) (l : List Itv) : Prop := ∃ p q, cs = [.slice p l.length q] ∧ ItvsR h (.slice p l.length q) l
theorem mono_SetE : Mono SetE := fun h h' cs x hl ⟨p, q, e, hc⟩ => ⟨p, q, e, hc.mono mono_ItvR hl⟩
abbrev SetsR : PH → Value → List (List Itv) → Prop := SliceRep SetE 1
theorem SetsR.at {w : World} {a : Option Addr} {n cap : Nat} {xs : List (List Itv)} (hr : SetsR (ph w) (.slice a n cap) xs) (k : Nat) (hk : k < xs.length) :
    ∃ b o p q, a = some ⟨b, o, none⟩ ∧ w.cell? ⟨b, o + k, none⟩ = some (.slice p xs[k].length q) ∧ b < w.heap.size ∧ ItvsR (ph w) (.slice p xs[k].length q) xs[k] := by
  obtain ⟨b, o, cs, h1, h2, h3, ⟨p, q, rfl, h5⟩⟩ := hr.get k hk
  have c0 := h3 0 (by omega)
  have c1 : w.cell? ⟨b, o + k, none⟩ = some (.slice p xs[k].length q) := by rw [cell_ph]; simpa using c0
  exact ⟨b, o, p, q, h1, c1, cell_lt c1, h5⟩
/-- the first error of sets -/
def setsE (ls : List (List Itv)) : Int := match ls.find? (fun l => setE l ≠ 0) with | some l => setE l | none => 0
theorem setsE_drop {ls : List (List Itv)} {k : Nat} (h : k < ls.length) : setsE (ls.drop k) = if setE ls[k] ≠ 0 then setE ls[k] else setsE (ls.drop (k + 1)) := by
  rw [List.drop_eq_getElem_cons h]
  unfold setsE
  rw [List.find?_cons]
  by_cases h1 : setE ls[k] = 0 <;> simp [h1]
theorem setE_I (l : List Itv) : I64 (setE l) := by unfold setE I64; split <;> (try split) <;> omega
set_option maxRecDepth 100000 in
set_option maxHeartbeats 1000000 in
theorem valids_c (v : Value) (ls : List (List Itv)) (w : World) (hr : SetsR (ph w) v ls) : Calls Try.prog 45 #[v] w (RetV w (.int .i64 (setsE ls))) := by
  obtain ⟨a, c, rfl, hlen, hr⟩ := hr.form
  go_enter Try.func45, Try.ntmps45
  go_wp2_with fail
  go_loopw [8] (fun i wr => ∃ k : Nat, k ≤ ls.length ∧ i = .int .i64 k ∧ Hid (setsE ls = setsE (ls.drop k)) ∧ Ext w wr) (fun i _ => ls.length - (intOf i).toNat)
  case atStart => exact ⟨0, Nat.zero_le _, rfl, Lib.hid rfl, Ext.rfl' _⟩
  case round =>
    obtain ⟨k, hk, rfl, ho, hx⟩ := hrel
    by_cases hlt : k < ls.length
    · obtain ⟨b, o, p, q, rfl, h0, hbl, hI⟩ := SetsR.at (hr.mono mono_SetE hx.ple) k hlt
      have hja : decide (k < ls.length) = true := decide_eq_true hlt
      have hv := valid_c (.slice p ls[k].length q) ls[k] wr hI
      have hd := setsE_drop hlt
      generalize setE ls[k] = z at *
      generalize ls[k].length = nk at *
      replace hd := Lib.hid hd
      clear hr hI
      by_cases hz : z = 0
      · have h8 : Hid (setsE ls = setsE (ls.drop (k + 1))) := Lib.hid (by rw [ho.out, hd.out, if_neg (by simpa using hz)])
        subst hz
        go_wp2_with fail
        refine RetV_at hv ?_
        intro w2 hx2
        go_wp2_with fail
        go_roundw
        case rel => exact ⟨k + 1, by omega, by go_num, h8.out, (by repeat (first | (with_reducible assumption) | (with_reducible exact Ext.rfl' _) | (with_reducible exact Ext.new _ _) | (with_reducible refine Ext.alloc' ?_ _) | (with_reducible refine Ext.drew' ?_) | (with_reducible refine Ext.drewN' ?_ _) | (with_reducible refine Ext.set' ?_ ?_ _; rotate_left; (focus (first | omega | (simp; done) | (simp; omega)))) | (with_reducible refine Ext.then (b := ?_) ?_ ?_; rotate_left; rotate_left; (with_reducible assumption))))⟩
        case measure => simp [intOf]; omega
      · have h8 : Hid (setsE ls = z) := Lib.hid (by rw [ho.out, hd.out, if_pos hz])
        have hzb : (z != 0) = true := by simpa using hz
        go_wp2_with fail
        refine RetV_at hv ?_
        intro w2 hx2
        go_wp2_with fail
        go_ret
        exact ⟨ret_int h8.out.symm, (by repeat (first | (with_reducible assumption) | (with_reducible exact Ext.rfl' _) | (with_reducible exact Ext.new _ _) | (with_reducible refine Ext.alloc' ?_ _) | (with_reducible refine Ext.drew' ?_) | (with_reducible refine Ext.drewN' ?_ _) | (with_reducible refine Ext.set' ?_ ?_ _; rotate_left; (focus (first | omega | (simp; done) | (simp; omega)))) | (with_reducible refine Ext.then (b := ?_) ?_ ?_; rotate_left; rotate_left; (with_reducible assumption))))⟩
    · have hja : decide (k < ls.length) = false := by simpa using hlt
      have h8 : Hid (setsE ls = 0) := Lib.hid (by rw [ho.out, List.drop_of_length_le (by omega)]; rfl)
      go_wp2_with fail
      go_ret
      exact ⟨ret_int h8.out.symm, (by repeat (first | (with_reducible assumption) | (with_reducible exact Ext.rfl' _) | (with_reducible exact Ext.new _ _) | (with_reducible refine Ext.alloc' ?_ _) | (with_reducible refine Ext.drew' ?_) | (with_reducible refine Ext.drewN' ?_ _) | (with_reducible refine Ext.set' ?_ ?_ _; rotate_left; (focus (first | omega | (simp; done) | (simp; omega)))) | (with_reducible refine Ext.then (b := ?_) ?_ ?_; rotate_left; rotate_left; (with_reducible assumption))))⟩
set_option maxRecDepth 100000 in
set_option maxHeartbeats 1000000 in
theorem equal1_c (x y : Itv) (w : World) : Calls Try.prog 63 #[itA x, itA y] w (RetV w (.bool (decide (x = y)))) := by
  obtain ⟨⟨a, b⟩, ⟨c, d⟩, lO, rO, lI, rI⟩ := x
  obtain ⟨⟨a', b'⟩, ⟨c', d'⟩, lO', rO', lI', rI'⟩ := y
  have hs : Hid (decide ((⟨⟨a, b⟩, ⟨c, d⟩, lO, rO, lI, rI⟩ : Itv) = ⟨⟨a', b'⟩, ⟨c', d'⟩, lO', rO', lI', rI'⟩) = (a == a' && b == b' && (c == c' && d == d') && lO == lO' && rO == rO' && lI == lI' && rI == rI')) := by
    show _ = _
    rw [Bool.eq_iff_iff]
    simp [and_assoc]
  generalize decide ((⟨⟨a, b⟩, ⟨c, d⟩, lO, rO, lI, rI⟩ : Itv) = ⟨⟨a', b'⟩, ⟨c', d'⟩, lO', rO', lI', rI'⟩) = q at hs ⊢
  unfold itA
  dsimp only
  go_enter Try.func63, Try.ntmps63
  go_wp2_with fail
  all_goals (go_ret; exact ⟨ret_bool (by rw [hs.out]; simp [*]), (by repeat (first | (with_reducible assumption) | (with_reducible exact Ext.rfl' _) | (with_reducible exact Ext.new _ _) | (with_reducible refine Ext.alloc' ?_ _) | (with_reducible refine Ext.drew' ?_) | (with_reducible refine Ext.drewN' ?_ _) | (with_reducible refine Ext.set' ?_ ?_ _; rotate_left; (focus (first | omega | (simp; done) | (simp; omega)))) | (with_reducible refine Ext.then (b := ?_) ?_ ?_; rotate_left; rotate_left; (with_reducible assumption))))⟩)
theorem eqL_drop {xs ys : List Itv} {k : Nat} (h1 : k < xs.length) (h2 : k < ys.length) : decide (xs.drop k = ys.drop k) = (decide (xs[k] = ys[k]) && decide (xs.drop (k + 1) = ys.drop (k + 1))) := by
  rw [List.drop_eq_getElem_cons h1, List.drop_eq_getElem_cons h2, Bool.eq_iff_iff]
  simp only [decide_eq_true_eq, Bool.and_eq_true, List.cons.injEq]
set_option maxRecDepth 100000 in
set_option maxHeartbeats 2000000 in
theorem equalFunc_c (vx vy : Value) (xs ys : List Itv) (w : World) (hx : ItvsR (ph w) vx xs) (hy : ItvsR (ph w) vy ys) : Calls Try.prog 62 #[vx, vy, .func (.func 63) #[] #[]] w (RetV w (.bool (decide (xs = ys)))) := by
  obtain ⟨a, c, rfl, hlen, hx⟩ := hx.form
  obtain ⟨a', c', rfl, hlen', hy⟩ := hy.form
  by_cases hl : xs.length = ys.length
  · have eg : ∀ args w, (callFunc 63 args).run Try.prog w = .ok (.enter 63 args) w := enters_of Try.func63 (by kernel_rfl) rfl
    have hd0 : Hid (decide (xs = ys) = decide (xs.drop 0 = ys.drop 0)) := rfl
    obtain ⟨N, hN⟩ : ∃ N, xs.length = N := ⟨_, rfl⟩
    have hN2 : ys.length = N := by omega
    have hdN : Hid (decide (xs.drop N = ys.drop N) = true) := by
      show _ = _
      rw [List.drop_of_length_le (by omega), List.drop_of_length_le (by omega)]; rfl
    have hst : Hid (∀ k (h : k < N), decide (xs.drop k = ys.drop k) = (decide (xs[k] = ys[k]) && decide (xs.drop (k + 1) = ys.drop (k + 1)))) := Lib.hid fun k h => eqL_drop (by omega) (by omega)
    have hX : Hid (∀ (w' : World), Ext w w' → ∀ k (h : k < N), ∃ b o, a = some ⟨b, o, none⟩ ∧ w'.cell? ⟨b, o + k * 8, none⟩ = some (.int .i64 xs[k].lo.num) ∧ w'.cell? ⟨b, o + k * 8 + 1, none⟩ = some (.int .i64 xs[k].lo.den) ∧ w'.cell? ⟨b, o + k * 8 + 2, none⟩ = some (.int .i64 xs[k].hi.num) ∧ w'.cell? ⟨b, o + k * 8 + 3, none⟩ = some (.int .i64 xs[k].hi.den) ∧ w'.cell? ⟨b, o + k * 8 + 4, none⟩ = some (.bool xs[k].loO) ∧ w'.cell? ⟨b, o + k * 8 + 5, none⟩ = some (.bool xs[k].hiO) ∧ w'.cell? ⟨b, o + k * 8 + 6, none⟩ = some (.bool xs[k].loI) ∧ w'.cell? ⟨b, o + k * 8 + 7, none⟩ = some (.bool xs[k].hiI) ∧ b < w'.heap.size ∧ xs[k].I) := Lib.hid fun w' h k hk => ItvsR.at (hx.mono mono_ItvR h.ple) k (by omega)
    have hY : Hid (∀ (w' : World), Ext w w' → ∀ k (h : k < N), ∃ b o, a' = some ⟨b, o, none⟩ ∧ w'.cell? ⟨b, o + k * 8, none⟩ = some (.int .i64 ys[k].lo.num) ∧ w'.cell? ⟨b, o + k * 8 + 1, none⟩ = some (.int .i64 ys[k].lo.den) ∧ w'.cell? ⟨b, o + k * 8 + 2, none⟩ = some (.int .i64 ys[k].hi.num) ∧ w'.cell? ⟨b, o + k * 8 + 3, none⟩ = some (.int .i64 ys[k].hi.den) ∧ w'.cell? ⟨b, o + k * 8 + 4, none⟩ = some (.bool ys[k].loO) ∧ w'.cell? ⟨b, o + k * 8 + 5, none⟩ = some (.bool ys[k].hiO) ∧ w'.cell? ⟨b, o + k * 8 + 6, none⟩ = some (.bool ys[k].loI) ∧ w'.cell? ⟨b, o + k * 8 + 7, none⟩ = some (.bool ys[k].hiI) ∧ b < w'.heap.size ∧ ys[k].I) := Lib.hid fun w' h k hk => ItvsR.at (hy.mono mono_ItvR h.ple) k (by omega)
    clear hx hy
    replace hN := Lib.hid hN
    replace hN2 := Lib.hid hN2
    replace hl := Lib.hid hl
    rw [hN.out] at hlen ⊢
    rw [hN2.out] at hlen' ⊢
    go_enter Try.func62, Try.ntmps62
    go_wp2_with fail
    go_loopw [17] (fun i wr => ∃ k : Nat, k ≤ N ∧ i = .int .i64 k ∧ Hid (decide (xs = ys) = decide (xs.drop k = ys.drop k)) ∧ Ext w wr) (fun i _ => N - (intOf i).toNat)
    case atStart => exact ⟨0, Nat.zero_le _, rfl, hd0, Ext.rfl' _⟩
    case round =>
      obtain ⟨k, hk, rfl, ho, hxr⟩ := hrel
      by_cases hlt : k < N
      · obtain ⟨b, o, rfl, x0, x1, x2, x3, x4, x5, x6, x7, hbl, -⟩ := hX.out wr hxr k hlt
        obtain ⟨b', o', rfl, y0, y1, y2, y3, y4, y5, y6, y7, hbl', -⟩ := hY.out wr hxr k hlt
        have hja : decide (k < N) = true := decide_eq_true hlt
        have hs := hst.out k hlt
        have hq := fun w => equal1_c xs[k] ys[k] w
        generalize decide (xs[k] = ys[k]) = e at *
        generalize xs[k] = x at *
        generalize ys[k] = y at *
        obtain ⟨⟨p, q⟩, ⟨r, s⟩, lO, rO, lI, rI⟩ := x
        obtain ⟨⟨p', q'⟩, ⟨r', s'⟩, lO', rO', lI', rI'⟩ := y
        unfold itA at hq
        dsimp only at *
        replace hs := Lib.hid hs
        replace hq := Lib.hid hq
        go_upto_region 6 with (fail)
        have hx1 := Ext.new wr (.cells #[.int .i64 p, .int .i64 q, .int .i64 r, .int .i64 s, .bool lO, .bool rO, .bool lI, .bool rI] 43)
        replace y0 := hx1.cell1 y0
        replace y1 := hx1.cell1 y1
        replace y2 := hx1.cell1 y2
        replace y3 := hx1.cell1 y3
        replace y4 := hx1.cell1 y4
        replace y5 := hx1.cell1 y5
        replace y6 := hx1.cell1 y6
        replace y7 := hx1.cell1 y7
        replace hbl' := cell_lt y0
        have hO := Proofs.Ytmbkefgmiehdiaa.Own.new wr #[.int .i64 p, .int .i64 q, .int .i64 r, .int .i64 s, .bool lO, .bool rO, .bool lI, .bool rI] 43
        replace hxr := hxr.then hx1
        clear hx1 x0 x1 x2 x3 x4 x5 x6 x7 hbl
        generalize wr.heap.size = b8 at *
        generalize wr.alloc _ = W at *
        go_upto_region 7 with (fail)
        have hx1 := Ext.new W (.cells #[.int .i64 p', .int .i64 q', .int .i64 r', .int .i64 s', .bool lO', .bool rO', .bool lI', .bool rI'] 43)
        have hO2 := Proofs.Ytmbkefgmiehdiaa.Own.new W #[.int .i64 p', .int .i64 q', .int .i64 r', .int .i64 s', .bool lO', .bool rO', .bool lI', .bool rI'] 43
        replace hO := hO.keep hx1
        replace hxr := hxr.then hx1
        clear hx1 y0 y1 y2 y3 y4 y5 y6 y7 hbl'
        generalize W.heap.size = b9 at *
        generalize W.alloc _ = W2 at *
        obtain ⟨c1, f1⟩ := hO.facts
        obtain ⟨c2, f2⟩ := hO2.facts
        have z1 := hO.lt
        have z2 := hO2.lt
        clear hO hO2
        go_wp2_with fail
        refine RetV_at (hq.out _) ?_
        intro w2 hx2
        replace hxr := hxr.then hx2
        clear c1 f1 c2 f2 z1 z2 hx2
        cases e with
        | true =>
          have h8 : Hid (decide (xs = ys) = decide (xs.drop (k + 1) = ys.drop (k + 1))) := Lib.hid (by rw [ho.out, hs.out]; simp)
          go_wp2_with fail
          go_roundw
          case rel => exact ⟨k + 1, by omega, by go_num, h8.out, hxr⟩
          case measure => simp [intOf]; omega
        | false =>
          have h8 : Hid (decide (xs = ys) = false) := Lib.hid (by rw [ho.out, hs.out]; simp)
          go_wp2_with fail
          go_ret
          exact ⟨ret_bool h8.out.symm, hxr⟩
      · have hja : decide (k < N) = false := by simpa using hlt
        have h8 : Hid (decide (xs = ys) = true) := Lib.hid (by rw [ho.out, show k = N by omega]; exact hdN.out)
        go_wp2_with fail
        go_ret
        exact ⟨ret_bool h8.out.symm, hxr⟩
  · have h8 : Hid (decide (xs = ys) = false) := Lib.hid (by simp; intro h; exact hl (by rw [h]))
    have hb : ((xs.length : Int) != (ys.length : Int)) = true := by rw [bne_iff_ne]; omega
    go_enter Try.func62, Try.ntmps62
    go_wp2_with fail
    go_ret
    exact ⟨ret_bool h8.out.symm, (by repeat (first | (with_reducible assumption) | (with_reducible exact Ext.rfl' _) | (with_reducible exact Ext.new _ _) | (with_reducible refine Ext.alloc' ?_ _) | (with_reducible refine Ext.drew' ?_) | (with_reducible refine Ext.drewN' ?_ _) | (with_reducible refine Ext.set' ?_ ?_ _; rotate_left; (focus (first | omega | (simp; done) | (simp; omega)))) | (with_reducible refine Ext.then (b := ?_) ?_ ?_; rotate_left; rotate_left; (with_reducible assumption))))⟩
theorem equal_c (vx vy : Value) (xs ys : List Itv) (w : World) (hx : ItvsR (ph w) vx xs) (hy : ItvsR (ph w) vy ys) : Calls Try.prog 26 #[vx, vy] w (RetV w (.bool (decide (xs = ys)))) := by
  have h := equalFunc_c vx vy xs ys w hx hy
  generalize decide (xs = ys) = q at h ⊢
  obtain ⟨a, c, rfl, -, -⟩ := hx.form
  obtain ⟨a', c', rfl, -, -⟩ := hy.form
  go_enter Try.func26, Try.ntmps26
  go_wp2_with fail
  refine RetV_at h ?_
  intro w2 hx2
  go_wp2_with fail
  go_ret
  exact ⟨rfl, hx2⟩
end Go.Proofs.Ytmbkefgmiehdiaa
