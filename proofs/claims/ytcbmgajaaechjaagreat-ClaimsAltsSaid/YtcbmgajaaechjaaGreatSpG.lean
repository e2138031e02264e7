/- package span: between, good, Valid, inside. -/
import Derived.Test.YtcbmgajaaechjaaGreatSpN
namespace Go.Proofs.YtcbmgajaaechjaaGreat
open Go.RowKit Go.Shelf
set_option linter.unusedSimpArgs false
set_option linter.unusedVariables false
theorem errIf_beq {p : Prop} [Decidable p] {k : Int} (hk : k ≠ 0) : ((ErrIf p k) == 0) = decide p := by
  by_cases h : p
  · rw [ErrIf_t h]; simp [h]
  · rw [ErrIf_f h]; simp [h, hk]
set_option maxRecDepth 100000 in
set_option maxHeartbeats 1000000 in
theorem small_c (r : Rat2) (w : World) (hr : r.I) : Calls Tryz.prog 123 #[raA r] w (RetV w (.bool (smallB r))) := by
  have hs : Hid (smallB r = (decide (RatOk r) && decide (-1073741824 ≤ r.num) && decide (r.num ≤ 1073741824) && decide (r.den ≤ 32768))) := by
    show _ = _
    rw [Bool.eq_iff_iff, smallB_iff]
    simp only [Bool.and_eq_true, decide_eq_true_eq]
    constructor
    · rintro ⟨h, h1, h2⟩; exact ⟨⟨⟨h, by omega⟩, by omega⟩, h2⟩
    · rintro ⟨⟨⟨h, h1⟩, h2⟩, h3⟩; exact ⟨h, by omega, h3⟩
  have hv := fun w => ratValid_c r w hr.1 hr.2
  have he := errIf_beq (p := RatOk r) (k := 1) (by decide)
  generalize ErrIf (RatOk r) 1 = z at hv he
  generalize decide (RatOk r) = ok at *
  generalize smallB r = q at *
  obtain ⟨n, d⟩ := r
  unfold raA
  dsimp only at *
  have hw := Ext.new w (.cells #[.int .i64 n, .int .i64 d] 100)
  go_enter Tryz.func123, Tryz.ntmps123
  go_wp2_with fail
  refine RetV_at (hv _) ?_
  intro w1 hx1
  obtain ⟨c1, f1, s1⟩ := hx1.cells
  simp at s1
  cases ok with
  | false =>
    go_wp2_with fail
    go_ret
    exact ⟨ret_bool (by rw [hs.out]; simp), (by repeat (first | (with_reducible assumption) | (with_reducible exact Ext.rfl' _) | (with_reducible exact Ext.new _ _) | (with_reducible refine Ext.alloc' ?_ _) | (with_reducible refine Ext.drew' ?_) | (with_reducible refine Ext.drewN' ?_ _) | (with_reducible refine Ext.set' ?_ ?_ _; rotate_left; (focus (first | omega | (simp; done) | (simp; omega)))) | (with_reducible refine Ext.then (b := ?_) ?_ ?_; rotate_left; rotate_left; (with_reducible assumption))))⟩
  | true =>
    by_cases h1 : -1073741824 ≤ n
    · by_cases h2 : n ≤ 1073741824
      · go_wp2_with fail
        go_ret
        exact ⟨ret_bool (by rw [hs.out]; simp [h1, h2]), (by repeat (first | (with_reducible assumption) | (with_reducible exact Ext.rfl' _) | (with_reducible exact Ext.new _ _) | (with_reducible refine Ext.alloc' ?_ _) | (with_reducible refine Ext.drew' ?_) | (with_reducible refine Ext.drewN' ?_ _) | (with_reducible refine Ext.set' ?_ ?_ _; rotate_left; (focus (first | omega | (simp; done) | (simp; omega)))) | (with_reducible refine Ext.then (b := ?_) ?_ ?_; rotate_left; rotate_left; (with_reducible assumption))))⟩
      · go_wp2_with fail
        go_ret
        exact ⟨ret_bool (by rw [hs.out]; simp; intros; omega), (by repeat (first | (with_reducible assumption) | (with_reducible exact Ext.rfl' _) | (with_reducible exact Ext.new _ _) | (with_reducible refine Ext.alloc' ?_ _) | (with_reducible refine Ext.drew' ?_) | (with_reducible refine Ext.drewN' ?_ _) | (with_reducible refine Ext.set' ?_ ?_ _; rotate_left; (focus (first | omega | (simp; done) | (simp; omega)))) | (with_reducible refine Ext.then (b := ?_) ?_ ?_; rotate_left; rotate_left; (with_reducible assumption))))⟩
    · go_wp2_with fail
      go_ret
      exact ⟨ret_bool (by rw [hs.out]; simp; intros; omega), (by repeat (first | (with_reducible assumption) | (with_reducible exact Ext.rfl' _) | (with_reducible exact Ext.new _ _) | (with_reducible refine Ext.alloc' ?_ _) | (with_reducible refine Ext.drew' ?_) | (with_reducible refine Ext.drewN' ?_ _) | (with_reducible refine Ext.set' ?_ ?_ _; rotate_left; (focus (first | omega | (simp; done) | (simp; omega)))) | (with_reducible refine Ext.then (b := ?_) ?_ ?_; rotate_left; rotate_left; (with_reducible assumption))))⟩
set_option maxRecDepth 100000 in
set_option maxHeartbeats 1000000 in
theorem limit_c (r : Rat2) (o inf : Bool) (w : World) (hr : r.I) : Calls Tryz.prog 122 #[raA r, .bool o, .bool inf] w (RetV w (.bool (limB r o inf))) := by
  have hsm := fun w => small_c r w hr
  obtain ⟨n, d⟩ := r
  unfold raA at *
  dsimp only at *
  have hw := Ext.new w (.cells #[.int .i64 n, .int .i64 d] 100)
  cases inf with
  | true =>
    have hs : Hid (limB ⟨n, d⟩ o true = ((n == 0 && d == 0) && !o)) := by
      show _ = _
      unfold limB
      rw [if_pos rfl]
      congr 1
      rw [Bool.eq_iff_iff]; simp
    generalize limB _ _ _ = q at hs ⊢
    clear hsm
    go_enter Tryz.func122, Tryz.ntmps122
    go_wp2_with fail
    all_goals (go_ret; exact ⟨ret_bool (by rw [hs.out]; simp [*]), (by repeat (first | (with_reducible assumption) | (with_reducible exact Ext.rfl' _) | (with_reducible exact Ext.new _ _) | (with_reducible refine Ext.alloc' ?_ _) | (with_reducible refine Ext.drew' ?_) | (with_reducible refine Ext.drewN' ?_ _) | (with_reducible refine Ext.set' ?_ ?_ _; rotate_left; (focus (first | omega | (simp; done) | (simp; omega)))) | (with_reducible refine Ext.then (b := ?_) ?_ ?_; rotate_left; rotate_left; (with_reducible assumption))))⟩)
  | false =>
    have hs : Hid (limB ⟨n, d⟩ o false = smallB ⟨n, d⟩) := rfl
    generalize limB _ _ _ = q at hs ⊢
    go_enter Tryz.func122, Tryz.ntmps122
    go_wp2_with fail
    refine RetV_at (hsm _) ?_
    intro w1 hx1
    go_wp2_with fail
    go_ret
    exact ⟨ret_bool hs.out.symm, (by repeat (first | (with_reducible assumption) | (with_reducible exact Ext.rfl' _) | (with_reducible exact Ext.new _ _) | (with_reducible refine Ext.alloc' ?_ _) | (with_reducible refine Ext.drew' ?_) | (with_reducible refine Ext.drewN' ?_ _) | (with_reducible refine Ext.set' ?_ ?_ _; rotate_left; (focus (first | omega | (simp; done) | (simp; omega)))) | (with_reducible refine Ext.then (b := ?_) ?_ ?_; rotate_left; rotate_left; (with_reducible assumption))))⟩
set_option maxRecDepth 100000 in
set_option maxHeartbeats 2000000 in
theorem good_c (x : Itv) (w : World) (hx : x.I) : Calls Tryz.prog 109 #[itA x] w (RetV w (.bool (goodB x))) := by
  have h1 := fun w => limit_c x.lo x.loO x.loI w hx.1
  have h2 := fun w => limit_c x.hi x.hiO x.hiI w hx.2
  have h3 := fun w => ends_c x w
  have hs : Hid (goodB x = (limB x.lo x.loO x.loI && limB x.hi x.hiO x.hiI && lessE (loE x) (hiE x))) := rfl
  have h4 := fun (w : World) (k1 : limB x.lo x.loO x.loI = true) (k2 : limB x.hi x.hiO x.hiI = true) => less_c (loE x) (hiE x) w (limB_lo k1).bd (limB_hi k2).bd
  obtain ⟨⟨a, b⟩, ⟨c, d⟩, lO, hO, lI, hI⟩ := x
  unfold itA raA endsV at *
  dsimp only at *
  generalize limB _ lO _ = p at *
  generalize limB _ hO _ = p' at *
  generalize lessE _ _ = p2 at *
  generalize goodB _ = q at *
  generalize enA _ = L at *
  generalize enA _ = R at *
  have hw := Ext.new w (.cells #[.int .i64 a, .int .i64 b, .int .i64 c, .int .i64 d, .bool lO, .bool hO, .bool lI, .bool hI] 117)
  have eg : ∀ args w, (callFunc 122 args).run Tryz.prog w = .ok (.enter 122 args) w := enters_of Tryz.func122 (by kernel_rfl) rfl
  replace h1 := Lib.hid h1
  replace h2 := Lib.hid h2
  replace h3 := Lib.hid h3
  replace h4 := Lib.hid h4
  have hO := Proofs.YtcbmgajaaechjaaGreat.Own.new w #[.int .i64 a, .int .i64 b, .int .i64 c, .int .i64 d, .bool lO, .bool hO, .bool lI, .bool hI] 117
  go_enter Tryz.func109, Tryz.ntmps109
  go_upto_region 1 with (fail)
  generalize w.alloc _ = W at *
  obtain ⟨c0, f0⟩ := hO.facts
  have z0 := hO.lt
  go_wp2_with fail
  refine RetV_at (h1.out _) ?_
  intro w1 hx1
  replace hO := hO.keep hx1
  replace hw := hw.then hx1
  clear c0 f0 z0 hx1
  obtain ⟨c1, f1⟩ := hO.facts
  have z1 := hO.lt
  cases p with
  | false =>
    go_wp2_with fail
    go_ret
    exact ⟨ret_bool (by rw [hs.out]; simp), (by repeat (first | (with_reducible assumption) | (with_reducible exact Ext.rfl' _) | (with_reducible exact Ext.new _ _) | (with_reducible refine Ext.alloc' ?_ _) | (with_reducible refine Ext.drew' ?_) | (with_reducible refine Ext.drewN' ?_ _) | (with_reducible refine Ext.set' ?_ ?_ _; rotate_left; (focus (first | omega | (simp; done) | (simp; omega)))) | (with_reducible refine Ext.then (b := ?_) ?_ ?_; rotate_left; rotate_left; (with_reducible assumption))))⟩
  | true =>
    go_wp2_with fail
    refine RetV_at (h2.out _) ?_
    intro w2 hx2
    replace hO := hO.keep hx2
    replace hw := hw.then hx2
    clear c1 f1 z1 hx2
    obtain ⟨c2, f2⟩ := hO.facts
    have z2 := hO.lt
    cases p' with
    | false =>
      go_wp2_with fail
      go_ret
      exact ⟨ret_bool (by rw [hs.out]; simp), (by repeat (first | (with_reducible assumption) | (with_reducible exact Ext.rfl' _) | (with_reducible exact Ext.new _ _) | (with_reducible refine Ext.alloc' ?_ _) | (with_reducible refine Ext.drew' ?_) | (with_reducible refine Ext.drewN' ?_ _) | (with_reducible refine Ext.set' ?_ ?_ _; rotate_left; (focus (first | omega | (simp; done) | (simp; omega)))) | (with_reducible refine Ext.then (b := ?_) ?_ ?_; rotate_left; rotate_left; (with_reducible assumption))))⟩
    | true =>
      go_wp2_with fail
      refine RetV_at (h3.out _) ?_
      intro w3 hx3
      go_wp2_with fail
      refine RetV_at (h4.out _ (by first | trivial | rfl) (by first | trivial | rfl)) ?_
      intro w4 hx4
      go_wp2_with fail
      go_ret
      exact ⟨ret_bool (by rw [hs.out]; simp), (by repeat (first | (with_reducible assumption) | (with_reducible exact Ext.rfl' _) | (with_reducible exact Ext.new _ _) | (with_reducible refine Ext.alloc' ?_ _) | (with_reducible refine Ext.drew' ?_) | (with_reducible refine Ext.drewN' ?_ _) | (with_reducible refine Ext.set' ?_ ?_ _; rotate_left; (focus (first | omega | (simp; done) | (simp; omega)))) | (with_reducible refine Ext.then (b := ?_) ?_ ?_; rotate_left; rotate_left; (with_reducible assumption))))⟩
end Go.Proofs.YtcbmgajaaechjaaGreat
