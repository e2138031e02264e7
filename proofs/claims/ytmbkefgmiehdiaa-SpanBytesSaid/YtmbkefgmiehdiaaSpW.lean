/- package span: Not, Normal, Within. -/
import Derived.Test.YtmbkefgmiehdiaaSpU
namespace Go.Proofs.Ytmbkefgmiehdiaa
open Go.RowKit Go.Shelf
set_option linter.unusedSimpArgs false
set_option linter.unusedVariables false
set_option maxRecDepth 100000 in
set_option maxHeartbeats 1000000 in
theorem not_c (va : Value) (a : List Itv) (w : World) (ha : ItvsR (ph w) va a) : Calls Try.prog 14 #[va] w (SetRes w (notS a)) := by
  have hv2 := valid_c _ a w ha
  have hcm := fun (v : Value) (w : World) (h : SetsR (ph w) v [a]) (h0 : setE a = 0) => combine_c 42 notK [a] v w h (by
      intro x hx
      simp only [List.flatten_cons, List.flatten_nil, List.append_nil] at hx
      exact (setE_0 h0).1 x hx) (by
      have h1 := (setE_0 h0).2
      simp; omega) (by simp) keepNot (enters_of Try.func42 (by kernel_rfl) rfl)
  have hs : Hid (notS a = if setE a ≠ 0 then ([], setE a) else fewE (combF notK [a])) := rfl
  have hS2 := fun W (hx : Ext w W) => setsR1 (Proofs.Ytmbkefgmiehdiaa.Own.new W #[va] 23) (hx.then (Ext.new W (.cells #[va] 23))) ha
  replace hS2 := Lib.hid hS2
  replace hcm := Lib.hid hcm
  obtain ⟨pa, ca, rfl, -, -⟩ := ha.form
  generalize setE a = e at *
  replace hv2 := Lib.hid hv2
  clear ha
  go_enter Try.func14, Try.ntmps14
  go_wp2_with fail
  refine RetV_at hv2.out ?_
  intro w2 hx1
  by_cases he : e = 0
  · subst he
    rw [if_neg (by simp)] at hs
    have hcm2 := hcm.out _ _ (hS2.out w2 hx1) rfl
    replace hcm2 := Lib.hid hcm2
    have hx3 := hx1.then (Ext.new w2 (.cells #[.slice pa a.length ca] 23))
    go_wp2_with fail
    refine hcm2.out.mono ?_
    rintro e w4 ⟨v, rfl, hx4, hr⟩
    go_wp2_with fail
    go_ret2
    rw [hs.out]
    exact ⟨v, rfl, hx3.then hx4, hr⟩
  · rw [if_pos he] at hs
    have heb : (e != 0) = true := by simpa using he
    go_wp2_with fail
    go_ret2
    rw [hs.out]
    exact ⟨_, rfl, hx1, SliceRep.nil _ _ _⟩
set_option maxRecDepth 100000 in
set_option maxHeartbeats 1000000 in
theorem norm1_c (x : Itv) (w : World) (hx : x.I) : Calls Try.prog 65 #[itA x] w (RetV w (.bool (!goodB x))) := by
  have h := fun w => good_c x w hx
  generalize goodB x = q at *
  clear hx
  obtain ⟨⟨a, b⟩, ⟨c, d⟩, lO, rO, lI, rI⟩ := x
  unfold itA at *
  dsimp only at *
  have hw := Ext.new w (.cells #[.int .i64 a, .int .i64 b, .int .i64 c, .int .i64 d, .bool lO, .bool rO, .bool lI, .bool rI] 43)
  replace h := Lib.hid h
  go_enter Try.func65, Try.ntmps65
  go_wp2_with fail
  refine RetV_at (h.out _) ?_
  intro w2 hx2
  go_wp2_with fail
  go_ret
  exact ⟨rfl, (by repeat (first | (with_reducible assumption) | (with_reducible exact Ext.rfl' _) | (with_reducible exact Ext.new _ _) | (with_reducible refine Ext.alloc' ?_ _) | (with_reducible refine Ext.drew' ?_) | (with_reducible refine Ext.drewN' ?_ _) | (with_reducible refine Ext.set' ?_ ?_ _; rotate_left; (focus (first | omega | (simp; done) | (simp; omega)))) | (with_reducible refine Ext.then (b := ?_) ?_ ?_; rotate_left; rotate_left; (with_reducible assumption))))⟩
set_option maxRecDepth 100000 in
set_option maxHeartbeats 1000000 in
theorem normal_c (va : Value) (a : List Itv) (w : World) (ha : ItvsR (ph w) va a) (hlen : a.length ≤ 10000) : Calls Try.prog 29 #[va] w (SetRes w (normS a)) := by
  have hv2 := containsFunc_itv (fun x => !goodB x) 65 #[] va a w ha (enters_of Try.func65 (by kernel_rfl) rfl) (by
    rintro w'' hx2 x hx3 cs ⟨rfl, hI⟩
    exact norm1_c x w'' hI)
  have hcm := fun (v : Value) (w : World) (h : SetsR (ph w) v [a]) (h0 : (a.any fun x => !goodB x) = false) => combine_c 66 fstK [a] v w h (by
      intro x hx
      simp only [List.flatten_cons, List.flatten_nil, List.append_nil] at hx
      rw [List.any_eq_false] at h0
      have := h0 x hx
      simpa using this) (by simpa using hlen) (by simp) keepFst (enters_of Try.func66 (by kernel_rfl) rfl)
  have hs : Hid (normS a = if a.any (fun x => !goodB x) then ([], 1) else fewE (combF fstK [a])) := rfl
  have hS2 := fun W (hx : Ext w W) => setsR1 (Proofs.Ytmbkefgmiehdiaa.Own.new W #[va] 23) (hx.then (Ext.new W (.cells #[va] 23))) ha
  replace hS2 := Lib.hid hS2
  replace hcm := Lib.hid hcm
  obtain ⟨pa, ca, rfl, -, -⟩ := ha.form
  generalize (a.any fun x => !goodB x) = e at *
  replace hv2 := Lib.hid hv2
  clear ha
  go_enter Try.func29, Try.ntmps29
  go_wp2_with fail
  refine RetV_at hv2.out ?_
  intro w2 hx1
  cases e with
  | false =>
    rw [if_neg (by simp)] at hs
    have hcm2 := hcm.out _ _ (hS2.out w2 hx1) rfl
    replace hcm2 := Lib.hid hcm2
    have hx3 := hx1.then (Ext.new w2 (.cells #[.slice pa a.length ca] 23))
    go_wp2_with fail
    refine hcm2.out.mono ?_
    rintro e w4 ⟨v, rfl, hx4, hr⟩
    go_wp2_with fail
    go_ret2
    rw [hs.out]
    exact ⟨v, rfl, hx3.then hx4, hr⟩
  | true =>
    rw [if_pos rfl] at hs
    go_wp2_with fail
    go_ret2
    rw [hs.out]
    exact ⟨_, rfl, hx1, SliceRep.nil _ _ _⟩
/-- an interval of b has all of x -/
def wthB (b : List Itv) (x : Itv) : Bool := b.any fun y => !lessE (loE x) (loE y) && !lessE (hiE y) (hiE x)
def withS (a b : List Itv) : Bool × Int := if setsE [a, b] ≠ 0 then (false, setsE [a, b]) else (a.all (wthB b), 0)
set_option maxRecDepth 100000 in
set_option maxHeartbeats 1000000 in
theorem within1_c (y : Itv) (L R : En) (bL bR : Nat) (w : World) (hy : goodB y = true) (hL : L.bd) (hR : R.bd) (hO1 : Own w bL (enC L).toArray 73) (hO2 : Own w bR (enC R).toArray 73) :
    Calls Try.prog 50 #[itA y, .pointer (some ⟨bL, 0, none⟩), .pointer (some ⟨bR, 0, none⟩)] w (RetV w (.bool (!lessE L (loE y) && !lessE (hiE y) R))) := by
  have h3 := fun w => ends_c y w
  have h4 := fun (w : World) => less_c L (loE y) w hL (goodB.lo hy).bd
  have h5 := fun (w : World) => less_c (hiE y) R w (goodB.hi hy).bd hR
  unfold endsV at h3
  generalize lessE L (loE y) = p at *
  generalize lessE (hiE y) R = p' at *
  generalize loE y = U at *
  generalize hiE y = V at *
  clear hy hL hR
  obtain ⟨⟨a, b⟩, ⟨c, d⟩, lO, rO, lI, rI⟩ := y
  obtain ⟨f1, ⟨n1, d1⟩, t1⟩ := L
  obtain ⟨f2, ⟨n2, d2⟩, t2⟩ := R
  obtain ⟨f3, ⟨n3, d3⟩, t3⟩ := U
  obtain ⟨f4, ⟨n4, d4⟩, t4⟩ := V
  unfold itA enA enC at *
  dsimp only [List.toArray] at *
  have hw := Ext.new w (.cells #[.int .i64 a, .int .i64 b, .int .i64 c, .int .i64 d, .bool lO, .bool rO, .bool lI, .bool rI] 43)
  replace hO1 := hO1.keep hw
  replace hO2 := hO2.keep hw
  have hO3 := Proofs.Ytmbkefgmiehdiaa.Own.new w #[.int .i64 a, .int .i64 b, .int .i64 c, .int .i64 d, .bool lO, .bool rO, .bool lI, .bool rI] 43
  replace h3 := Lib.hid h3
  replace h4 := Lib.hid h4
  replace h5 := Lib.hid h5
  go_enter Try.func50, Try.ntmps50
  go_upto_region 1 with (fail)
  generalize w.heap.size = b9 at *
  generalize w.alloc _ = W at *
  obtain ⟨c0, f0⟩ := hO3.facts
  have z0 := hO3.lt
  go_wp2_with fail
  refine RetV_at (h3.out _) ?_
  intro w1 hx1
  replace hw := hw.then hx1
  replace hO1 := hO1.keep hx1
  replace hO2 := hO2.keep hx1
  clear c0 f0 z0 hO3 hx1
  go_upto_region 2 with (fail)
  have k1 := (Proofs.Ytmbkefgmiehdiaa.Own.new w1 #[.int .i64 f3, .int .i64 n3, .int .i64 d3, .bool t3] 73).alloc (.cells #[.int .i64 f4, .int .i64 n4, .int .i64 d4, .bool t4] 73)
  have k2 := Proofs.Ytmbkefgmiehdiaa.Own.new' (w1.alloc (.cells #[.int .i64 f3, .int .i64 n3, .int .i64 d3, .bool t3] 73)) #[.int .i64 f4, .int .i64 n4, .int .i64 d4, .bool t4] 73 (n := w1.heap.size + 1) (by simp)
  have hy := (Ext.new w1 (.cells #[.int .i64 f3, .int .i64 n3, .int .i64 d3, .bool t3] 73)).alloc' (.cells #[.int .i64 f4, .int .i64 n4, .int .i64 d4, .bool t4] 73)
  replace hO1 := hO1.keep hy
  replace hO2 := hO2.keep hy
  replace hw := hw.then hy
  generalize w1.heap.size = b8 at *
  generalize (w1.alloc _).alloc _ = W1 at *
  obtain ⟨c1, q1⟩ := k1.facts
  obtain ⟨c3, q3⟩ := hO1.facts
  have z1 := k1.lt
  have z3 := hO1.lt
  go_wp2_with fail
  refine RetV_at (h4.out _) ?_
  intro w2 hx2
  replace k2 := k2.keep hx2
  replace hO2 := hO2.keep hx2
  replace hw := hw.then hx2
  clear c1 q1 c3 q3 z1 z3 hx2 hy
  obtain ⟨c2, q2⟩ := k2.facts
  obtain ⟨c4, q4⟩ := hO2.facts
  have z2 := k2.lt
  have z4 := hO2.lt
  cases p with
  | true =>
    go_wp2_with fail
    go_ret
    exact ⟨ret_bool (by simp), (by repeat (first | (with_reducible assumption) | (with_reducible exact Ext.rfl' _) | (with_reducible exact Ext.new _ _) | (with_reducible refine Ext.alloc' ?_ _) | (with_reducible refine Ext.drew' ?_) | (with_reducible refine Ext.drewN' ?_ _) | (with_reducible refine Ext.set' ?_ ?_ _; rotate_left; (focus (first | omega | (simp; done) | (simp; omega)))) | (with_reducible refine Ext.then (b := ?_) ?_ ?_; rotate_left; rotate_left; (with_reducible assumption))))⟩
  | false =>
    go_wp2_with fail
    refine RetV_at (h5.out _) ?_
    intro w3 hx3
    go_wp2_with fail
    go_ret
    exact ⟨ret_bool (by simp), (by repeat (first | (with_reducible assumption) | (with_reducible exact Ext.rfl' _) | (with_reducible exact Ext.new _ _) | (with_reducible refine Ext.alloc' ?_ _) | (with_reducible refine Ext.drew' ?_) | (with_reducible refine Ext.drewN' ?_ _) | (with_reducible refine Ext.set' ?_ ?_ _; rotate_left; (focus (first | omega | (simp; done) | (simp; omega)))) | (with_reducible refine Ext.then (b := ?_) ?_ ?_; rotate_left; rotate_left; (with_reducible assumption))))⟩
theorem all_drop {b : List Itv} {a : List Itv} {k : Nat} (h : k < a.length) : (a.drop k).all (wthB b) = (wthB b a[k] && (a.drop (k + 1)).all (wthB b)) := by
  rw [List.drop_eq_getElem_cons h, List.all_cons]
set_option maxRecDepth 100000 in
set_option maxHeartbeats 4000000 in
theorem within_c (va vb : Value) (a b : List Itv) (w : World) (ha : ItvsR (ph w) va a) (hb : ItvsR (ph w) vb b) :
    Calls Try.prog 19 #[va, vb] w (RetV w (.tuple #[.bool (withS a b).1, .int .i64 (withS a b).2])) := by
  have hS2 := fun W (hx : Ext w W) => setsR2 (Proofs.Ytmbkefgmiehdiaa.Own.new W #[va, vb] 23) (hx.then (Ext.new W (.cells #[va, vb] 23))) ha hb
  have hv2 := valids_c _ [a, b] _ (hS2 w (Ext.rfl' _))
  clear hS2
  have hs : Hid (withS a b = if setsE [a, b] ≠ 0 then (false, setsE [a, b]) else (a.all (wthB b), 0)) := rfl
  have hgd : Hid (setsE [a, b] = 0 → (∀ x ∈ a, goodB x = true) ∧ ∀ x ∈ b, goodB x = true) := Lib.hid fun h => ⟨(setE_0 (setsE_20 h).1).1, (setE_0 (setsE_20 h).2).1⟩
  obtain ⟨pa, ca, rfl, hla, ha⟩ := ha.form
  obtain ⟨pb, cb, rfl, -, hb⟩ := hb.form
  generalize setsE [a, b] = e at *
  replace hv2 := Lib.hid hv2
  have hx1 := Ext.new w (.cells #[.slice pa a.length ca, .slice pb b.length cb] 23)
  by_cases he : e = 0
  · subst he
    rw [if_neg (by simp)] at hs
    obtain ⟨hga, hgb⟩ := hgd.out rfl
    replace hga := Lib.hid hga
    replace hgb := Lib.hid hgb
    rw [hs.out]
    dsimp only
    obtain ⟨N, hN⟩ : ∃ N, a.length = N := ⟨_, rfl⟩
    have hN6 := hN
    rw [hN] at ha hv2 hx1 hla ⊢
    replace hN := Lib.hid hN
    clear hN6 hgd
    go_enter Try.func19, Try.ntmps19
    go_wp2_with fail
    refine RetV_at hv2.out ?_
    intro w2 hx2
    replace hx1 := hx1.then hx2
    clear hx2 hv2
    go_wp2_with fail
    go_loopw [20] (fun vi wr => ∃ k : Nat, k ≤ N ∧ vi = .int .i64 k ∧ Hid (a.all (wthB b) = (a.drop k).all (wthB b)) ∧ Ext w wr) (fun vi _ => N - (intOf vi).toNat)
    case atStart => exact ⟨0, by omega, rfl, Lib.hid rfl, hx1⟩
    case round =>
      clear hx1
      obtain ⟨k, hk, rfl, ho, hx⟩ := hrel
      by_cases hlt : k < N
      · obtain ⟨gb, go, rfl, x0, x1, x2, x3, x4, x5, x6, x7, hbl, hI⟩ := ItvsR.at (ha.mono mono_ItvR hx.ple) k (by rw [hN.out]; exact hlt)
        have hja : decide (k < N) = true := decide_eq_true hlt
        have hd := all_drop (b := b) (a := a) (k := k) (by rw [hN.out]; exact hlt)
        have hgx := hga.out _ (List.getElem_mem (show k < a.length by rw [hN.out]; exact hlt))
        have hends := fun w => ends_c (a[k]'(by rw [hN.out]; exact hlt)) w
        have hcl := fun (w' : World) (hx : Ext w w') (bL bR : Nat) (hO1 : Own w' bL (enC (loE (a[k]'(by rw [hN.out]; exact hlt)))).toArray 73) (hO2 : Own w' bR (enC (hiE (a[k]'(by rw [hN.out]; exact hlt)))).toArray 73) =>
          containsFunc_itv (fun y => !lessE (loE (a[k]'(by rw [hN.out]; exact hlt))) (loE y) && !lessE (hiE y) (hiE (a[k]'(by rw [hN.out]; exact hlt)))) 50 #[.pointer (some ⟨bL, 0, none⟩), .pointer (some ⟨bR, 0, none⟩)] (.slice pb b.length cb) b w' (hb.mono mono_ItvR hx.ple) (enters_of Try.func50 (by kernel_rfl) rfl) (by
            rintro w'' hx2 y hy cs ⟨rfl, -⟩
            exact within1_c y _ _ bL bR w'' (hgb.out y hy) (goodB.lo hgx).bd (goodB.hi hgx).bd (hO1.keep hx2) (hO2.keep hx2))
        change ∀ w' hx bL bR hO1 hO2, Calls _ _ _ w' (RetV w' (.bool (wthB b (a[k]'(by rw [hN.out]; exact hlt))))) at hcl
        unfold endsV at hends
        generalize wthB b (a[k]'(by rw [hN.out]; exact hlt)) = wt at *
        generalize loE (a[k]'(by rw [hN.out]; exact hlt)) = L at *
        generalize hiE (a[k]'(by rw [hN.out]; exact hlt)) = R at *
        clear hgx hI
        generalize (a[k]'(by rw [hN.out]; exact hlt)) = x at *
        obtain ⟨⟨p1, p2⟩, ⟨p3, p4⟩, lO, rO, lI, rI⟩ := x
        unfold itA at hends
        dsimp only at *
        replace hends := Lib.hid hends
        replace hcl := Lib.hid hcl
        replace hd := Lib.hid hd
        go_upto_region 7 with (fail)
        have hO := Proofs.Ytmbkefgmiehdiaa.Own.new wr #[.int .i64 p1, .int .i64 p2, .int .i64 p3, .int .i64 p4, .bool lO, .bool rO, .bool lI, .bool rI] 43
        replace hx := hx.then (Ext.new wr (.cells #[.int .i64 p1, .int .i64 p2, .int .i64 p3, .int .i64 p4, .bool lO, .bool rO, .bool lI, .bool rI] 43))
        generalize wr.heap.size = b8 at *
        generalize wr.alloc _ = W1 at *
        obtain ⟨c1, f1⟩ := hO.facts
        have z1 := hO.lt
        clear x0 x1 x2 x3 x4 x5 x6 x7 hO hbl
        go_wp2_with fail
        refine RetV_at (hends.out _) ?_
        intro w3 hx3
        replace hx := hx.then hx3
        clear c1 f1 z1 hx3 hends
        obtain ⟨f, ⟨n1, d1⟩, t⟩ := L
        obtain ⟨f', ⟨n', d'⟩, t'⟩ := R
        unfold enA
        dsimp only at *
        go_upto_region 8 with (fail)
        have k1 : Own _ w3.heap.size (enC ⟨f, ⟨n1, d1⟩, t⟩).toArray 73 := (Proofs.Ytmbkefgmiehdiaa.Own.new w3 #[.int .i64 f, .int .i64 n1, .int .i64 d1, .bool t] 73).alloc (.cells #[.int .i64 f', .int .i64 n', .int .i64 d', .bool t'] 73)
        have k2 : Own _ (w3.heap.size + 1) (enC ⟨f', ⟨n', d'⟩, t'⟩).toArray 73 := Proofs.Ytmbkefgmiehdiaa.Own.new' (w3.alloc (.cells #[.int .i64 f, .int .i64 n1, .int .i64 d1, .bool t] 73)) #[.int .i64 f', .int .i64 n', .int .i64 d', .bool t'] 73 (n := w3.heap.size + 1) (by simp)
        replace hx := hx.then ((Ext.new w3 (.cells #[.int .i64 f, .int .i64 n1, .int .i64 d1, .bool t] 73)).alloc' (.cells #[.int .i64 f', .int .i64 n', .int .i64 d', .bool t'] 73))
        have hc2 := hcl.out _ hx _ _ k1 k2
        replace hc2 := Lib.hid hc2
        generalize w3.heap.size = b9 at *
        generalize (w3.alloc _).alloc _ = W3 at *
        clear k1 k2 hcl
        go_wp2_with fail
        refine RetV_at hc2.out ?_
        intro w5 hx5
        replace hx := hx.then hx5
        clear hc2 hx5
        cases wt with
        | true =>
          have h8 : Hid (a.all (wthB b) = (a.drop (k + 1)).all (wthB b)) := Lib.hid (by rw [ho.out, hd.out, Bool.true_and])
          go_wp2_with fail
          go_roundw
          case rel => exact ⟨k + 1, by omega, by go_num, h8.out, hx⟩
          case measure => simp [intOf]; omega
        | false =>
          have h8 : Hid (a.all (wthB b) = false) := Lib.hid (by rw [ho.out, hd.out, Bool.false_and])
          go_wp2_with fail
          go_ret2
          exact ⟨by rw [h8.out]; rfl, hx⟩
      · have hja : decide (k < N) = false := by simpa using hlt
        have h8 : Hid (a.all (wthB b) = true) := Lib.hid (by rw [ho.out, List.drop_of_length_le (by rw [hN.out]; omega)]; rfl)
        go_wp2_with fail
        go_ret2
        exact ⟨by rw [h8.out]; rfl, hx⟩
  · rw [if_pos he] at hs
    have heb : (e != 0) = true := by simpa using he
    clear ha hb
    go_enter Try.func19, Try.ntmps19
    go_wp2_with fail
    refine RetV_at hv2.out ?_
    intro w2 hx2
    go_wp2_with fail
    go_ret2
    exact ⟨by rw [hs.out]; rfl, hx1.then hx2⟩
end Go.Proofs.Ytmbkefgmiehdiaa
