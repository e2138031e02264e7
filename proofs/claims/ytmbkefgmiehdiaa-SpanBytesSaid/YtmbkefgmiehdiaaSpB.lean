/- package span: between; the closures of combine. -/
import Derived.Test.YtmbkefgmiehdiaaSpP
namespace Go.Proofs.Ytmbkefgmiehdiaa
open Go.RowKit Go.Shelf
set_option linter.unusedSimpArgs false
set_option linter.unusedVariables false
def BoolR (_ : PH) (cs : List Value) (b : Bool) : Prop := cs = [.bool b]
theorem mono_BoolR : Mono BoolR := fun _ _ _ _ _ h => h
theorem one_BoolR {h : PH} : ∀ cs x, BoolR h cs x → ∀ u ∈ cs, u.oneCell' = true := by
  rintro cs x rfl u hu
  obtain rfl := List.mem_singleton.1 hu
  rfl
abbrev BoolsR : PH → Value → List Bool → Prop := SliceRep BoolR 1
theorem BoolsR.at {w : World} {a : Option Addr} {n cap : Nat} {xs : List Bool} (hr : BoolsR (ph w) (.slice a n cap) xs) (k : Nat) (hk : k < xs.length) :
    ∃ b o, a = some ⟨b, o, none⟩ ∧ w.cell? ⟨b, o + k, none⟩ = some (.bool xs[k]) ∧ b < w.heap.size := by
  obtain ⟨b, o, c, h1, h2, h3⟩ := SliceRep.get1 hr k hk
  cases h3
  exact ⟨b, o, h1, h2, cell_lt h2⟩
theorem infoBool : (Try.prog.info? 4).map (fun i => (i.zero, i.size, i.bytes)) = some (some (.bool false), 1, 1) := by kernel_rfl
set_option maxRecDepth 100000 in
set_option maxHeartbeats 4000000 in
theorem between_c (a b : En) (w : World) : Calls Try.prog 92 #[enA a, enA b] w (RetV w (itA (betw a b))) := by
  have hs : Hid (itA (betw a b) = .agg #[.int .i64 (if a.far ≠ 0 then 0 else a.at'.num), .int .i64 (if a.far ≠ 0 then 0 else a.at'.den), .int .i64 (if b.far ≠ 0 then 0 else b.at'.num), .int .i64 (if b.far ≠ 0 then 0 else b.at'.den), .bool (if a.far ≠ 0 then false else a.aft), .bool (if b.far ≠ 0 then false else !b.aft), .bool (decide (a.far ≠ 0)), .bool (decide (b.far ≠ 0))]) := by
    show _ = _
    unfold itA betw
    dsimp only
    congr 1
    by_cases h1 : a.far = 0 <;> by_cases h2 : b.far = 0 <;> simp [h1, h2]
  generalize itA (betw a b) = V at hs ⊢
  obtain ⟨f, ⟨n, d⟩, t⟩ := a
  obtain ⟨f', ⟨n', d'⟩, t'⟩ := b
  unfold enA
  dsimp only at *
  have hx : Ext w ((((w.alloc (.cells #[.int .i64 f, .int .i64 n, .int .i64 d, .bool t] 73)).alloc (.cells #[.int .i64 f', .int .i64 n', .int .i64 d', .bool t'] 73)).alloc (.cells #[.int .i64 0, .int .i64 0, .int .i64 0, .int .i64 0, .bool false, .bool false, .bool false, .bool false] 43)).alloc (.cells #[.int .i64 0, .int .i64 0, .int .i64 0, .int .i64 0, .bool false, .bool false, .bool false, .bool false] 43)) := (by repeat (first | (with_reducible assumption) | (with_reducible exact Ext.rfl' _) | (with_reducible exact Ext.new _ _) | (with_reducible refine Ext.alloc' ?_ _) | (with_reducible refine Ext.drew' ?_) | (with_reducible refine Ext.drewN' ?_ _) | (with_reducible refine Ext.set' ?_ ?_ _; rotate_left; (focus (first | omega | (simp; done) | (simp; omega)))) | (with_reducible refine Ext.then (b := ?_) ?_ ?_; rotate_left; rotate_left; (with_reducible assumption))))
  clear hx
  by_cases h1 : f = 0
  · by_cases h2 : f' = 0
    · subst h1 h2
      go_enter Try.func92, Try.ntmps92
      go_wp2_with fail
      go_region
      go_wp2_with fail
      go_region
      go_wp2_with fail
      exact bodyPost_ret (v := V) (by rw [hs.out]; simp [results, Try.results92, go_sem, *]) rfl ⟨rfl, (by repeat (first | (with_reducible assumption) | (with_reducible exact Ext.rfl' _) | (with_reducible exact Ext.new _ _) | (with_reducible refine Ext.alloc' ?_ _) | (with_reducible refine Ext.drew' ?_) | (with_reducible refine Ext.drewN' ?_ _) | (with_reducible refine Ext.set' ?_ ?_ _; rotate_left; (focus (first | omega | (simp; done) | (simp; omega)))) | (with_reducible refine Ext.then (b := ?_) ?_ ?_; rotate_left; rotate_left; (with_reducible assumption))))⟩
    · subst h1
      have hb2 : (f' != 0) = true := by simpa using h2
      go_enter Try.func92, Try.ntmps92
      go_wp2_with fail
      go_region
      go_wp2_with fail
      exact bodyPost_ret (v := V) (by rw [hs.out]; simp [results, Try.results92, go_sem, *]) rfl ⟨rfl, (by repeat (first | (with_reducible assumption) | (with_reducible exact Ext.rfl' _) | (with_reducible exact Ext.new _ _) | (with_reducible refine Ext.alloc' ?_ _) | (with_reducible refine Ext.drew' ?_) | (with_reducible refine Ext.drewN' ?_ _) | (with_reducible refine Ext.set' ?_ ?_ _; rotate_left; (focus (first | omega | (simp; done) | (simp; omega)))) | (with_reducible refine Ext.then (b := ?_) ?_ ?_; rotate_left; rotate_left; (with_reducible assumption))))⟩
  · have hb1 : (f != 0) = true := by simpa using h1
    by_cases h2 : f' = 0
    · subst h2
      go_enter Try.func92, Try.ntmps92
      go_wp2_with fail
      go_region
      go_wp2_with fail
      exact bodyPost_ret (v := V) (by rw [hs.out]; simp [results, Try.results92, go_sem, *]) rfl ⟨rfl, (by repeat (first | (with_reducible assumption) | (with_reducible exact Ext.rfl' _) | (with_reducible exact Ext.new _ _) | (with_reducible refine Ext.alloc' ?_ _) | (with_reducible refine Ext.drew' ?_) | (with_reducible refine Ext.drewN' ?_ _) | (with_reducible refine Ext.set' ?_ ?_ _; rotate_left; (focus (first | omega | (simp; done) | (simp; omega)))) | (with_reducible refine Ext.then (b := ?_) ?_ ?_; rotate_left; rotate_left; (with_reducible assumption))))⟩
    · have hb2 : (f' != 0) = true := by simpa using h2
      go_enter Try.func92, Try.ntmps92
      go_wp2_with fail
      exact bodyPost_ret (v := V) (by rw [hs.out]; simp [results, Try.results92, go_sem, *]) rfl ⟨rfl, (by repeat (first | (with_reducible assumption) | (with_reducible exact Ext.rfl' _) | (with_reducible exact Ext.new _ _) | (with_reducible refine Ext.alloc' ?_ _) | (with_reducible refine Ext.drew' ?_) | (with_reducible refine Ext.drewN' ?_ _) | (with_reducible refine Ext.set' ?_ ?_ _; rotate_left; (focus (first | omega | (simp; done) | (simp; omega)))) | (with_reducible refine Ext.then (b := ?_) ?_ ?_; rotate_left; rotate_left; (with_reducible assumption))))⟩
set_option maxRecDepth 100000 in
set_option maxHeartbeats 1000000 in
theorem cmb3_c (x : Itv) (e : En) (b : Nat) (w : World) (hx : goodB x = true) (he : e.bd) (hO : Own w b (enC e).toArray 73) :
    Calls Try.prog 90 #[itA x, .pointer (some ⟨b, 0, none⟩)] w (RetV w (.bool (insB x e))) := by
  have hin := fun w => inside_c x e w hx he
  generalize insB x e = q at *
  clear hx he
  obtain ⟨⟨p, r⟩, ⟨u, v⟩, lO, rO, lI, rI⟩ := x
  obtain ⟨f, ⟨n, d⟩, t⟩ := e
  unfold itA enA at *
  unfold enC at hO
  dsimp only [List.toArray] at *
  have hx := Ext.new w (.cells #[.int .i64 p, .int .i64 r, .int .i64 u, .int .i64 v, .bool lO, .bool rO, .bool lI, .bool rI] 43)
  replace hO := hO.keep hx
  have hO2 := Proofs.Ytmbkefgmiehdiaa.Own.new w #[.int .i64 p, .int .i64 r, .int .i64 u, .int .i64 v, .bool lO, .bool rO, .bool lI, .bool rI] 43
  go_enter Try.func90, Try.ntmps90
  go_upto_region 1 with (fail)
  generalize w.heap.size = b2 at *
  generalize w.alloc _ = W at *
  obtain ⟨c1, f1⟩ := hO.facts
  obtain ⟨c2, f2⟩ := hO2.facts
  have z1 := hO.lt
  have z2 := hO2.lt
  go_wp2_with fail
  refine RetV_at (hin _) ?_
  intro w2 hx2
  go_wp2_with fail
  go_ret
  exact ⟨rfl, hx.then hx2⟩
/-- what a keep answers -/
def KeepC (fid : Nat) (keep : List Bool → Bool) (m : Nat) : Prop := ∀ (w : World) (vb : Value) (bs : List Bool), BoolsR (ph w) vb bs → bs.length = m → Calls Try.prog fid #[vb] w (RetV w (.bool (keep bs)))
def orK (bs : List Bool) : Bool := bs.getD 0 false || bs.getD 1 false
def andK (bs : List Bool) : Bool := bs.getD 0 false && bs.getD 1 false
def notK (bs : List Bool) : Bool := !bs.getD 0 false
def fstK (bs : List Bool) : Bool := bs.getD 0 false
theorem getD_get {bs : List Bool} {k : Nat} (h : k < bs.length) : bs.getD k false = bs[k] := by simp [List.getD_eq_getElem?_getD, h]
theorem keepOr : KeepC 46 orK 2 := by
  intro w vb bs hr hl
  obtain ⟨a, c, rfl, hlen, hr⟩ := hr.form
  obtain ⟨b, o, rfl, c0, z0⟩ := BoolsR.at hr 0 (by omega)
  rw [Nat.add_zero] at c0
  obtain ⟨b', o', e, c1, -⟩ := BoolsR.at hr 1 (by omega)
  cases e
  have hs : Hid (orK bs = (bs[0] || bs[1])) := by show _ = _; unfold orK; rw [getD_get, getD_get]
  generalize orK bs = q at hs ⊢
  generalize bs[0] = p at *
  generalize bs[1] = p' at *
  rw [hl] at hlen ⊢
  clear hr
  replace hl := Lib.hid hl
  cases p with
  | true =>
    go_enter Try.func46, Try.ntmps46
    go_wp2_with fail
    go_ret
    exact ⟨ret_bool (by rw [hs.out]; simp), (by repeat (first | (with_reducible assumption) | (with_reducible exact Ext.rfl' _) | (with_reducible exact Ext.new _ _) | (with_reducible refine Ext.alloc' ?_ _) | (with_reducible refine Ext.drew' ?_) | (with_reducible refine Ext.drewN' ?_ _) | (with_reducible refine Ext.set' ?_ ?_ _; rotate_left; (focus (first | omega | (simp; done) | (simp; omega)))) | (with_reducible refine Ext.then (b := ?_) ?_ ?_; rotate_left; rotate_left; (with_reducible assumption))))⟩
  | false =>
    go_enter Try.func46, Try.ntmps46
    go_wp2_with fail
    go_ret
    exact ⟨ret_bool (by rw [hs.out]; simp), (by repeat (first | (with_reducible assumption) | (with_reducible exact Ext.rfl' _) | (with_reducible exact Ext.new _ _) | (with_reducible refine Ext.alloc' ?_ _) | (with_reducible refine Ext.drew' ?_) | (with_reducible refine Ext.drewN' ?_ _) | (with_reducible refine Ext.set' ?_ ?_ _; rotate_left; (focus (first | omega | (simp; done) | (simp; omega)))) | (with_reducible refine Ext.then (b := ?_) ?_ ?_; rotate_left; rotate_left; (with_reducible assumption))))⟩
theorem keepAnd : KeepC 47 andK 2 := by
  intro w vb bs hr hl
  obtain ⟨a, c, rfl, hlen, hr⟩ := hr.form
  obtain ⟨b, o, rfl, c0, z0⟩ := BoolsR.at hr 0 (by omega)
  rw [Nat.add_zero] at c0
  obtain ⟨b', o', e, c1, -⟩ := BoolsR.at hr 1 (by omega)
  cases e
  have hs : Hid (andK bs = (bs[0] && bs[1])) := by show _ = _; unfold andK; rw [getD_get, getD_get]
  generalize andK bs = q at hs ⊢
  generalize bs[0] = p at *
  generalize bs[1] = p' at *
  rw [hl] at hlen ⊢
  clear hr
  replace hl := Lib.hid hl
  cases p with
  | true =>
    go_enter Try.func47, Try.ntmps47
    go_wp2_with fail
    go_ret
    exact ⟨ret_bool (by rw [hs.out]; simp), (by repeat (first | (with_reducible assumption) | (with_reducible exact Ext.rfl' _) | (with_reducible exact Ext.new _ _) | (with_reducible refine Ext.alloc' ?_ _) | (with_reducible refine Ext.drew' ?_) | (with_reducible refine Ext.drewN' ?_ _) | (with_reducible refine Ext.set' ?_ ?_ _; rotate_left; (focus (first | omega | (simp; done) | (simp; omega)))) | (with_reducible refine Ext.then (b := ?_) ?_ ?_; rotate_left; rotate_left; (with_reducible assumption))))⟩
  | false =>
    go_enter Try.func47, Try.ntmps47
    go_wp2_with fail
    go_ret
    exact ⟨ret_bool (by rw [hs.out]; simp), (by repeat (first | (with_reducible assumption) | (with_reducible exact Ext.rfl' _) | (with_reducible exact Ext.new _ _) | (with_reducible refine Ext.alloc' ?_ _) | (with_reducible refine Ext.drew' ?_) | (with_reducible refine Ext.drewN' ?_ _) | (with_reducible refine Ext.set' ?_ ?_ _; rotate_left; (focus (first | omega | (simp; done) | (simp; omega)))) | (with_reducible refine Ext.then (b := ?_) ?_ ?_; rotate_left; rotate_left; (with_reducible assumption))))⟩
theorem keepNot : KeepC 42 notK 1 := by
  intro w vb bs hr hl
  obtain ⟨a, c, rfl, hlen, hr⟩ := hr.form
  obtain ⟨b, o, rfl, c0, z0⟩ := BoolsR.at hr 0 (by omega)
  rw [Nat.add_zero] at c0
  have hs : Hid (notK bs = !bs[0]) := by show _ = _; unfold notK; rw [getD_get]
  generalize notK bs = q at hs ⊢
  generalize bs[0] = p at *
  rw [hl] at hlen ⊢
  clear hr
  replace hl := Lib.hid hl
  go_enter Try.func42, Try.ntmps42
  go_wp2_with fail
  go_ret
  exact ⟨ret_bool hs.out.symm, (by repeat (first | (with_reducible assumption) | (with_reducible exact Ext.rfl' _) | (with_reducible exact Ext.new _ _) | (with_reducible refine Ext.alloc' ?_ _) | (with_reducible refine Ext.drew' ?_) | (with_reducible refine Ext.drewN' ?_ _) | (with_reducible refine Ext.set' ?_ ?_ _; rotate_left; (focus (first | omega | (simp; done) | (simp; omega)))) | (with_reducible refine Ext.then (b := ?_) ?_ ?_; rotate_left; rotate_left; (with_reducible assumption))))⟩
theorem keepFst : KeepC 66 fstK 1 := by
  intro w vb bs hr hl
  obtain ⟨a, c, rfl, hlen, hr⟩ := hr.form
  obtain ⟨b, o, rfl, c0, z0⟩ := BoolsR.at hr 0 (by omega)
  rw [Nat.add_zero] at c0
  have hs : Hid (fstK bs = bs[0]) := by show _ = _; unfold fstK; rw [getD_get]
  generalize fstK bs = q at hs ⊢
  generalize bs[0] = p at *
  rw [hl] at hlen ⊢
  clear hr
  replace hl := Lib.hid hl
  go_enter Try.func66, Try.ntmps66
  go_wp2_with fail
  go_ret
  exact ⟨ret_bool hs.out.symm, (by repeat (first | (with_reducible assumption) | (with_reducible exact Ext.rfl' _) | (with_reducible exact Ext.new _ _) | (with_reducible refine Ext.alloc' ?_ _) | (with_reducible refine Ext.drew' ?_) | (with_reducible refine Ext.drewN' ?_ _) | (with_reducible refine Ext.set' ?_ ?_ _; rotate_left; (focus (first | omega | (simp; done) | (simp; omega)))) | (with_reducible refine Ext.then (b := ?_) ?_ ?_; rotate_left; rotate_left; (with_reducible assumption))))⟩
theorem Src.lit2 {α : Type} {E : PH → List Value → α → Prop} {sz : Nat} {H : PH} {w : World} {x y : α} {cs ds : List Value} {b : Nat} (hE : E H cs x) (hs : cs.length = sz) (hE2 : E H ds y) (hs2 : ds.length = sz) (hc : ∀ j, w.cell? ⟨b, j, none⟩ = (cs ++ ds)[j]?) : Src w H E sz (.slice (some ⟨b, 0, none⟩) 2 2) [x, y] :=
  ⟨_, 2, rfl, Nat.le_refl _, .inr ⟨_, cs ++ ds, rfl, ⟨cs, ds, rfl, hs, hE, ds, [], by simp, hs2, hE2, rfl⟩, fun j u hu => by rw [add0, hc]; exact hu⟩⟩
theorem limB_I {r : Rat2} {o i : Bool} (h : limB r o i = true) : r.I := by
  unfold limB at h
  split at h
  · rw [Bool.and_eq_true, beq_iff_eq] at h
    rw [h.1]; unfold Rat2.I I64; simp
  · have := (smallB_iff.1 h).1
    unfold RatOk at this
    unfold Rat2.I I64; omega
theorem goodB.I {x : Itv} (h : goodB x = true) : x.I := ⟨limB_I (goodB_iff.1 h).1, limB_I (goodB_iff.1 h).2.1⟩
theorem En.sm.I {e : En} (h : e.sm) : e.I := by
  have := h.bd
  unfold En.bd at this
  unfold En.I Rat2.I I64; omega
end Go.Proofs.Ytmbkefgmiehdiaa
