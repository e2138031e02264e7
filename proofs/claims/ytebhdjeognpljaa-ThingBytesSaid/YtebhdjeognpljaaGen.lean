/- The generators of things: Around, Pick. -/
import Derived.Test.YtebhdjeognpljaaEncode
namespace Go.Proofs.Ytebhdjeognpljaa
open Go.RowKit
set_option linter.unusedSimpArgs false
set_option linter.unusedVariables false
/-- what Around returns -/
def aroundV (n m : Int) : Int := if n < 0 then (-(n + 1)).tmod m else n.tmod m
theorem aroundV_range {n m : Int} (hn : I64 n) (hm : 0 < m) : 0 ≤ aroundV n m ∧ aroundV n m < m := by
  unfold I64 at hn
  unfold aroundV
  split
  · exact ⟨Int.tmod_nonneg _ (by omega), Int.tmod_lt_of_pos _ hm⟩
  · exact ⟨Int.tmod_nonneg _ (by omega), Int.tmod_lt_of_pos _ hm⟩
theorem around_c (n m : Int) (w : World) (hn : I64 n) (hm : 0 < m) (hm' : m ≤ 9223372036854775807) :
    Calls Try.prog 21 #[.int .i64 n, .int .i64 m] w (RetV w (.int .i64 (aroundV n m))) := by
  have hr := aroundV_range hn hm
  have hn' := hn
  unfold I64 at hn'
  have hm0 : (m == 0) = false := by simp; omega
  by_cases h : n < 0
  · have hv : Hid (aroundV n m = (-(n + 1)).tmod m) := by show _ = _; unfold aroundV; rw [if_pos h]
    rw [hv.out] at hr ⊢
    have hq : IntKind.i64.wrap ((-(n + 1)).tmod m) = (-(n + 1)).tmod m := by rw [IntKind.wrap_i64]; omega
    go_enter Try.func21, Try.ntmps21
    go_wp2_with fail
    go_ret
    exact ⟨ret_int (Int.neg_tmod ..).symm, (by repeat (first | (with_reducible assumption) | (with_reducible exact Ext.rfl' _) | (with_reducible exact Ext.new _ _) | (with_reducible refine Ext.alloc' ?_ _) | (with_reducible refine Ext.drew' ?_) | (with_reducible refine Ext.drewN' ?_ _) | (with_reducible refine Ext.set' ?_ ?_ _; rotate_left; (focus (first | omega | (simp; done) | (simp; omega)))) | (with_reducible refine Ext.then (b := ?_) ?_ ?_; rotate_left; rotate_left; (with_reducible assumption))))⟩
  · have hv : Hid (aroundV n m = n.tmod m) := by show _ = _; unfold aroundV; rw [if_neg h]
    rw [hv.out] at hr ⊢
    have hq : IntKind.i64.wrap (n.tmod m) = n.tmod m := by rw [IntKind.wrap_i64]; omega
    go_enter Try.func21, Try.ntmps21
    go_wp2_with fail
    go_ret
    exact ⟨ret_int (Int.tmod_eq_emod_of_nonneg (by omega)).symm, (by repeat (first | (with_reducible assumption) | (with_reducible exact Ext.rfl' _) | (with_reducible exact Ext.new _ _) | (with_reducible refine Ext.alloc' ?_ _) | (with_reducible refine Ext.drew' ?_) | (with_reducible refine Ext.drewN' ?_ _) | (with_reducible refine Ext.set' ?_ ?_ _; rotate_left; (focus (first | omega | (simp; done) | (simp; omega)))) | (with_reducible refine Ext.then (b := ?_) ?_ ?_; rotate_left; rotate_left; (with_reducible assumption))))⟩
/-- an integer from lo up to below hi comes back -/
def RetIn (w : World) (lo hi : Int) (e : Ending) (w' : World) : Prop := ∃ r, e = .returned (.int .i64 r) ∧ lo ≤ r ∧ r < hi ∧ Ext w w'
theorem pick_c (l : List Int) (vl : Value) (i m : Int) (w : World) (hl : IntsR (ph w) vl l) (hi : I64 i) (hm : 0 < m) (hm' : m ≤ 9223372036854775807) :
    Calls Try.prog 86 #[vl, .int .i64 i, .int .i64 m] w (RetIn w 0 m) := by
  obtain ⟨a, c, rfl, hll, hl⟩ := hl.form
  have hi' := hi
  unfold I64 at hi'
  by_cases h0 : i < 0
  · clear hl
    go_enter Try.func86, Try.ntmps86
    go_wp2_with fail
    go_ret
    exact ⟨_, rfl, by omega, by omega, (by repeat (first | (with_reducible assumption) | (with_reducible exact Ext.rfl' _) | (with_reducible exact Ext.new _ _) | (with_reducible refine Ext.alloc' ?_ _) | (with_reducible refine Ext.drew' ?_) | (with_reducible refine Ext.drewN' ?_ _) | (with_reducible refine Ext.set' ?_ ?_ _; rotate_left; (focus (first | omega | (simp; done) | (simp; omega)))) | (with_reducible refine Ext.then (b := ?_) ?_ ?_; rotate_left; rotate_left; (with_reducible assumption))))⟩
  · by_cases h1 : i < l.length
    · obtain ⟨k, rfl⟩ : ∃ k : Nat, i = k := ⟨i.toNat, by omega⟩
      obtain ⟨b, o, rfl, h2, h3, hbl⟩ := IntsR.at hl k (by omega)
      generalize l[k] = x at *
      have hr := aroundV_range h3 hm
      clear hl
      go_enter Try.func86, Try.ntmps86
      go_wp2_with fail
      refine (around_c x m _ h3 hm hm').mono ?_
      rintro e w1 ⟨rfl, hb1⟩
      generalize aroundV x m = r at *
      go_wp2_with fail
      go_ret
      exact ⟨_, rfl, hr.1, hr.2, (by repeat (first | (with_reducible assumption) | (with_reducible exact Ext.rfl' _) | (with_reducible exact Ext.new _ _) | (with_reducible refine Ext.alloc' ?_ _) | (with_reducible refine Ext.drew' ?_) | (with_reducible refine Ext.drewN' ?_ _) | (with_reducible refine Ext.set' ?_ ?_ _; rotate_left; (focus (first | omega | (simp; done) | (simp; omega)))) | (with_reducible refine Ext.then (b := ?_) ?_ ?_; rotate_left; rotate_left; (with_reducible assumption))))⟩
    · clear hl
      go_enter Try.func86, Try.ntmps86
      go_wp2_with fail
      go_ret
      exact ⟨_, rfl, by omega, by omega, (by repeat (first | (with_reducible assumption) | (with_reducible exact Ext.rfl' _) | (with_reducible exact Ext.new _ _) | (with_reducible refine Ext.alloc' ?_ _) | (with_reducible refine Ext.drew' ?_) | (with_reducible refine Ext.drewN' ?_ _) | (with_reducible refine Ext.set' ?_ ?_ _; rotate_left; (focus (first | omega | (simp; done) | (simp; omega)))) | (with_reducible refine Ext.then (b := ?_) ?_ ?_; rotate_left; rotate_left; (with_reducible assumption))))⟩
theorem OwnS.ty {α : Type} {E : PH → List Value → α → Prop} {sz base : Nat} {H : PH} {w : World} {T : TypeId} {v : Value} {xs : List α} (h : OwnS base H w E sz T v xs) {k : Nat} (hk : v.ownBlock = some k) : ∃ cur, w.heap[k]? = some (.cells cur T (0, 0)) := by
  rcases h with ⟨rfl, _⟩ | ⟨g, cap, cur, rfl, hb, hn, hg, _⟩
  · simp [Value.ownBlock] at hk
  · simp [Value.ownBlock] at hk; subst hk; exact ⟨cur, hg⟩
theorem ty_ne {w : World} {k k' : Nat} {c c' : Array Value} {T T' : TypeId} (h : w.heap[k]? = some (.cells c T (0, 0))) (h' : w.heap[k']? = some (.cells c' T' (0, 0))) (hT : T ≠ T') : k ≠ k' := by
  rintro rfl
  rw [h] at h'
  injection h' with h'
  injection h' with _ h'
  exact hT h'
theorem OwnS.stay {α : Type} {E : PH → List Value → α → Prop} {sz base : Nat} {H : PH} {w w' : World} {T : TypeId} {v : Value} {xs : List α} {row : Option Nat} (h : OwnS base H w E sz T v xs) (hg : w.grownBy w' row) (hne : ∀ k, v.ownBlock = some k → row ≠ some k) : OwnS base H w' E sz T v xs :=
  h.keepB (fun k hk => hg.block k (h.lt k hk).2.1 (fun e => hne k hk e.symm)) (fun k hk => (h.lt k hk).2.2) fun _ _ h => h
theorem OwnS.put {α : Type} {E : PH → List Value → α → Prop} {sz base : Nat} {H : PH} {w : World} {T : TypeId} {v u : Value} {xs : List α} (h : OwnS base H w E sz T v xs) {a : Addr} (hne : v.ownBlock ≠ some a.block) : OwnS base H (w.setCell a u) E sz T v xs :=
  h.keepB (fun k hk => Below.heap_setCell _ _ _ _ (fun e => hne (by rw [hk, e]))) (fun k hk => (h.lt k hk).2.2) fun _ _ h => h
/-- a new thing in a box of its own (block g), its three slices each in a block of its own; what it holds beyond is read in H; K: other boxes that stand -/
structure GSu (w0 : World) (H0 : PH) (K : List (Nat × Array Value)) (H : PH) (w : World) (g : Nat) (v1 v2 v3 : Value) (c : List Int) (v : List Val) (p : List Thing) : Prop where
  l0 : PLe H0 (ph w0)
  le : PLe H0 H
  ub : PLe H (up H0 w0 w)
  ow : Own w g #[v1, v2, v3] 29
  o1 : OwnS w0.heap.size H w IntR 1 3 v1 c
  o2 : OwnS w0.heap.size H w ValR 3 41 v2 v
  o3 : OwnS w0.heap.size H w ThingR 3 29 v3 p
  bg : w0.heap.size ≤ g
  ng : H g = none
  n3 : v3.ownBlock ≠ some g
  kk : ∀ x ∈ K, Own w x.1 x.2 29 ∧ x.1 ≠ g ∧ v3.ownBlock ≠ some x.1 ∧ H x.1 = none
  ex : Ext w0 w
section
variable {w0 : World} {H0 : PH} {K : List (Nat × Array Value)} {H : PH} {w : World} {g : Nat} {v1 v2 v3 : Value} {c : List Int} {v : List Val} {p : List Thing}
theorem GSu.ple (h : GSu w0 H0 K H w g v1 v2 v3 c v p) : PLe H (ph w) := h.ub.trans (up_ple h.l0 h.ex)
theorem GSu.ext {w' : World} (h : GSu w0 H0 K H w g v1 v2 v3 c v p) (e : Ext w w') : GSu w0 H0 K H w' g v1 v2 v3 c v p :=
  ⟨h.l0, h.le, h.ub.trans (up_then h.ex e), h.ow.keep e, h.o1.keep e, h.o2.keep e, h.o3.keep e, h.bg, h.ng, h.n3, fun x hx => ⟨(h.kk x hx).1.keep e, (h.kk x hx).2⟩, h.ex.then e⟩
/-- all that a call has made joins what is read -/
theorem GSu.up {w' : World} (h : GSu w0 H0 K H w g v1 v2 v3 c v p) (e : Ext w w') : GSu w0 H0 K (up H w w') w' g v1 v2 v3 c v p := by
  have hl : PLe H (Proofs.Ytebhdjeognpljaa.up H w w') := fun k o hk => by unfold Proofs.Ytebhdjeognpljaa.up; rw [if_pos (ph_lt (h.ple k o hk))]; exact hk
  exact ⟨h.l0, h.le.trans hl, (up_mono h.ub).trans (up_up h.ex e), h.ow.keep e, h.o1.keepUp mono_IntR h.ple e, h.o2.keepUp mono_ValR h.ple e, h.o3.keepUp mono_ThingR h.ple e, h.bg, up_none h.ng h.ow.lt, h.n3,
    fun x hx => ⟨(h.kk x hx).1.keep e, (h.kk x hx).2.1, (h.kk x hx).2.2.1, up_none (h.kk x hx).2.2.2 (h.kk x hx).1.lt⟩, h.ex.then e⟩
theorem ub_set {w1 w2 : World} {row : Option Nat} {j : Nat} {u : Value} (hub : PLe H (up H0 w0 w)) (hx : Ext w0 w) (e : Ext w w1) (hgr : w1.grownBy w2 row) (hr : ∀ k, row = some k → w0.heap.size ≤ k ∧ H k = none) (hg : H g = none) (hbg : w0.heap.size ≤ g) :
    PLe H (up H0 w0 (w2.setCell ⟨g, j, none⟩ u)) := by
  intro k o hk
  have h1 := hub k o hk
  unfold up at *
  split
  · rename_i hl; rw [if_pos hl] at h1; exact h1
  · rename_i hl; rw [if_neg hl] at h1
    have hk1 := ph_lt h1
    have hs := e.size
    show (w2.setCell ⟨g, j, none⟩ u).heap[k]? = some o
    rw [Below.heap_setCell _ _ _ _ (fun he => by rw [he, hg] at hk; cases hk), hgr.block k (by omega) (fun he => by rw [(hr k he.symm).2] at hk; cases hk), e.block k hk1]
    exact h1
theorem ex_set {w1 w2 : World} {row : Option Nat} {j : Nat} {u : Value} (hx : Ext w0 w) (e : Ext w w1) (hgr : w1.grownBy w2 row) (hr : ∀ k, row = some k → w0.heap.size ≤ k ∧ H k = none) (hbg : w0.heap.size ≤ g) : Ext w0 (w2.setCell ⟨g, j, none⟩ u) :=
  (Ext.grown (hx.then e) hgr fun k hk => (hr k hk).1).set' hbg u
theorem GSu.set1 {w1 w2 : World} {u : Value} {c' : List Int} (h : GSu w0 H0 K H w g v1 v2 v3 c v p) (e : Ext w w1) (ho : OwnS w0.heap.size H w2 IntR 1 3 u c') (hgr : w1.grownBy w2 v1.ownBlock) :
    Own w2 g #[v1, v2, v3] 29 ∧ Hid (GSu w0 H0 K H (w2.setCell ⟨g, 0, none⟩ u) g u v2 v3 c' v p) := by
  have he := h.ext e
  have hr : ∀ k, v1.ownBlock = some k → w0.heap.size ≤ k ∧ H k = none := fun k hk => ⟨(h.o1.lt k hk).1, (h.o1.lt k hk).2.2⟩
  have hT : ∀ k, v1.ownBlock = some k → ∃ cur, w1.heap[k]? = some (.cells cur 3 (0, 0)) := fun k hk => he.o1.ty hk
  have hne : ∀ {k c}, Own w1 k c 29 → some k ≠ v1.ownBlock := fun {k c} hk e => by
    obtain ⟨cur, h1⟩ := hT k e.symm
    exact ty_ne hk h1 (by decide) rfl
  have hug : ∀ {k c}, Own w2 k c 29 → u.ownBlock ≠ some k := fun {k c} hk e => by
    obtain ⟨cur, h1⟩ := ho.ty e
    exact ty_ne hk h1 (by decide) rfl
  have hO2 := he.ow.grown hgr (hne he.ow)
  have h2 : v2.ownBlock ≠ some g := fun e2 => by
    obtain ⟨cur, h1⟩ := h.o2.ty e2
    exact ty_ne h.ow h1 (by decide) rfl
  refine ⟨hO2, h.l0, h.le, ub_set h.ub h.ex e hgr hr h.ng h.bg, by simpa using hO2.set 0 u, ho.put (hug hO2), (he.o2.stay hgr fun k hk e2 => ?_).put h2, (he.o3.stay hgr fun k hk e2 => ?_).put h.n3, h.bg, h.ng, h.n3, fun x hx => ?_, ex_set h.ex e hgr hr h.bg⟩
  · obtain ⟨cur, h4⟩ := hT k e2
    obtain ⟨cur', h5⟩ := he.o2.ty hk
    exact ty_ne h4 h5 (by decide) rfl
  · obtain ⟨cur, h4⟩ := hT k e2
    obtain ⟨cur', h5⟩ := he.o3.ty hk
    exact ty_ne h4 h5 (by decide) rfl
  · obtain ⟨k1, k2, k3⟩ := he.kk x hx
    exact ⟨(k1.grown hgr (hne k1)).setOther k2 u, k2, k3⟩
theorem GSu.set2 {w1 w2 : World} {u : Value} {v' : List Val} (h : GSu w0 H0 K H w g v1 v2 v3 c v p) (e : Ext w w1) (ho : OwnS w0.heap.size H w2 ValR 3 41 u v') (hgr : w1.grownBy w2 v2.ownBlock) :
    Own w2 g #[v1, v2, v3] 29 ∧ Hid (GSu w0 H0 K H (w2.setCell ⟨g, 1, none⟩ u) g v1 u v3 c v' p) := by
  have he := h.ext e
  have hr : ∀ k, v2.ownBlock = some k → w0.heap.size ≤ k ∧ H k = none := fun k hk => ⟨(h.o2.lt k hk).1, (h.o2.lt k hk).2.2⟩
  have hT : ∀ k, v2.ownBlock = some k → ∃ cur, w1.heap[k]? = some (.cells cur 41 (0, 0)) := fun k hk => he.o2.ty hk
  have hne : ∀ {k c}, Own w1 k c 29 → some k ≠ v2.ownBlock := fun {k c} hk e => by
    obtain ⟨cur, h1⟩ := hT k e.symm
    exact ty_ne hk h1 (by decide) rfl
  have hug : ∀ {k c}, Own w2 k c 29 → u.ownBlock ≠ some k := fun {k c} hk e => by
    obtain ⟨cur, h1⟩ := ho.ty e
    exact ty_ne hk h1 (by decide) rfl
  have hO2 := he.ow.grown hgr (hne he.ow)
  have h2 : v1.ownBlock ≠ some g := fun e2 => by
    obtain ⟨cur, h1⟩ := h.o1.ty e2
    exact ty_ne h.ow h1 (by decide) rfl
  refine ⟨hO2, h.l0, h.le, ub_set h.ub h.ex e hgr hr h.ng h.bg, by simpa using hO2.set 1 u, (he.o1.stay hgr fun k hk e2 => ?_).put h2, ho.put (hug hO2), (he.o3.stay hgr fun k hk e2 => ?_).put h.n3, h.bg, h.ng, h.n3, fun x hx => ?_, ex_set h.ex e hgr hr h.bg⟩
  · obtain ⟨cur, h4⟩ := hT k e2
    obtain ⟨cur', h5⟩ := he.o1.ty hk
    exact ty_ne h4 h5 (by decide) rfl
  · obtain ⟨cur, h4⟩ := hT k e2
    obtain ⟨cur', h5⟩ := he.o3.ty hk
    exact ty_ne h4 h5 (by decide) rfl
  · obtain ⟨k1, k2, k3⟩ := he.kk x hx
    exact ⟨(k1.grown hgr (hne k1)).setOther k2 u, k2, k3⟩
theorem GSu.set3 {w1 w2 : World} {u : Value} {p' : List Thing} (h : GSu w0 H0 K H w g v1 v2 v3 c v p) (e : Ext w w1) (ho : OwnS w0.heap.size H w2 ThingR 3 29 u p') (hgr : w1.grownBy w2 v3.ownBlock) (hk : ∀ k, u.ownBlock = some k → v3.ownBlock = some k ∨ w1.heap.size ≤ k) :
    Own w2 g #[v1, v2, v3] 29 ∧ Hid (GSu w0 H0 K H (w2.setCell ⟨g, 2, none⟩ u) g v1 v2 u c v p') := by
  have he := h.ext e
  have hr : ∀ k, v3.ownBlock = some k → w0.heap.size ≤ k ∧ H k = none := fun k hk => ⟨(h.o3.lt k hk).1, (h.o3.lt k hk).2.2⟩
  have hT : ∀ k, v3.ownBlock = some k → ∃ cur, w1.heap[k]? = some (.cells cur 29 (0, 0)) := fun k hk => he.o3.ty hk
  have hug : u.ownBlock ≠ some g := fun e2 => by
    rcases hk g e2 with h1 | h1
    · exact h.n3 h1
    · have := he.ow.lt; omega
  have hO2 := he.ow.grown hgr (fun e => h.n3 e.symm)
  have h1 : v1.ownBlock ≠ some g := fun e2 => by
    obtain ⟨cur, h1⟩ := h.o1.ty e2
    exact ty_ne h.ow h1 (by decide) rfl
  have h2 : v2.ownBlock ≠ some g := fun e2 => by
    obtain ⟨cur, h1⟩ := h.o2.ty e2
    exact ty_ne h.ow h1 (by decide) rfl
  refine ⟨hO2, h.l0, h.le, ub_set h.ub h.ex e hgr hr h.ng h.bg, by simpa using hO2.set 2 u, (he.o1.stay hgr fun k hk e2 => ?_).put h1, (he.o2.stay hgr fun k hk e2 => ?_).put h2, ho.put hug, h.bg, h.ng, hug, fun x hx => ?_, ex_set h.ex e hgr hr h.bg⟩
  · obtain ⟨cur, h4⟩ := hT k e2
    obtain ⟨cur', h5⟩ := he.o1.ty hk
    exact ty_ne h4 h5 (by decide) rfl
  · obtain ⟨cur, h4⟩ := hT k e2
    obtain ⟨cur', h5⟩ := he.o2.ty hk
    exact ty_ne h4 h5 (by decide) rfl
  · obtain ⟨k1, k2, k3, k4⟩ := he.kk x hx
    refine ⟨(k1.grown hgr (fun e => k3 e.symm)).setOther k2 u, k2, fun e2 => ?_, k4⟩
    rcases hk _ e2 with h5 | h5
    · exact k3 h5
    · have := k1.lt; omega
/-- handed back -/
theorem GSu.rep (h : GSu w0 H0 K H w g v1 v2 v3 c v p) : ThingR (Proofs.Ytebhdjeognpljaa.up H0 w0 w) [v1, v2, v3] (.mk c v p) := by
  rw [thingR_iff]
  have key : ∀ {α : Type} {E : PH → List Value → α → Prop} {sz : Nat} {T : TypeId} {u : Value} {xs : List α}, Mono E → OwnS w0.heap.size H w E sz T u xs → SliceRep E sz (Proofs.Ytebhdjeognpljaa.up H0 w0 w) u xs := by
    intro α E sz T u xs hm ho
    rcases ho with ⟨rfl, rfl⟩ | ⟨g, cap, cur, rfl, h1, h2, h3, h4, h5, h6, h7⟩
    · exact SliceRep.nil E sz _
    · refine ⟨_, cap, rfl, h4, h5, .inr ⟨g, 0, rfl, h7.row (fun _ _ => hm _ _ _ _ h.ub) fun j u hu => ?_⟩⟩
      have : Proofs.Ytebhdjeognpljaa.up H0 w0 w g = some (.cells cur T (0, 0)) := by unfold Proofs.Ytebhdjeognpljaa.up; rw [if_neg (by omega)]; exact h3
      simp only [cellAt, this, Nat.zero_add]
      rw [List.getElem?_take] at hu
      split at hu
      · simpa using hu
      · cases hu
  exact ⟨v1, v2, v3, rfl, key mono_IntR h.o1, key mono_ValR h.o2, key mono_ThingR h.o3⟩
end
end Go.Proofs.Ytebhdjeognpljaa
