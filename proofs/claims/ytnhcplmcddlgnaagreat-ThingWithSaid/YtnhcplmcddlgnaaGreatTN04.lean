/- The generators of things: Around, Pick.; priorartref06.some and Some: they return some thing, of bounded bulk. -/
import Derived.Test.YtnhcplmcddlgnaaGreatTN03
namespace Go.Proofs.YtnhcplmcddlgnaaGreat
open Go.RowKit
set_option linter.unusedSimpArgs false
set_option linter.unusedVariables false
/-- what Around returns -/
def aroundV (n m : Int) : Int := if n < 0 then (-(n + 1)).tmod m else n.tmod m
theorem aroundV_range {n m : Int} (hn : I64 n) (hm : 0 < m) : 0 ≤ aroundV n m ∧ aroundV n m < m := by
  unfold I64 at hn
  unfold aroundV
  split
  · exact ⟨Int.tmod_nonneg _ (by omega), Int.tmod_lt_of_pos _ hm⟩
  · exact ⟨Int.tmod_nonneg _ (by omega), Int.tmod_lt_of_pos _ hm⟩
theorem around_c (n m : Int) (w : World) (hn : I64 n) (hm : 0 < m) (hm' : m ≤ 9223372036854775807) :
    Calls Tryz.prog 18 #[.int .i64 n, .int .i64 m] w (RetV w (.int .i64 (aroundV n m))) := by
  have hr := aroundV_range hn hm
  have hn' := hn
  unfold I64 at hn'
  have hm0 : (m == 0) = false := by simp; omega
  by_cases h : n < 0
  · have hv : Hid (aroundV n m = (-(n + 1)).tmod m) := by show _ = _; unfold aroundV; rw [if_pos h]
    rw [hv.out] at hr ⊢
    have hq : IntKind.i64.wrap ((-(n + 1)).tmod m) = (-(n + 1)).tmod m := by rw [IntKind.wrap_i64]; omega
    go_enter Tryz.func18, Tryz.ntmps18
    go_wp2_with fail
    go_ret
    exact ⟨ret_int (Int.neg_tmod ..).symm, (by with_reducible repeat (first | assumption | exact Ext.rfl' _ | exact Ext.new _ _ | refine Ext.alloc' ?_ _ | refine Ext.drew' ?_ | refine Ext.drewN' ?_ _ | (refine Ext.set' ?_ ?_ _; rotate_left; focus (first | omega | (simp; done) | (simp; omega))) | (refine Ext.then (b := ?_) ?_ ?_; rotate_left; rotate_left; assumption)))⟩
  · have hv : Hid (aroundV n m = n.tmod m) := by show _ = _; unfold aroundV; rw [if_neg h]
    rw [hv.out] at hr ⊢
    have hq : IntKind.i64.wrap (n.tmod m) = n.tmod m := by rw [IntKind.wrap_i64]; omega
    go_enter Tryz.func18, Tryz.ntmps18
    go_wp2_with fail
    go_ret
    exact ⟨ret_int (Int.tmod_eq_emod_of_nonneg (by omega)).symm, (by with_reducible repeat (first | assumption | exact Ext.rfl' _ | exact Ext.new _ _ | refine Ext.alloc' ?_ _ | refine Ext.drew' ?_ | refine Ext.drewN' ?_ _ | (refine Ext.set' ?_ ?_ _; rotate_left; focus (first | omega | (simp; done) | (simp; omega))) | (refine Ext.then (b := ?_) ?_ ?_; rotate_left; rotate_left; assumption)))⟩
/-- an integer from lo up to below hi comes back -/
def RetIn (w : World) (lo hi : Int) (e : Ending) (w' : World) : Prop := ∃ r, e = .returned (.int .i64 r) ∧ lo ≤ r ∧ r < hi ∧ Ext w w'
theorem pick_c (l : List Int) (vl : Value) (i m : Int) (w : World) (hl : IntsR (ph w) vl l) (hi : I64 i) (hm : 0 < m) (hm' : m ≤ 9223372036854775807) :
    Calls Tryz.prog 63 #[vl, .int .i64 i, .int .i64 m] w (RetIn w 0 m) := by
  obtain ⟨a, c, rfl, hll, hl⟩ := hl.form
  have hi' := hi
  unfold I64 at hi'
  by_cases h0 : i < 0
  · clear hl
    go_enter Tryz.func63, Tryz.ntmps63
    go_wp2_with fail
    go_ret
    exact ⟨_, rfl, by omega, by omega, (by with_reducible repeat (first | assumption | exact Ext.rfl' _ | exact Ext.new _ _ | refine Ext.alloc' ?_ _ | refine Ext.drew' ?_ | refine Ext.drewN' ?_ _ | (refine Ext.set' ?_ ?_ _; rotate_left; focus (first | omega | (simp; done) | (simp; omega))) | (refine Ext.then (b := ?_) ?_ ?_; rotate_left; rotate_left; assumption)))⟩
  · by_cases h1 : i < l.length
    · obtain ⟨k, rfl⟩ : ∃ k : Nat, i = k := ⟨i.toNat, by omega⟩
      obtain ⟨b, o, rfl, h2, h3, hbl⟩ := IntsR.at hl k (by omega)
      generalize l[k] = x at *
      have hr := aroundV_range h3 hm
      clear hl
      go_enter Tryz.func63, Tryz.ntmps63
      go_wp2_with fail
      refine (around_c x m _ h3 hm hm').mono ?_
      rintro e w1 ⟨rfl, hb1⟩
      generalize aroundV x m = r at *
      go_wp2_with fail
      go_ret
      exact ⟨_, rfl, hr.1, hr.2, (by with_reducible repeat (first | assumption | exact Ext.rfl' _ | exact Ext.new _ _ | refine Ext.alloc' ?_ _ | refine Ext.drew' ?_ | refine Ext.drewN' ?_ _ | (refine Ext.set' ?_ ?_ _; rotate_left; focus (first | omega | (simp; done) | (simp; omega))) | (refine Ext.then (b := ?_) ?_ ?_; rotate_left; rotate_left; assumption)))⟩
    · clear hl
      go_enter Tryz.func63, Tryz.ntmps63
      go_wp2_with fail
      go_ret
      exact ⟨_, rfl, by omega, by omega, (by with_reducible repeat (first | assumption | exact Ext.rfl' _ | exact Ext.new _ _ | refine Ext.alloc' ?_ _ | refine Ext.drew' ?_ | refine Ext.drewN' ?_ _ | (refine Ext.set' ?_ ?_ _; rotate_left; focus (first | omega | (simp; done) | (simp; omega))) | (refine Ext.then (b := ?_) ?_ ?_; rotate_left; rotate_left; assumption)))⟩
theorem OwnS.ty {α : Type} {E : PH → List Value → α → Prop} {sz base : Nat} {H : PH} {w : World} {T : TypeId} {v : Value} {xs : List α} (h : OwnS base H w E sz T v xs) {k : Nat} (hk : v.ownBlock = some k) : ∃ cur, w.heap[k]? = some (.cells cur T (0, 0)) := by
  rcases h with ⟨rfl, _⟩ | ⟨g, cap, cur, rfl, hb, hn, hg, _⟩
  · simp [Value.ownBlock] at hk
  · simp [Value.ownBlock] at hk; subst hk; exact ⟨cur, hg⟩
theorem ty_ne {w : World} {k k' : Nat} {c c' : Array Value} {T T' : TypeId} (h : w.heap[k]? = some (.cells c T (0, 0))) (h' : w.heap[k']? = some (.cells c' T' (0, 0))) (hT : T ≠ T') : k ≠ k' := by
  rintro rfl
  rw [h] at h'
  injection h' with h'
  injection h' with _ h'
  exact hT h'
theorem OwnS.stay {α : Type} {E : PH → List Value → α → Prop} {sz base : Nat} {H : PH} {w w' : World} {T : TypeId} {v : Value} {xs : List α} {row : Option Nat} (h : OwnS base H w E sz T v xs) (hg : w.grownBy w' row) (hne : ∀ k, v.ownBlock = some k → row ≠ some k) : OwnS base H w' E sz T v xs :=
  h.keepB (fun k hk => hg.block k (h.lt k hk).2.1 (fun e => hne k hk e.symm)) (fun k hk => (h.lt k hk).2.2) fun _ _ h => h
theorem OwnS.put {α : Type} {E : PH → List Value → α → Prop} {sz base : Nat} {H : PH} {w : World} {T : TypeId} {v u : Value} {xs : List α} (h : OwnS base H w E sz T v xs) {a : Addr} (hne : v.ownBlock ≠ some a.block) : OwnS base H (w.setCell a u) E sz T v xs :=
  h.keepB (fun k hk => Below.heap_setCell _ _ _ _ (fun e => hne (by rw [hk, e]))) (fun k hk => (h.lt k hk).2.2) fun _ _ h => h
/-- a new thing in a box of its own (block g), its three slices each in a block of its own; what it holds beyond is read in H; K: other boxes that stand -/
structure GSu (w0 : World) (H0 : PH) (K : List (Nat × Array Value)) (H : PH) (w : World) (g : Nat) (v1 v2 v3 : Value) (c : List Int) (v : List Val) (p : List Thing) : Prop where
  l0 : PLe H0 (ph w0)
  le : PLe H0 H
  ub : PLe H (up H0 w0 w)
  ow : Own w g #[v1, v2, v3] 27
  o1 : OwnS w0.heap.size H w IntR 1 3 v1 c
  o2 : OwnS w0.heap.size H w ValR 3 46 v2 v
  o3 : OwnS w0.heap.size H w ThingR 3 27 v3 p
  bg : w0.heap.size ≤ g
  ng : H g = none
  n3 : v3.ownBlock ≠ some g
  kk : ∀ x ∈ K, Own w x.1 x.2 27 ∧ x.1 ≠ g ∧ v3.ownBlock ≠ some x.1 ∧ H x.1 = none
  ex : Ext w0 w
section
variable {w0 : World} {H0 : PH} {K : List (Nat × Array Value)} {H : PH} {w : World} {g : Nat} {v1 v2 v3 : Value} {c : List Int} {v : List Val} {p : List Thing}
theorem GSu.ple (h : GSu w0 H0 K H w g v1 v2 v3 c v p) : PLe H (ph w) := h.ub.trans (up_ple h.l0 h.ex)
theorem GSu.ext {w' : World} (h : GSu w0 H0 K H w g v1 v2 v3 c v p) (e : Ext w w') : GSu w0 H0 K H w' g v1 v2 v3 c v p :=
  ⟨h.l0, h.le, h.ub.trans (up_then h.ex e), h.ow.keep e, h.o1.keep e, h.o2.keep e, h.o3.keep e, h.bg, h.ng, h.n3, fun x hx => ⟨(h.kk x hx).1.keep e, (h.kk x hx).2⟩, h.ex.then e⟩
/-- all that a call has made joins what is read -/
theorem GSu.up {w' : World} (h : GSu w0 H0 K H w g v1 v2 v3 c v p) (e : Ext w w') : GSu w0 H0 K (up H w w') w' g v1 v2 v3 c v p := by
  have hl : PLe H (Proofs.YtnhcplmcddlgnaaGreat.up H w w') := fun k o hk => by unfold Proofs.YtnhcplmcddlgnaaGreat.up; rw [if_pos (ph_lt (h.ple k o hk))]; exact hk
  exact ⟨h.l0, h.le.trans hl, (up_mono h.ub).trans (up_up h.ex e), h.ow.keep e, h.o1.keepUp mono_IntR h.ple e, h.o2.keepUp mono_ValR h.ple e, h.o3.keepUp mono_ThingR h.ple e, h.bg, up_none h.ng h.ow.lt, h.n3,
    fun x hx => ⟨(h.kk x hx).1.keep e, (h.kk x hx).2.1, (h.kk x hx).2.2.1, up_none (h.kk x hx).2.2.2 (h.kk x hx).1.lt⟩, h.ex.then e⟩
theorem ub_set {w1 w2 : World} {row : Option Nat} {j : Nat} {u : Value} (hub : PLe H (up H0 w0 w)) (hx : Ext w0 w) (e : Ext w w1) (hgr : w1.grownBy w2 row) (hr : ∀ k, row = some k → w0.heap.size ≤ k ∧ H k = none) (hg : H g = none) (hbg : w0.heap.size ≤ g) :
    PLe H (up H0 w0 (w2.setCell ⟨g, j, none⟩ u)) := by
  intro k o hk
  have h1 := hub k o hk
  unfold up at *
  split
  · rename_i hl; rw [if_pos hl] at h1; exact h1
  · rename_i hl; rw [if_neg hl] at h1
    have hk1 := ph_lt h1
    have hs := e.size
    show (w2.setCell ⟨g, j, none⟩ u).heap[k]? = some o
    rw [Below.heap_setCell _ _ _ _ (fun he => by rw [he, hg] at hk; cases hk), hgr.block k (by omega) (fun he => by rw [(hr k he.symm).2] at hk; cases hk), e.block k hk1]
    exact h1
theorem ex_set {w1 w2 : World} {row : Option Nat} {j : Nat} {u : Value} (hx : Ext w0 w) (e : Ext w w1) (hgr : w1.grownBy w2 row) (hr : ∀ k, row = some k → w0.heap.size ≤ k ∧ H k = none) (hbg : w0.heap.size ≤ g) : Ext w0 (w2.setCell ⟨g, j, none⟩ u) :=
  (Ext.grown (hx.then e) hgr fun k hk => (hr k hk).1).set' hbg u
theorem GSu.set1 {w1 w2 : World} {u : Value} {c' : List Int} (h : GSu w0 H0 K H w g v1 v2 v3 c v p) (e : Ext w w1) (ho : OwnS w0.heap.size H w2 IntR 1 3 u c') (hgr : w1.grownBy w2 v1.ownBlock) :
    Own w2 g #[v1, v2, v3] 27 ∧ Hid (GSu w0 H0 K H (w2.setCell ⟨g, 0, none⟩ u) g u v2 v3 c' v p) := by
  have he := h.ext e
  have hr : ∀ k, v1.ownBlock = some k → w0.heap.size ≤ k ∧ H k = none := fun k hk => ⟨(h.o1.lt k hk).1, (h.o1.lt k hk).2.2⟩
  have hT : ∀ k, v1.ownBlock = some k → ∃ cur, w1.heap[k]? = some (.cells cur 3 (0, 0)) := fun k hk => he.o1.ty hk
  have hne : ∀ {k c}, Own w1 k c 27 → some k ≠ v1.ownBlock := fun {k c} hk e => by
    obtain ⟨cur, h1⟩ := hT k e.symm
    exact ty_ne hk h1 (by decide) rfl
  have hug : ∀ {k c}, Own w2 k c 27 → u.ownBlock ≠ some k := fun {k c} hk e => by
    obtain ⟨cur, h1⟩ := ho.ty e
    exact ty_ne hk h1 (by decide) rfl
  have hO2 := he.ow.grown hgr (hne he.ow)
  have h2 : v2.ownBlock ≠ some g := fun e2 => by
    obtain ⟨cur, h1⟩ := h.o2.ty e2
    exact ty_ne h.ow h1 (by decide) rfl
  refine ⟨hO2, h.l0, h.le, ub_set h.ub h.ex e hgr hr h.ng h.bg, by simpa using hO2.set 0 u, ho.put (hug hO2), (he.o2.stay hgr fun k hk e2 => ?_).put h2, (he.o3.stay hgr fun k hk e2 => ?_).put h.n3, h.bg, h.ng, h.n3, fun x hx => ?_, ex_set h.ex e hgr hr h.bg⟩
  · obtain ⟨cur, h4⟩ := hT k e2
    obtain ⟨cur', h5⟩ := he.o2.ty hk
    exact ty_ne h4 h5 (by decide) rfl
  · obtain ⟨cur, h4⟩ := hT k e2
    obtain ⟨cur', h5⟩ := he.o3.ty hk
    exact ty_ne h4 h5 (by decide) rfl
  · obtain ⟨k1, k2, k3⟩ := he.kk x hx
    exact ⟨(k1.grown hgr (hne k1)).setOther k2 u, k2, k3⟩
theorem GSu.set2 {w1 w2 : World} {u : Value} {v' : List Val} (h : GSu w0 H0 K H w g v1 v2 v3 c v p) (e : Ext w w1) (ho : OwnS w0.heap.size H w2 ValR 3 46 u v') (hgr : w1.grownBy w2 v2.ownBlock) :
    Own w2 g #[v1, v2, v3] 27 ∧ Hid (GSu w0 H0 K H (w2.setCell ⟨g, 1, none⟩ u) g v1 u v3 c v' p) := by
  have he := h.ext e
  have hr : ∀ k, v2.ownBlock = some k → w0.heap.size ≤ k ∧ H k = none := fun k hk => ⟨(h.o2.lt k hk).1, (h.o2.lt k hk).2.2⟩
  have hT : ∀ k, v2.ownBlock = some k → ∃ cur, w1.heap[k]? = some (.cells cur 46 (0, 0)) := fun k hk => he.o2.ty hk
  have hne : ∀ {k c}, Own w1 k c 27 → some k ≠ v2.ownBlock := fun {k c} hk e => by
    obtain ⟨cur, h1⟩ := hT k e.symm
    exact ty_ne hk h1 (by decide) rfl
  have hug : ∀ {k c}, Own w2 k c 27 → u.ownBlock ≠ some k := fun {k c} hk e => by
    obtain ⟨cur, h1⟩ := ho.ty e
    exact ty_ne hk h1 (by decide) rfl
  have hO2 := he.ow.grown hgr (hne he.ow)
  have h2 : v1.ownBlock ≠ some g := fun e2 => by
    obtain ⟨cur, h1⟩ := h.o1.ty e2
    exact ty_ne h.ow h1 (by decide) rfl
  refine ⟨hO2, h.l0, h.le, ub_set h.ub h.ex e hgr hr h.ng h.bg, by simpa using hO2.set 1 u, (he.o1.stay hgr fun k hk e2 => ?_).put h2, ho.put (hug hO2), (he.o3.stay hgr fun k hk e2 => ?_).put h.n3, h.bg, h.ng, h.n3, fun x hx => ?_, ex_set h.ex e hgr hr h.bg⟩
  · obtain ⟨cur, h4⟩ := hT k e2
    obtain ⟨cur', h5⟩ := he.o1.ty hk
    exact ty_ne h4 h5 (by decide) rfl
  · obtain ⟨cur, h4⟩ := hT k e2
    obtain ⟨cur', h5⟩ := he.o3.ty hk
    exact ty_ne h4 h5 (by decide) rfl
  · obtain ⟨k1, k2, k3⟩ := he.kk x hx
    exact ⟨(k1.grown hgr (hne k1)).setOther k2 u, k2, k3⟩
theorem GSu.set3 {w1 w2 : World} {u : Value} {p' : List Thing} (h : GSu w0 H0 K H w g v1 v2 v3 c v p) (e : Ext w w1) (ho : OwnS w0.heap.size H w2 ThingR 3 27 u p') (hgr : w1.grownBy w2 v3.ownBlock) (hk : ∀ k, u.ownBlock = some k → v3.ownBlock = some k ∨ w1.heap.size ≤ k) :
    Own w2 g #[v1, v2, v3] 27 ∧ Hid (GSu w0 H0 K H (w2.setCell ⟨g, 2, none⟩ u) g v1 v2 u c v p') := by
  have he := h.ext e
  have hr : ∀ k, v3.ownBlock = some k → w0.heap.size ≤ k ∧ H k = none := fun k hk => ⟨(h.o3.lt k hk).1, (h.o3.lt k hk).2.2⟩
  have hT : ∀ k, v3.ownBlock = some k → ∃ cur, w1.heap[k]? = some (.cells cur 27 (0, 0)) := fun k hk => he.o3.ty hk
  have hug : u.ownBlock ≠ some g := fun e2 => by
    rcases hk g e2 with h1 | h1
    · exact h.n3 h1
    · have := he.ow.lt; omega
  have hO2 := he.ow.grown hgr (fun e => h.n3 e.symm)
  have h1 : v1.ownBlock ≠ some g := fun e2 => by
    obtain ⟨cur, h1⟩ := h.o1.ty e2
    exact ty_ne h.ow h1 (by decide) rfl
  have h2 : v2.ownBlock ≠ some g := fun e2 => by
    obtain ⟨cur, h1⟩ := h.o2.ty e2
    exact ty_ne h.ow h1 (by decide) rfl
  refine ⟨hO2, h.l0, h.le, ub_set h.ub h.ex e hgr hr h.ng h.bg, by simpa using hO2.set 2 u, (he.o1.stay hgr fun k hk e2 => ?_).put h1, (he.o2.stay hgr fun k hk e2 => ?_).put h2, ho.put hug, h.bg, h.ng, hug, fun x hx => ?_, ex_set h.ex e hgr hr h.bg⟩
  · obtain ⟨cur, h4⟩ := hT k e2
    obtain ⟨cur', h5⟩ := he.o1.ty hk
    exact ty_ne h4 h5 (by decide) rfl
  · obtain ⟨cur, h4⟩ := hT k e2
    obtain ⟨cur', h5⟩ := he.o2.ty hk
    exact ty_ne h4 h5 (by decide) rfl
  · obtain ⟨k1, k2, k3, k4⟩ := he.kk x hx
    refine ⟨(k1.grown hgr (fun e => k3 e.symm)).setOther k2 u, k2, fun e2 => ?_, k4⟩
    rcases hk _ e2 with h5 | h5
    · exact k3 h5
    · have := k1.lt; omega
/-- handed back -/
theorem GSu.rep (h : GSu w0 H0 K H w g v1 v2 v3 c v p) : ThingR (Proofs.YtnhcplmcddlgnaaGreat.up H0 w0 w) [v1, v2, v3] (.mk c v p) := by
  rw [thingR_iff]
  have key : ∀ {α : Type} {E : PH → List Value → α → Prop} {sz : Nat} {T : TypeId} {u : Value} {xs : List α}, Mono E → OwnS w0.heap.size H w E sz T u xs → SliceRep E sz (Proofs.YtnhcplmcddlgnaaGreat.up H0 w0 w) u xs := by
    intro α E sz T u xs hm ho
    rcases ho with ⟨rfl, rfl⟩ | ⟨g, cap, cur, rfl, h1, h2, h3, h4, h5, h6, h7⟩
    · exact SliceRep.nil E sz _
    · refine ⟨_, cap, rfl, h4, h5, .inr ⟨g, 0, rfl, h7.row (fun _ _ => hm _ _ _ _ h.ub) fun j u hu => ?_⟩⟩
      have : Proofs.YtnhcplmcddlgnaaGreat.up H0 w0 w g = some (.cells cur T (0, 0)) := by unfold Proofs.YtnhcplmcddlgnaaGreat.up; rw [if_neg (by omega)]; exact h3
      simp only [cellAt, this, Nat.zero_add]
      rw [List.getElem?_take] at hu
      split at hu
      · simpa using hu
      · cases hu
  exact ⟨v1, v2, v3, rfl, key mono_IntR h.o1, key mono_ValR h.o2, key mono_ThingR h.o3⟩
end
end Go.Proofs.YtnhcplmcddlgnaaGreat
namespace Go.Proofs.YtnhcplmcddlgnaaGreat
open Go.RowKit
set_option linter.unusedSimpArgs false
set_option linter.unusedVariables false
/-- some new thing of bulk at most b comes back -/
def NewT (w : World) (b : Nat) (cs : List Value) (w' : World) : Prop := ∃ t, ThingR (up noH w w') cs t ∧ t.bulk ≤ b
def SomeP (w : World) (b n : Nat) (e : Ending) (w' : World) : Prop :=
  ∃ (cs : List Value) (nx : Nat), e = .returned (.tuple #[.agg cs.toArray, .int .i64 nx]) ∧ NewT w b cs w' ∧ nx ≤ n + 5 ∧ Ext w w'
abbrev zeroT : Array Value := #[.slice none 0 0, .slice none 0 0, .slice none 0 0]
theorem GSu.start (w : World) : GSu w noH [(w.heap.size, zeroT)] noH ((w.alloc (.cells zeroT 27)).alloc (.cells zeroT 27)) (w.heap.size + 1) (.slice none 0 0) (.slice none 0 0) (.slice none 0 0) [] [] [] :=
  ⟨noH_le _, noH_le _, noH_le _, Own.new' _ _ _ (by simp), OwnS.nil _ _ _ _ _ _, OwnS.nil _ _ _ _ _ _, OwnS.nil _ _ _ _ _ _, by omega, rfl, by simp [Value.ownBlock],
    fun x hx => by obtain rfl := List.mem_singleton.1 hx; exact ⟨(Own.new w _ _).alloc _, by simp, by simp [Value.ownBlock], rfl⟩, (by with_reducible repeat (first | assumption | exact Ext.rfl' _ | exact Ext.new _ _ | refine Ext.alloc' ?_ _ | refine Ext.drew' ?_ | refine Ext.drewN' ?_ _ | (refine Ext.set' ?_ ?_ _; rotate_left; focus (first | omega | (simp; done) | (simp; omega))) | (refine Ext.then (b := ?_) ?_ ?_; rotate_left; rotate_left; assumption)))⟩
/-- a box under way, whatever it holds -/
def GS (w0 : World) (H0 : PH) (K : List (Nat × Array Value)) (w : World) (g nc nv np bk : Nat) : Prop :=
  ∃ H v1 v2 v3 c v p, GSu w0 H0 K H w g v1 v2 v3 c v p ∧ c.length ≤ nc ∧ v.length ≤ nv ∧ p.length ≤ np ∧ sumN Thing.bulk p ≤ bk
theorem infoVal : (Tryz.prog.info? 46).map (fun i => (i.zero, i.size, i.bytes)) = some (some (.agg #[.int .i64 0, .int .i64 0, .int .i64 0]), 3, 24) := by kernel_rfl
theorem one_ValR {h : PH} : ∀ cs x, ValR h cs x → ∀ u ∈ cs, u.oneCell' = true := by
  rintro cs x ⟨rfl, -⟩ u hu
  simp at hu
  rcases hu with rfl | rfl | rfl <;> rfl
theorem ratios8 (q : Nat) (h : q < 8) : ∃ rn rd : Int, (#[.int .i64 0, .int .i64 1, .int .i64 1, .int .i64 1, .int .i64 1, .int .i64 2, .int .i64 3, .int .i64 2, .int .i64 2, .int .i64 1, .int .i64 (-1), .int .i64 1, .int .i64 5, .int .i64 1, .int .i64 7, .int .i64 3] : Array Value)[q * 2]? = some (.int .i64 rn) ∧
    (#[.int .i64 0, .int .i64 1, .int .i64 1, .int .i64 1, .int .i64 1, .int .i64 2, .int .i64 3, .int .i64 2, .int .i64 2, .int .i64 1, .int .i64 (-1), .int .i64 1, .int .i64 5, .int .i64 1, .int .i64 7, .int .i64 3] : Array Value)[q * 2 + 1]? = some (.int .i64 rd) ∧ I64 rn ∧ I64 rd := by
  unfold I64
  match q, h with
  | 0, _ => exact ⟨_, _, rfl, rfl, by omega, by omega⟩
  | 1, _ => exact ⟨_, _, rfl, rfl, by omega, by omega⟩
  | 2, _ => exact ⟨_, _, rfl, rfl, by omega, by omega⟩
  | 3, _ => exact ⟨_, _, rfl, rfl, by omega, by omega⟩
  | 4, _ => exact ⟨_, _, rfl, rfl, by omega, by omega⟩
  | 5, _ => exact ⟨_, _, rfl, rfl, by omega, by omega⟩
  | 6, _ => exact ⟨_, _, rfl, rfl, by omega, by omega⟩
  | 7, _ => exact ⟨_, _, rfl, rfl, by omega, by omega⟩
theorem infoThing : (Tryz.prog.info? 27).map (fun i => (i.zero, i.size, i.bytes)) = some (some (.agg #[.slice none 0 0, .slice none 0 0, .slice none 0 0]), 3, 72) := by kernel_rfl
theorem one_ThingR {h : PH} : ∀ cs x, ThingR h cs x → ∀ u ∈ cs, u.oneCell' = true := by
  intro cs x hr u hu
  obtain ⟨a1, c1, a2, c2, a3, c3, rfl, -⟩ := hr.form
  simp at hu
  rcases hu with rfl | rfl | rfl <;> rfl
theorem up_noH {H : PH} {w w' : World} : PLe (up noH w w') (up H w w') := up_mono (noH_le H)
theorem some_bulk {d k : Nat} {c : List Int} {v : List Val} {p : List Thing} (q1 : c.length ≤ 64) (q2 : v.length ≤ 3) (q4 : sumN Thing.bulk p ≤ k * (68 * 4 ^ (d - 1))) (hk : k ≤ 3) (hkd : k = 0 ∨ 1 < d) : (Thing.mk c v p).bulk ≤ 68 * 4 ^ d := by
  rw [Thing.bulk_eq]
  simp only [Thing.cls, Thing.vals, Thing.parts]
  have hp : 0 < 4 ^ d := Nat.pow_pos (by omega)
  rcases hkd with rfl | h1
  · omega
  · obtain ⟨e, rfl⟩ : ∃ e, d = e + 1 := ⟨d - 1, by omega⟩
    rw [Nat.add_sub_cancel] at q4
    rw [Nat.pow_succ]
    have hp : 0 < 4 ^ e := Nat.pow_pos (by omega)
    generalize 4 ^ e = x at *
    have : k * (68 * x) ≤ 3 * (68 * x) := Nat.mul_le_mul_right _ hk
    omega
theorem sumN_snoc {α : Type} (f : α → Nat) (l : List α) (x : α) : sumN f (l ++ [x]) = sumN f l + f x := by
  induction l with
  | nil => simp [sumN]
  | cons y ys ih => simp only [List.cons_append, sumN, ih]; omega
theorem GSu.setK {w0 : World} {H0 : PH} {H : PH} {w : World} {g b : Nat} {cb : Array Value} {v1 v2 v3 : Value} {c : List Int} {v : List Val} {p : List Thing} (h : GSu w0 H0 [(b, cb)] H w g v1 v2 v3 c v p) (hb : w0.heap.size ≤ b) (j : Nat) (u : Value) :
    GSu w0 H0 [(b, cb.setIfInBounds j u)] H (w.setCell ⟨b, j, none⟩ u) g v1 v2 v3 c v p := by
  obtain ⟨k1, k2, k3, k4⟩ := h.kk _ (List.mem_singleton.2 rfl)
  have h1 : v1.ownBlock ≠ some b := fun e2 => by
    obtain ⟨cur, h1⟩ := h.o1.ty e2
    exact ty_ne k1 h1 (by decide) rfl
  have h2 : v2.ownBlock ≠ some b := fun e2 => by
    obtain ⟨cur, h1⟩ := h.o2.ty e2
    exact ty_ne k1 h1 (by decide) rfl
  refine ⟨h.l0, h.le, ?_, h.ow.setOther (Ne.symm k2) u, h.o1.put h1, h.o2.put h2, h.o3.put k3, h.bg, h.ng, h.n3, fun x hx => ?_, h.ex.set' hb u⟩
  · intro k o hk
    have h1 := h.ub k o hk
    unfold Proofs.YtnhcplmcddlgnaaGreat.up at *
    split
    · rename_i hl; rw [if_pos hl] at h1; exact h1
    · rename_i hl; rw [if_neg hl] at h1
      show (w.setCell ⟨b, j, none⟩ u).heap[k]? = some o
      rw [Below.heap_setCell _ _ _ _ (fun he => by rw [he] at hk; rw [k4] at hk; cases hk)]
      exact h1
  · obtain rfl := List.mem_singleton.1 hx
    exact ⟨k1.set j u, k2, k3, k4⟩
theorem GSu.gs {w0 : World} {H0 : PH} {K : List (Nat × Array Value)} {H : PH} {w : World} {g nc nv np bk : Nat} {v1 v2 v3 : Value} {c : List Int} {v : List Val} {p : List Thing} (h : GSu w0 H0 K H w g v1 v2 v3 c v p) (q1 : c.length ≤ nc) (q2 : v.length ≤ nv) (q3 : p.length ≤ np) (q4 : sumN Thing.bulk p ≤ bk) : GS w0 H0 K w g nc nv np bk :=
  ⟨H, v1, v2, v3, c, v, p, h, q1, q2, q3, q4⟩
set_option maxRecDepth 100000 in
set_option maxHeartbeats 2000000 in
theorem some_c (l : List Int) (vl : Value) (hlen : l.length ≤ 140737488355328) (d : Nat) : d ≤ 4 → ∀ (at_ : Nat) (cl : Int) (w : World), IntsR (ph w) vl l → 0 ≤ cl → cl ≤ 64 → at_ ≤ l.length →
    Calls Tryz.prog 34 #[vl, .int .i64 at_, .int .i64 cl, .int .i64 d] w (SomeP w (68 * 4 ^ d) l.length) := by
  induction d using Nat.strongRecOn with
  | ind d ih =>
    intro hd at_ cl w hl hc0 hc1 hat
    have HI := Lib.hid (fun h : 1 < d => ih (d - 1) (by omega) (by omega)); clear ih
    obtain ⟨a, c, rfl, hll, hl⟩ := hl.form
    have hS := GSu.start w
    go_enter Tryz.func34, Tryz.ntmps34
    go_wp2_with fail
    refine (pick_c l _ at_ 1048576 _ (hl.mono mono_IntR (Ext.ple (by with_reducible repeat (first | assumption | exact Ext.rfl' _ | exact Ext.new _ _ | refine Ext.alloc' ?_ _ | refine Ext.drew' ?_ | refine Ext.drewN' ?_ _ | (refine Ext.set' ?_ ?_ _; rotate_left; focus (first | omega | (simp; done) | (simp; omega))) | (refine Ext.then (b := ?_) ?_ ?_; rotate_left; rotate_left; assumption))))) (by unfold I64; omega) (by omega) (by omega)).mono ?_
    rintro e w1 ⟨n, rfl, hn0, hn1, hb1⟩
    replace hS := hS.ext hb1
    clear hb1
    go_wp2_with fail
    go_loopw [12] (fun i wr => ∃ k : Nat, (k : Int) ≤ cl ∧ i = .int .i64 k ∧ GS w noH [(w.heap.size, zeroT)] wr (w.heap.size + 1) k 0 0 0) (fun i _ => 64 - (intOf i).toNat)
    case atStart => exact ⟨0, by omega, rfl, _, _, _, _, _, _, _, hS, by simp, by simp, by simp, by simp [sumN]⟩
    case round =>
      clear hS
      obtain ⟨k, hk, rfl, H, v1, v2, v3, cs, vs, ps, hS, q1, q2, q3, q4⟩ := hrel
      by_cases hlt : (k : Int) < cl
      · obtain ⟨a1, c1, rfl, l1⟩ := hS.o1.form
        obtain ⟨hoc, hof⟩ := hS.ow.facts
        have hgl := hS.ow.lt
        cases hq : ((n / 2 ^ (k % 20)).tmod 3 == 1) with
        | true =>
          go_wp2_with (at_builtin; refine wpList_append_S (E := IntR) (H := H) (base := w.heap.size) (ys := [(k : Int)]) rfl _ _ 22 3 rfl (.int .i64 0) 8 Tryz.underlying22 infoInt rfl rfl rfl (hS.o1.keep (by with_reducible repeat (first | assumption | exact Ext.rfl' _ | exact Ext.new _ _ | refine Ext.alloc' ?_ _ | refine Ext.drew' ?_ | refine Ext.drewN' ?_ _ | (refine Ext.set' ?_ ?_ _; rotate_left; focus (first | omega | (simp; done) | (simp; omega))) | (refine Ext.then (b := ?_) ?_ ?_; rotate_left; rotate_left; assumption)))) (Src.lit1 ⟨rfl, by unfold I64; omega⟩ rfl (fun j => by simp [go_sem])) (hS.ple.trans (Ext.ple (by with_reducible repeat (first | assumption | exact Ext.rfl' _ | exact Ext.new _ _ | refine Ext.alloc' ?_ _ | refine Ext.drew' ?_ | refine Ext.drewN' ?_ _ | (refine Ext.set' ?_ ?_ _; rotate_left; focus (first | omega | (simp; done) | (simp; omega))) | (refine Ext.then (b := ?_) ?_ ?_; rotate_left; rotate_left; assumption))))) ?c2 one_IntR ?c3 ?c4 ?c5)
          case c2 => have := hS.ex.size; simp; omega
          case c3 => simp; omega
          case c4 => simp; omega
          case c5 =>
            intro l' w2 hl1 hg1 hn1
            obtain ⟨hO2, hR⟩ := hS.set1 (Ext.new _ _) hl1 hg1
            obtain ⟨a', c', rfl, -⟩ := hl1.form
            obtain ⟨hoc2, hof2⟩ := hO2.facts
            have hgl2 := hO2.lt
            clear hS hg1 hn1 hoc hof hl1
            go_wp2_with fail
            go_roundw
            case rel =>
              have hR2 := hR.out
              rw [List.length_append, List.length_singleton] at hR2
              exact ⟨k + 1, by omega, by go_num, hR2.gs (by simp; omega) q2 q3 q4⟩
            case measure => simp [intOf]; omega
        | false =>
          go_wp2_with fail
          go_roundw
          case rel => exact ⟨k + 1, by omega, by go_num, hS.gs (by omega) q2 q3 q4⟩
          case measure => simp [intOf]; omega
      · have hc : cs.length ≤ 64 := by omega
        clear q1 hk
        go_wp2_with fail
        go_loopw [1, 13] (fun i j wr => ∃ k : Nat, k ≤ 3 ∧ i = .int .i64 (at_ + 1 + k : Nat) ∧ j = .int .i64 k ∧ GS w noH [(w.heap.size, zeroT)] wr (w.heap.size + 1) 64 k 0 0) (fun _ j _ => 3 - (intOf j).toNat)
        case atStart => exact ⟨0, by omega, by go_num, rfl, hS.gs hc q2 q3 q4⟩
        case round =>
          clear hS hc q2 q3 q4
          obtain ⟨k, hk, rfl, rfl, H, v1, v2, v3, cs, vs, ps, hS, q1, q2, q3, q4⟩ := hrel
          by_cases hlt : k < 3
          · have hx := hS.ex
            go_wp2_with fail
            refine (pick_c l _ (at_ + 1 + k : Nat) 1048576 _ (hl.mono mono_IntR (Ext.ple (by with_reducible repeat (first | assumption | exact Ext.rfl' _ | exact Ext.new _ _ | refine Ext.alloc' ?_ _ | refine Ext.drew' ?_ | refine Ext.drewN' ?_ _ | (refine Ext.set' ?_ ?_ _; rotate_left; focus (first | omega | (simp; done) | (simp; omega))) | (refine Ext.then (b := ?_) ?_ ?_; rotate_left; rotate_left; assumption))))) (by unfold I64; omega) (by omega) (by omega)).mono ?_
            rintro e w2 ⟨m, rfl, hm0, hm1, hb2⟩
            replace hS := hS.ext hb2
            clear hb2 hx
            obtain ⟨a1, c1, rfl, l1⟩ := hS.o2.form
            obtain ⟨hoc, hof⟩ := hS.ow.facts
            have hgl := hS.ow.lt
            have hgl3 : w.heap.size < w2.heap.size := by omega
            cases hq : (m % 3 == 0) with
            | true =>
              have ik : I64 (k : Int) := by unfold I64; omega
              obtain ⟨rn, rd, hr0, hr1, i0, i1⟩ := ratios8 (m / 3 % 8).toNat (by omega)
              have hr2 : (w2.alloc (.cells #[.int .i64 0, .int .i64 1, .int .i64 1, .int .i64 1, .int .i64 1, .int .i64 2, .int .i64 3, .int .i64 2, .int .i64 2, .int .i64 1, .int .i64 (-1), .int .i64 1, .int .i64 5, .int .i64 1, .int .i64 7, .int .i64 3] 44)).cell? ⟨w2.heap.size, (m / 3 % 8).toNat * 2, none⟩ = some (.int .i64 rn) := by rw [(Own.new _ _ _).facts.1]; exact hr0
              have hr3 : (w2.alloc (.cells #[.int .i64 0, .int .i64 1, .int .i64 1, .int .i64 1, .int .i64 1, .int .i64 2, .int .i64 3, .int .i64 2, .int .i64 2, .int .i64 1, .int .i64 (-1), .int .i64 1, .int .i64 5, .int .i64 1, .int .i64 7, .int .i64 3] 44)).cell? ⟨w2.heap.size, (m / 3 % 8).toNat * 2 + 1, none⟩ = some (.int .i64 rd) := by rw [(Own.new _ _ _).facts.1]; exact hr1
              clear hr0 hr1
              go_wp2_with (at_builtin; refine wpList_append_S (E := ValR) (H := H) (base := w.heap.size) (ys := [⟨k, ⟨rn, rd⟩⟩]) rfl _ _ 25 46 rfl (.agg #[.int .i64 0, .int .i64 0, .int .i64 0]) 24 Tryz.underlying25 infoVal rfl rfl rfl (hS.o2.keep (by with_reducible repeat (first | assumption | exact Ext.rfl' _ | exact Ext.new _ _ | refine Ext.alloc' ?_ _ | refine Ext.drew' ?_ | refine Ext.drewN' ?_ _ | (refine Ext.set' ?_ ?_ _; rotate_left; focus (first | omega | (simp; done) | (simp; omega))) | (refine Ext.then (b := ?_) ?_ ?_; rotate_left; rotate_left; assumption)))) (Src.lit1 ⟨rfl, ik, i0, i1⟩ rfl (fun j => by simp [go_sem])) (hS.ple.trans (Ext.ple (by with_reducible repeat (first | assumption | exact Ext.rfl' _ | exact Ext.new _ _ | refine Ext.alloc' ?_ _ | refine Ext.drew' ?_ | refine Ext.drewN' ?_ _ | (refine Ext.set' ?_ ?_ _; rotate_left; focus (first | omega | (simp; done) | (simp; omega))) | (refine Ext.then (b := ?_) ?_ ?_; rotate_left; rotate_left; assumption))))) ?c2 one_ValR ?c3 ?c4 ?c5)
              case c2 => have := hS.ex.size; simp; omega
              case c3 => simp; omega
              case c4 => simp; omega
              case c5 =>
                intro l' w3 hl1 hg1 hn1
                obtain ⟨hO2, hR⟩ := hS.set2 (w1 := ((w2.alloc _).alloc _).alloc _) (by with_reducible repeat (first | assumption | exact Ext.rfl' _ | exact Ext.new _ _ | refine Ext.alloc' ?_ _ | refine Ext.drew' ?_ | refine Ext.drewN' ?_ _ | (refine Ext.set' ?_ ?_ _; rotate_left; focus (first | omega | (simp; done) | (simp; omega))) | (refine Ext.then (b := ?_) ?_ ?_; rotate_left; rotate_left; assumption))) hl1 hg1
                obtain ⟨a', c', rfl, -⟩ := hl1.form
                obtain ⟨hoc2, hof2⟩ := hO2.facts
                have hgl2 := hO2.lt
                clear hS hg1 hn1 hoc hof hl1 hr2 hr3
                go_wp2_with fail
                go_roundw
                case rel =>
                  have hR2 := hR.out
                  rw [List.length_append, List.length_singleton] at hR2
                  exact ⟨k + 1, by omega, by go_num, by go_num, hR2.gs q1 (by simp; omega) q3 q4⟩
                case measure => simp [intOf]; omega
            | false =>
              go_wp2_with fail
              go_roundw
              case rel => exact ⟨k + 1, by omega, by go_num, by go_num, hS.gs q1 (by omega) q3 q4⟩
              case measure => simp [intOf]; omega
          · obtain rfl : k = 3 := by omega
            have hx := hS.ex
            go_wp2_with fail
            refine (pick_c l _ (at_ + 1 + 3 : Nat) 4 _ (hl.mono mono_IntR (Ext.ple (by with_reducible repeat (first | assumption | exact Ext.rfl' _ | exact Ext.new _ _ | refine Ext.alloc' ?_ _ | refine Ext.drew' ?_ | refine Ext.drewN' ?_ _ | (refine Ext.set' ?_ ?_ _; rotate_left; focus (first | omega | (simp; done) | (simp; omega))) | (refine Ext.then (b := ?_) ?_ ?_; rotate_left; rotate_left; assumption))))) (by unfold I64; omega) (by omega) (by omega)).mono ?_
            rintro e w2 ⟨m, rfl, hm0, hm1, hb2⟩
            replace hS := hS.ext hb2
            clear hb2 hx
            go_wp2_with fail
            go_loopw [1, 17] (fun i j wr => ∃ at2 k : Nat, at2 ≤ l.length + 5 ∧ (k : Int) ≤ m ∧ (k = 0 ∨ 1 < d) ∧ i = .int .i64 at2 ∧ j = .int .i64 k ∧ GS w noH [(w.heap.size, zeroT)] wr (w.heap.size + 1) 64 3 k (k * (68 * 4 ^ (d - 1)))) (fun _ j _ => 4 - (intOf j).toNat)
            case atStart => exact ⟨at_ + 1 + 3 + 1, 0, by omega, by omega, .inl rfl, by go_num, rfl, hS.gs q1 q2 q3 (by omega)⟩
            case round =>
              clear hS q1 q2 q3 q4
              obtain ⟨at2, k, hat2, hk, hkd, rfl, rfl, H, v1, v2, v3, cs, vs, ps, hS, q1, q2, q3, q4⟩ := hrel
              have hbk := Lib.hid (some_bulk q1 q2 q4 (by omega) hkd)
              obtain ⟨hoc, hof⟩ := hS.ow.facts
              have hgl := hS.ow.lt
              have hgl3 : w.heap.size < wr.heap.size := by omega
              by_cases hgo : (k : Int) < m ∧ 1 < (d : Int) ∧ (at2 : Int) < l.length
              · obtain ⟨g1, g2, g3⟩ := hgo
                have hx := hS.ex
                have hdd : ((d : Int) - 1) = ((d - 1 : Nat) : Int) := by omega
                go_wp2_with fail
                refine (HI.out (by omega) at2 cl _ (hl.mono mono_IntR (Ext.ple (by with_reducible repeat (first | assumption | exact Ext.rfl' _ | exact Ext.new _ _ | refine Ext.alloc' ?_ _ | refine Ext.drew' ?_ | refine Ext.drewN' ?_ _ | (refine Ext.set' ?_ ?_ _; rotate_left; focus (first | omega | (simp; done) | (simp; omega))) | (refine Ext.then (b := ?_) ?_ ?_; rotate_left; rotate_left; assumption))))) hc0 hc1 (by omega)).mono ?_
                rintro e w3 ⟨cs', nx, rfl, ⟨t, hT, hTb⟩, hnx, hb3⟩
                obtain ⟨b1, d1, b2, d2, b3, d3, rfl, -⟩ := hT.form
                replace hT : ThingR (up H wr w3) _ t := mono_ThingR _ _ _ _ up_noH hT
                replace hS := hS.up hb3
                clear hoc hof hgl hgl3 hx hb3
                obtain ⟨hoc, hof⟩ := hS.ow.facts
                have hgl := hS.ow.lt
                have hgl3 : w.heap.size < w3.heap.size := by omega
                obtain ⟨p1, p2, rfl, l3⟩ := hS.o3.form
                have q4' : sumN Thing.bulk (ps ++ [t]) ≤ (k + 1) * (68 * 4 ^ (d - 1)) := by
                  rw [Nat.add_mul]
                  have := sumN_snoc Thing.bulk ps t
                  omega
                replace q4' := Lib.hid q4'
                go_wp2_with (at_builtin; refine wpList_append_S (E := ThingR) (H := up H wr w3) (base := w.heap.size) (ys := [t]) rfl _ _ 23 27 rfl (.agg #[.slice none 0 0, .slice none 0 0, .slice none 0 0]) 72 Tryz.underlying23 infoThing rfl rfl rfl (hS.o3.keep (by with_reducible repeat (first | assumption | exact Ext.rfl' _ | exact Ext.new _ _ | refine Ext.alloc' ?_ _ | refine Ext.drew' ?_ | refine Ext.drewN' ?_ _ | (refine Ext.set' ?_ ?_ _; rotate_left; focus (first | omega | (simp; done) | (simp; omega))) | (refine Ext.then (b := ?_) ?_ ?_; rotate_left; rotate_left; assumption)))) (Src.lit1 hT rfl (fun j => by simp [go_sem])) (hS.ple.trans (Ext.ple (by with_reducible repeat (first | assumption | exact Ext.rfl' _ | exact Ext.new _ _ | refine Ext.alloc' ?_ _ | refine Ext.drew' ?_ | refine Ext.drewN' ?_ _ | (refine Ext.set' ?_ ?_ _; rotate_left; focus (first | omega | (simp; done) | (simp; omega))) | (refine Ext.then (b := ?_) ?_ ?_; rotate_left; rotate_left; assumption))))) ?c2 one_ThingR ?c3 ?c4 ?c5)
                case c2 => have := hS.ex.size; simp; omega
                case c3 => simp; omega
                case c4 => simp; omega
                case c5 =>
                  intro l' w4 hl1 hg1 hn1
                  obtain ⟨hO2, hR⟩ := hS.set3 (w1 := (w3.alloc _).alloc _) (by with_reducible repeat (first | assumption | exact Ext.rfl' _ | exact Ext.new _ _ | refine Ext.alloc' ?_ _ | refine Ext.drew' ?_ | refine Ext.drewN' ?_ _ | (refine Ext.set' ?_ ?_ _; rotate_left; focus (first | omega | (simp; done) | (simp; omega))) | (refine Ext.then (b := ?_) ?_ ?_; rotate_left; rotate_left; assumption))) hl1 hg1 (by simpa using hn1)
                  obtain ⟨a', c', rfl, -⟩ := hl1.form
                  obtain ⟨hoc2, hof2⟩ := hO2.facts
                  have hgl2 := hO2.lt
                  clear hS hg1 hn1 hoc hof hl1
                  go_wp2_with fail
                  go_roundw
                  case rel =>
                    have hR2 := hR.out
                    rw [List.length_append, List.length_singleton] at hR2
                    exact ⟨nx, k + 1, hnx, by omega, .inr (by omega), rfl, by go_num, hR2.gs q1 q2 (by simp; omega) q4'.out⟩
                  case measure => simp [intOf]; omega
              · obtain ⟨hKo, -, -, -⟩ := hS.kk _ (List.mem_singleton.2 rfl)
                have hKl := hKo.lt
                have h3 : ¬ (k : Int) < m ∨ (k : Int) < m ∧ ¬ 1 < (d : Int) ∨ (k : Int) < m ∧ 1 < (d : Int) ∧ ¬ (at2 : Int) < l.length := by omega
                obtain ⟨a1, c1, rfl, -⟩ := hS.o1.form
                obtain ⟨a2, c2, rfl, -⟩ := hS.o2.form
                obtain ⟨a3, c3, rfl, -⟩ := hS.o3.form
                obtain ⟨hKc, hKf⟩ := hKo.facts
                have hx := hS.ex
                have hfin := ((hS.setK (Nat.le_refl _) 0 (.slice a1 cs.length c1)).setK (Nat.le_refl _) 1 (.slice a2 vs.length c2)).setK (Nat.le_refl _) 2 (.slice a3 ps.length c3)
                have hrep := Lib.hid hfin.rep
                have hex := Lib.hid hfin.ex
                rcases h3 with g1 | ⟨g1, g2⟩ | ⟨g1, g2, g3⟩
                all_goals
                  go_wp2_with fail
                  exact bodyPost_ret (v := .tuple #[.agg #[.slice a1 cs.length c1, .slice a2 vs.length c2, .slice a3 ps.length c3], .int .i64 at2]) (by simp [results, Tryz.results34, go_sem, hKc, hKf, hKl]) rfl
                    ⟨[_, _, _], at2, rfl, ⟨_, hrep.out, hbk.out⟩, hat2, hex.out⟩
theorem up_noH_mono {w wc w1 w2 : World} (h : w.heap.size ≤ wc.heap.size) (hs : ∀ k, wc.heap.size ≤ k → k < w1.heap.size → w2.heap[k]? = w1.heap[k]?) : PLe (up noH wc w1) (up noH w w2) := by
  intro k o hk
  unfold up at *
  by_cases hl : k < wc.heap.size
  · rw [if_pos hl] at hk; cases hk
  · rw [if_neg hl] at hk
    rw [if_neg (by omega)]
    show w2.heap[k]? = some o
    rw [hs k (by omega) (ph_lt hk)]
    exact hk
def SomeTP (w : World) (b : Nat) (e : Ending) (w' : World) : Prop := ∃ cs : List Value, e = .returned (.agg cs.toArray) ∧ NewT w b cs w' ∧ Ext w w'
set_option maxHeartbeats 400000 in
theorem someT_c (l : List Int) (vl : Value) (cl : Int) (d : Nat) (w : World) (hlen : l.length ≤ 140737488355328) (hd : d ≤ 4) (hl : IntsR (ph w) vl l) (hc0 : 0 ≤ cl) (hc1 : cl ≤ 64) :
    Calls Tryz.prog 16 #[vl, .int .i64 cl, .int .i64 d] w (SomeTP w (68 * 4 ^ d)) := by
  obtain ⟨a, c, rfl, hll, hl⟩ := hl.form
  go_enter Tryz.func16, Tryz.ntmps16
  go_wp2_with fail
  refine (some_c l _ hlen d hd 0 cl _ (hl.mono mono_IntR (Ext.ple (by with_reducible repeat (first | assumption | exact Ext.rfl' _ | exact Ext.new _ _ | refine Ext.alloc' ?_ _ | refine Ext.drew' ?_ | refine Ext.drewN' ?_ _ | (refine Ext.set' ?_ ?_ _; rotate_left; focus (first | omega | (simp; done) | (simp; omega))) | (refine Ext.then (b := ?_) ?_ ?_; rotate_left; rotate_left; assumption))))) hc0 hc1 (by omega)).mono ?_
  rintro e w1 ⟨cs, nx, rfl, ⟨t, hT, hTb⟩, hnx, hb1⟩
  obtain ⟨b1, d1, b2, d2, b3, d3, rfl, -⟩ := hT.form
  have hO : Own w1 w.heap.size zeroT 27 := Own.keep (Own.new _ _ _) hb1
  have hb : Ext w w1 := (by with_reducible repeat (first | assumption | exact Ext.rfl' _ | exact Ext.new _ _ | refine Ext.alloc' ?_ _ | refine Ext.drew' ?_ | refine Ext.drewN' ?_ _ | (refine Ext.set' ?_ ?_ _; rotate_left; focus (first | omega | (simp; done) | (simp; omega))) | (refine Ext.then (b := ?_) ?_ ?_; rotate_left; rotate_left; assumption)))
  have hs1 : w.heap.size + 1 ≤ w1.heap.size := by have := hb1.size; simpa using this
  obtain ⟨hoc, hof⟩ := hO.facts
  have hol := hO.lt
  generalize hB : 68 * 4 ^ d = bb at *
  clear hb1 hB
  go_wp2_with fail
  refine bodyPost_ret (v := .agg #[.slice b1 t.cls.length d1, .slice b2 t.vals.length d2, .slice b3 t.parts.length d3]) (by simp [results, Tryz.results16, go_sem, hoc, hof, hol]) rfl
    ⟨[_, _, _], rfl, ⟨t, mono_ThingR _ _ _ _ (up_noH_mono (by simp) fun k h1 h2 => ?_) hT, hTb⟩, (by with_reducible repeat (first | assumption | exact Ext.rfl' _ | exact Ext.new _ _ | refine Ext.alloc' ?_ _ | refine Ext.drew' ?_ | refine Ext.drewN' ?_ _ | (refine Ext.set' ?_ ?_ _; rotate_left; focus (first | omega | (simp; done) | (simp; omega))) | (refine Ext.then (b := ?_) ?_ ?_; rotate_left; rotate_left; assumption)))⟩
  have h1' : w.heap.size + 1 ≤ k := by simpa using h1
  rw [(Ext.new _ _).block k (by simpa using h2), Below.heap_setCell _ _ _ _ (by simp; omega), Below.heap_setCell _ _ _ _ (by simp; omega), Below.heap_setCell _ _ _ _ (by simp; omega)]
end Go.Proofs.YtnhcplmcddlgnaaGreat
