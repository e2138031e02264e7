/- thing.increasing, formed, nodes, limited, Valid. -/
import Derived.Test.YtnhcplmcddlgnaaGreatTN00
namespace Go.Proofs.YtnhcplmcddlgnaaGreat
open Go.RowKit
set_option linter.unusedSimpArgs false
set_option linter.unusedVariables false
/-- strictly increasing numbers from 0 to m - 1 -/
def incAt (l : List Int) (m : Int) (k : Nat) : Prop := ∀ (h : k < l.length), 0 ≤ l[k] ∧ l[k] < m ∧ (∀ _ : 0 < k, l[k - 1]'(by omega) < l[k])
def Inc (l : List Int) (m : Int) : Prop := ∀ k, incAt l m k
theorem below_succ {p : Nat → Prop} {k : Nat} (h : ∀ j, j < k → p j) (hk : p k) : ∀ j, j < k + 1 → p j := fun j hj => by
  by_cases h' : j < k
  · exact h j h'
  · obtain rfl : j = k := by omega
    exact hk
set_option maxHeartbeats 400000 in
theorem increasing_c (vs : Value) (l : List Int) (m : Int) (w : World) (hr : IntsR (ph w) vs l) :
    Calls Tryz.prog 53 #[vs, .int .i64 m] w (RetV w (.bool (B (Inc l m)))) := by
  obtain ⟨a, c, rfl, hlen, hr⟩ := hr.form
  go_enter Tryz.func53, Tryz.ntmps53
  go_wp2
  go_loopw [9] (fun i wr => ∃ k : Nat, k ≤ l.length ∧ i = .int .i64 k ∧ Hid (∀ j, j < k → incAt l m j) ∧ Ext w wr) (fun i _ => l.length - (intOf i).toNat)
  case atStart => exact ⟨0, Nat.zero_le _, rfl, Lib.hid (by intro j hj; omega), (by with_reducible repeat (first | assumption | exact Ext.rfl' _ | exact Ext.new _ _ | refine Ext.alloc' ?_ _ | refine Ext.drew' ?_ | refine Ext.drewN' ?_ _ | (refine Ext.set' ?_ ?_ _; rotate_left; focus (first | omega | (simp; done) | (simp; omega))) | (refine Ext.then (b := ?_) ?_ ?_; rotate_left; rotate_left; assumption)))⟩
  case round =>
    obtain ⟨k, hk, rfl, hi, hb⟩ := hrel
    by_cases hlt : k < l.length
    · have hp' := hr.mono mono_IntR hb.ple
      obtain ⟨b, o, rfl, h0, -, hbl⟩ := IntsR.at hp' k hlt
      by_cases hk0 : 0 < k
      · obtain ⟨b', o', he, h0', -, -⟩ := IntsR.at hp' (k - 1) (by omega)
        simp only [Option.some.injEq, Addr.mk.injEq, and_true] at he
        obtain ⟨rfl, rfl⟩ := he
        have hat : Hid (incAt l m k ↔ 0 ≤ l[k] ∧ l[k] < m ∧ l[k-1] < l[k]) := ⟨fun h => ⟨(h hlt).1, (h hlt).2.1, (h hlt).2.2 hk0⟩, fun h _ => ⟨h.1, h.2.1, fun _ => h.2.2⟩⟩
        generalize l[k] = x at *
        generalize l[k - 1] = y at *
        clear hp' hr
        go_wp2_with fail
        all_goals first
          | exact ⟨⟨k + 1, by omega, by go_num, Lib.hid (below_succ hi.out (hat.out.2 (by omega))), (by with_reducible repeat (first | assumption | exact Ext.rfl' _ | exact Ext.new _ _ | refine Ext.alloc' ?_ _ | refine Ext.drew' ?_ | refine Ext.drewN' ?_ _ | (refine Ext.set' ?_ ?_ _; rotate_left; focus (first | omega | (simp; done) | (simp; omega))) | (refine Ext.then (b := ?_) ?_ ?_; rotate_left; rotate_left; assumption)))⟩, by simp [intOf]; omega⟩
          | (go_ret; exact ⟨ret_f (fun h => by have := hat.out.1 (h k); omega), (by with_reducible repeat (first | assumption | exact Ext.rfl' _ | exact Ext.new _ _ | refine Ext.alloc' ?_ _ | refine Ext.drew' ?_ | refine Ext.drewN' ?_ _ | (refine Ext.set' ?_ ?_ _; rotate_left; focus (first | omega | (simp; done) | (simp; omega))) | (refine Ext.then (b := ?_) ?_ ?_; rotate_left; rotate_left; assumption)))⟩)
      · have hat : Hid (incAt l m k ↔ 0 ≤ l[k] ∧ l[k] < m) := ⟨fun h => ⟨(h hlt).1, (h hlt).2.1⟩, fun h _ => ⟨h.1, h.2, fun h' => absurd h' hk0⟩⟩
        generalize l[k] = x at *
        clear hp' hr
        go_wp2_with fail
        all_goals first
          | exact ⟨⟨k + 1, by omega, by go_num, Lib.hid (below_succ hi.out (hat.out.2 (by omega))), (by with_reducible repeat (first | assumption | exact Ext.rfl' _ | exact Ext.new _ _ | refine Ext.alloc' ?_ _ | refine Ext.drew' ?_ | refine Ext.drewN' ?_ _ | (refine Ext.set' ?_ ?_ _; rotate_left; focus (first | omega | (simp; done) | (simp; omega))) | (refine Ext.then (b := ?_) ?_ ?_; rotate_left; rotate_left; assumption)))⟩, by simp [intOf]; omega⟩
          | (go_ret; exact ⟨ret_f (fun h => by have := hat.out.1 (h k); omega), (by with_reducible repeat (first | assumption | exact Ext.rfl' _ | exact Ext.new _ _ | refine Ext.alloc' ?_ _ | refine Ext.drew' ?_ | refine Ext.drewN' ?_ _ | (refine Ext.set' ?_ ?_ _; rotate_left; focus (first | omega | (simp; done) | (simp; omega))) | (refine Ext.then (b := ?_) ?_ ?_; rotate_left; rotate_left; assumption)))⟩)
    · clear hr
      go_wp2_with fail
      go_ret
      exact ⟨ret_t fun j => by
        by_cases h : j < k
        · exact hi.out j h
        · exact fun h' => absurd h' (by omega), (by with_reducible repeat (first | assumption | exact Ext.rfl' _ | exact Ext.new _ _ | refine Ext.alloc' ?_ _ | refine Ext.drew' ?_ | refine Ext.drewN' ?_ _ | (refine Ext.set' ?_ ?_ _; rotate_left; focus (first | omega | (simp; done) | (simp; omega))) | (refine Ext.then (b := ?_) ?_ ?_; rotate_left; rotate_left; assumption)))⟩
mutual
def Thing.formed : Thing → Prop
  | .mk c v p => (∀ x ∈ v, GoodP x.n) ∧ Inc c 64 ∧ Inc (v.map Val.attr) 32 ∧ formeds p
def formeds : List Thing → Prop
  | [] => True
  | x :: xs => x.formed ∧ formeds xs
end
theorem formeds_iff : ∀ {l : List Thing}, formeds l ↔ ∀ p ∈ l, p.formed
  | [] => by simp [formeds]
  | x :: xs => by simp [formeds, formeds_iff]
theorem Thing.formed_iff (t : Thing) : t.formed ↔ (∀ x ∈ t.vals, GoodP x.n) ∧ Inc t.cls 64 ∧ Inc (t.vals.map Val.attr) 32 ∧ ∀ p ∈ t.parts, p.formed := by
  cases t with
  | mk c v p => simp only [Thing.formed, Thing.cls, Thing.vals, Thing.parts, formeds_iff]
theorem formed1_c (p : Thing) (cs : List Value) (w : World) (hr : ThingR (ph w) cs p)
    (ih : ∀ (cs : List Value) (w : World), ThingR (ph w) cs p → Calls Tryz.prog 24 #[.agg cs.toArray] w (RetV w (.bool (B p.formed)))) :
    Calls Tryz.prog 52 #[.agg cs.toArray] w (RetV w (.bool (! B p.formed))) := by
  obtain ⟨a1, c1, a2, c2, a3, c3, rfl, -, -, -, -, -, -⟩ := hr.form
  have H := Lib.hid ih; clear ih
  go_enter Tryz.func52, Tryz.ntmps52
  go_wp2_with fail
  refine (H.out _ _ (mono_ThingR _ _ _ _ (Ext.ple (by with_reducible repeat (first | assumption | exact Ext.rfl' _ | exact Ext.new _ _ | refine Ext.alloc' ?_ _ | refine Ext.drew' ?_ | refine Ext.drewN' ?_ _ | (refine Ext.set' ?_ ?_ _; rotate_left; focus (first | omega | (simp; done) | (simp; omega))) | (refine Ext.then (b := ?_) ?_ ?_; rotate_left; rotate_left; assumption)))) hr)).mono ?_
  rintro e w1 ⟨rfl, hb1⟩
  generalize B p.formed = b at *
  go_wp2_with fail
  go_ret
  exact ⟨rfl, (by with_reducible repeat (first | assumption | exact Ext.rfl' _ | exact Ext.new _ _ | refine Ext.alloc' ?_ _ | refine Ext.drew' ?_ | refine Ext.drewN' ?_ _ | (refine Ext.set' ?_ ?_ _; rotate_left; focus (first | omega | (simp; done) | (simp; omega))) | (refine Ext.then (b := ?_) ?_ ?_; rotate_left; rotate_left; assumption)))⟩
set_option maxHeartbeats 1000000 in
theorem formed_c (t : Thing) : ∀ (cs : List Value) (w : World), ThingR (ph w) cs t → t.bulk ≤ 1000000 →
    Calls Tryz.prog 24 #[.agg cs.toArray] w (RetV w (.bool (B t.formed))) := by
  induction t using Thing.ind with
  | h t ih =>
    intro cs w hr hs
    obtain ⟨a1, c1, a2, c2, a3, c3, rfl, l1, l2, l3, hc, hv, hp⟩ := hr.form
    have H := Lib.hid ih; clear ih
    have hvl : t.vals.length ≤ 1000000 := by rw [Thing.bulk_eq] at hs; omega
    go_enter Tryz.func24, Tryz.ntmps24
    go_wp2_with fail
    go_loopw [3, 10] (fun l i wr => ∃ k : Nat, k ≤ t.vals.length ∧ i = .int .i64 k ∧ OwnI (w.heap.size + 1) wr l ((t.vals.map Val.attr).take k) ∧ Hid (∀ x ∈ t.vals.take k, GoodP x.n) ∧
      Own wr w.heap.size #[.slice a1 t.cls.length c1, .slice a2 t.vals.length c2, .slice a3 t.parts.length c3] 27 ∧ Ext w wr) (fun _ i _ => t.vals.length - (intOf i).toNat)
    case atStart => exact ⟨0, Nat.zero_le _, rfl, OwnS.nil _ _ _ _ _ _, Lib.hid (by simp), (by repeat (first | (with_reducible assumption) | (with_reducible exact Own.new _ _ _) | (with_reducible refine Own.new' _ _ _ ?_; (focus (simp; done))) | (with_reducible refine Own.alloc ?_ _) | (with_reducible refine Own.drew ?_) | (with_reducible refine Own.drewN ?_ _) | (with_reducible refine Own.keep (w := ?_) ?_ ?_; rotate_left; (with_reducible assumption); (exact (by with_reducible repeat (first | assumption | exact Ext.rfl' _ | exact Ext.new _ _ | refine Ext.alloc' ?_ _ | refine Ext.drew' ?_ | refine Ext.drewN' ?_ _ | (refine Ext.set' ?_ ?_ _; rotate_left; focus (first | omega | (simp; done) | (simp; omega))) | (refine Ext.then (b := ?_) ?_ ?_; rotate_left; rotate_left; assumption))))) | (with_reducible refine Own.keep (w := ?_) ?_ ?_; rotate_left; rotate_left; (with_reducible assumption)))), (by with_reducible repeat (first | assumption | exact Ext.rfl' _ | exact Ext.new _ _ | refine Ext.alloc' ?_ _ | refine Ext.drew' ?_ | refine Ext.drewN' ?_ _ | (refine Ext.set' ?_ ?_ _; rotate_left; focus (first | omega | (simp; done) | (simp; omega))) | (refine Ext.then (b := ?_) ?_ ?_; rotate_left; rotate_left; assumption)))⟩
    case round =>
      obtain ⟨k, hk, rfl, hl, hg, ho, hb⟩ := hrel
      have hol := ho.lt
      by_cases hlt : k < t.vals.length
      · have hv' := hv.mono mono_ValR hb.ple
        obtain ⟨b, o, rfl, h0, h1, h2, i0, i1, i2, hbl⟩ := ValsR.at hv' k hlt
        clear hv'
        go_wp2_with (at_builtin; refine wpList_append_S (E := IntR) (H := noH) (base := w.heap.size + 1) (ys := [t.vals[k].attr]) rfl _ _ 22 3 rfl (.int .i64 0) 8 Tryz.underlying22 infoInt rfl rfl rfl (hl.keep (by with_reducible repeat (first | assumption | exact Ext.rfl' _ | exact Ext.new _ _ | refine Ext.alloc' ?_ _ | refine Ext.drew' ?_ | refine Ext.drewN' ?_ _ | (refine Ext.set' ?_ ?_ _; rotate_left; focus (first | omega | (simp; done) | (simp; omega))) | (refine Ext.then (b := ?_) ?_ ?_; rotate_left; rotate_left; assumption)))) ?c1 (noH_le _) ?c2 one_IntR ?c3 ?c4 ?c5)
        case c1 => exact Src.lit1 ⟨rfl, i0⟩ rfl (fun j => by simp [go_sem])
        case c2 => simp; omega
        case c3 => simp; omega
        case c4 => simp; omega
        case c5 =>
          intro l' w1 hl1 hg1 hn1
          have hne := hl.lt
          have ho1 := Own.grown (ho.keep (by with_reducible repeat (first | assumption | exact Ext.rfl' _ | exact Ext.new _ _ | refine Ext.alloc' ?_ _ | refine Ext.drew' ?_ | refine Ext.drewN' ?_ _ | (refine Ext.set' ?_ ?_ _; rotate_left; focus (first | omega | (simp; done) | (simp; omega))) | (refine Ext.then (b := ?_) ?_ ?_; rotate_left; rotate_left; assumption)))) hg1 (fun e => by have := hne _ e.symm; omega)
          have ho2 := Own.grown (Own.alloc (Own.new wr _ _) _) hg1 (fun e => by have := hne _ e.symm; omega)
          have hb1 : Ext w w1 := Ext.grown (by with_reducible repeat (first | assumption | exact Ext.rfl' _ | exact Ext.new _ _ | refine Ext.alloc' ?_ _ | refine Ext.drew' ?_ | refine Ext.drewN' ?_ _ | (refine Ext.set' ?_ ?_ _; rotate_left; focus (first | omega | (simp; done) | (simp; omega))) | (refine Ext.then (b := ?_) ?_ ?_; rotate_left; rotate_left; assumption))) hg1 (fun k e => by have := hne _ e; omega)
          rw [← take_snoc' (List.map Val.attr t.vals) k _ (by simp [hlt])] at hl1
          clear hg1 hn1 hl ho
          obtain ⟨hoc, hof⟩ := ho2.facts
          have hl2 := ho2.lt
          go_wp2_with fail
          refine (ratValid_c t.vals[k].n _ i1 i2).mono ?_
          rintro e w2 ⟨rfl, hb2⟩
          have hl2' := hl1.keep hb2
          have ho3 := ho1.keep hb2
          have ho4 := ho2.keep hb2
          replace hb2 : Ext w w2 := (by with_reducible repeat (first | assumption | exact Ext.rfl' _ | exact Ext.new _ _ | refine Ext.alloc' ?_ _ | refine Ext.drew' ?_ | refine Ext.drewN' ?_ _ | (refine Ext.set' ?_ ?_ _; rotate_left; focus (first | omega | (simp; done) | (simp; omega))) | (refine Ext.then (b := ?_) ?_ ?_; rotate_left; rotate_left; assumption)))
          obtain ⟨hoc, hof⟩ := ho4.facts
          have hl2 := ho4.lt
          clear ho1 ho2 hb1 hl1 ho4
          by_cases hg1 : GoodP t.vals[k].n
          · rw [ErrIf_t hg1.1]
            have hg3 := hg1.2
            have HG := Lib.hid hg1; clear hg1
            go_wp2_with fail
            go_roundw
            case rel => exact ⟨k + 1, by omega, by go_num, hl2', take_all hlt HG.out hg.out, ho3, hb2⟩
            case measure => simp [intOf]; omega
          · have HG := Lib.hid hg1
            by_cases hr1 : RatOk t.vals[k].n
            · rw [ErrIf_t hr1]
              have hr2 : 65536 < t.vals[k].n.den := by
                by_cases h : 65536 < t.vals[k].n.den
                · exact h
                · exact absurd ⟨hr1, by omega⟩ hg1
              clear hg1 hr1
              go_wp2_with fail
              go_ret
              exact ⟨ret_f (fun h => HG.out (((Thing.formed_iff t).1 h).1 _ (List.getElem_mem hlt))), (by with_reducible repeat (first | assumption | exact Ext.rfl' _ | exact Ext.new _ _ | refine Ext.alloc' ?_ _ | refine Ext.drew' ?_ | refine Ext.drewN' ?_ _ | (refine Ext.set' ?_ ?_ _; rotate_left; focus (first | omega | (simp; done) | (simp; omega))) | (refine Ext.then (b := ?_) ?_ ?_; rotate_left; rotate_left; assumption)))⟩
            · rw [ErrIf_f hr1]
              clear hg1 hr1
              go_wp2_with fail
              go_ret
              exact ⟨ret_f (fun h => HG.out (((Thing.formed_iff t).1 h).1 _ (List.getElem_mem hlt))), (by with_reducible repeat (first | assumption | exact Ext.rfl' _ | exact Ext.new _ _ | refine Ext.alloc' ?_ _ | refine Ext.drew' ?_ | refine Ext.drewN' ?_ _ | (refine Ext.set' ?_ ?_ _; rotate_left; focus (first | omega | (simp; done) | (simp; omega))) | (refine Ext.then (b := ?_) ?_ ?_; rotate_left; rotate_left; assumption)))⟩
      · obtain rfl : k = t.vals.length := by omega
        replace hg := Lib.hid (take_done (by omega) hg.out)
        rw [show List.take t.vals.length (List.map Val.attr t.vals) = List.map Val.attr t.vals from List.take_of_length_le (by simp)] at hl
        obtain ⟨hoc, hof⟩ := ho.facts
        have hF := Lib.hid (Thing.formed_iff t)
        go_wp2_with fail
        refine (increasing_c _ t.cls 64 _ (hc.mono mono_IntR hb.ple)).mono ?_
        rintro e w2 ⟨rfl, hb2⟩
        have hl2 := hl.keep hb2
        have ho2 := ho.keep hb2
        have hb3 : Ext w w2 := (by with_reducible repeat (first | assumption | exact Ext.rfl' _ | exact Ext.new _ _ | refine Ext.alloc' ?_ _ | refine Ext.drew' ?_ | refine Ext.drewN' ?_ _ | (refine Ext.set' ?_ ?_ _; rotate_left; focus (first | omega | (simp; done) | (simp; omega))) | (refine Ext.then (b := ?_) ?_ ?_; rotate_left; rotate_left; assumption)))
        clear hb2 hoc hof
        cases hB1 : B (Inc t.cls 64) with
        | false =>
          go_wp2_with fail
          go_ret
          exact ⟨ret_f (fun h => by have := B_t (hF.out.1 h).2.1; rw [hB1] at this; cases this), (by with_reducible repeat (first | assumption | exact Ext.rfl' _ | exact Ext.new _ _ | refine Ext.alloc' ?_ _ | refine Ext.drew' ?_ | refine Ext.drewN' ?_ _ | (refine Ext.set' ?_ ?_ _; rotate_left; focus (first | omega | (simp; done) | (simp; omega))) | (refine Ext.then (b := ?_) ?_ ?_; rotate_left; rotate_left; assumption)))⟩
        | true =>
          go_wp2_with fail
          refine (increasing_c _ _ 32 _ (hl2.rep mono_IntR (noH_le _))).mono ?_
          rintro e w3 ⟨rfl, hb4⟩
          have ho3 := ho2.keep hb4
          replace hb3 : Ext w w3 := (by with_reducible repeat (first | assumption | exact Ext.rfl' _ | exact Ext.new _ _ | refine Ext.alloc' ?_ _ | refine Ext.drew' ?_ | refine Ext.drewN' ?_ _ | (refine Ext.set' ?_ ?_ _; rotate_left; focus (first | omega | (simp; done) | (simp; omega))) | (refine Ext.then (b := ?_) ?_ ?_; rotate_left; rotate_left; assumption)))
          obtain ⟨hoc, hof⟩ := ho3.facts
          clear hb4 ho2
          cases hB2 : B (Inc (t.vals.map Val.attr) 32) with
          | false =>
            go_wp2_with fail
            go_ret
            exact ⟨ret_f (fun h => by have := B_t (hF.out.1 h).2.2.1; rw [hB2] at this; cases this), (by with_reducible repeat (first | assumption | exact Ext.rfl' _ | exact Ext.new _ _ | refine Ext.alloc' ?_ _ | refine Ext.drew' ?_ | refine Ext.drewN' ?_ _ | (refine Ext.set' ?_ ?_ _; rotate_left; focus (first | omega | (simp; done) | (simp; omega))) | (refine Ext.then (b := ?_) ?_ ?_; rotate_left; rotate_left; assumption)))⟩
          | true =>
            go_wp2_with fail
            refine (containsFunc_thing (fun p => ! B p.formed) 52 #[] _ t.parts _ (hp.mono mono_ThingR hb3.ple) (fun args w => enterFn Tryz.func52 rfl rfl args w) ?_).mono ?_
            · intro w' hw' x hx cs hcs
              simpa using formed1_c x cs w' hcs fun cs w hr => H.out x hx cs w hr (by have := Thing.part_le hx; omega)
            rintro e w4 ⟨rfl, hb5⟩
            have hA : Hid (t.parts.any (fun p => ! B p.formed) = false ↔ t.formed) := by
              show _ ↔ _
              rw [hF.out, List.any_eq_false]
              constructor
              · intro h
                exact ⟨hg.out, B_iff.1 hB1, B_iff.1 hB2, fun p hp => by have := h p hp; simpa [B_iff] using this⟩
              · rintro ⟨-, -, -, h⟩ p hp
                simp [B_t (h p hp)]
            generalize t.parts.any (fun p => ! B p.formed) = b at *
            clear hB1 hB2
            go_wp2_with fail
            go_ret
            exact ⟨ret_B (by rw [← hA.out]; simp), (by with_reducible repeat (first | assumption | exact Ext.rfl' _ | exact Ext.new _ _ | refine Ext.alloc' ?_ _ | refine Ext.drew' ?_ | refine Ext.drewN' ?_ _ | (refine Ext.set' ?_ ?_ _; rotate_left; focus (first | omega | (simp; done) | (simp; omega))) | (refine Ext.then (b := ?_) ?_ ?_; rotate_left; rotate_left; assumption)))⟩
/-- nodes that are left behind a thing at some level; -1: there are not enough, or it is nested too deeply -/
def nodesV (t : Thing) (lv lf : Int) : Int := if (t.size : Int) ≤ lf ∧ lv + t.deep ≤ 9 then lf - t.size else -1
set_option maxHeartbeats 1000000 in
theorem nodes_c (t : Thing) : ∀ (cs : List Value) (w : World) (lv lf : Int), ThingR (ph w) cs t → 1 ≤ lv → lv ≤ 9 → 0 ≤ lf → lf ≤ 96 →
    Calls Tryz.prog 50 #[.agg cs.toArray, .int .i64 lv, .int .i64 lf] w (RetV w (.int .i64 (nodesV t lv lf))) := by
  induction t using Thing.ind with
  | h t ih =>
    intro cs w lv lf hr hv1 hv2 hf1 hf2
    obtain ⟨a1, c1, a2, c2, a3, c3, rfl, l1, l2, l3, -, -, hp⟩ := hr.form
    have H := Lib.hid ih; clear ih
    have hsz := Lib.hid (Thing.size_eq t)
    have hdp := Lib.hid (Thing.deep_eq t)
    by_cases hbad : 8 < lv ∨ lf < 1
    · have hn : Hid (nodesV t lv lf = -1) := by
        show _ = _
        have h1 := hsz.out; have h2 := hdp.out
        rw [nodesV, if_neg (by omega)]
      go_enter Tryz.func50, Tryz.ntmps50
      go_wp2_with fail
      all_goals first
        | (exfalso; omega)
        | (go_ret; exact ⟨ret_int hn.out.symm, (by with_reducible repeat (first | assumption | exact Ext.rfl' _ | exact Ext.new _ _ | refine Ext.alloc' ?_ _ | refine Ext.drew' ?_ | refine Ext.drewN' ?_ _ | (refine Ext.set' ?_ ?_ _; rotate_left; focus (first | omega | (simp; done) | (simp; omega))) | (refine Ext.then (b := ?_) ?_ ?_; rotate_left; rotate_left; assumption)))⟩)
    · go_enter Tryz.func50, Tryz.ntmps50
      go_wp2_with fail
      all_goals first
        | (exfalso; omega)
        | skip
      go_loopw [2, 20] (fun l i wr => ∃ k : Nat, k ≤ t.parts.length ∧ i = .int .i64 k ∧ l = .int .i64 (lf - 1 - sumN Thing.size (t.parts.take k)) ∧ 0 ≤ lf - 1 - sumN Thing.size (t.parts.take k) ∧
        Hid (∀ p ∈ t.parts.take k, lv + 1 + p.deep ≤ 9) ∧ Ext w wr) (fun _ i _ => t.parts.length - (intOf i).toNat)
      case atStart => exact ⟨0, Nat.zero_le _, rfl, by simp [sumN], by simp [sumN]; omega, Lib.hid (by simp), (by with_reducible repeat (first | assumption | exact Ext.rfl' _ | exact Ext.new _ _ | refine Ext.alloc' ?_ _ | refine Ext.drew' ?_ | refine Ext.drewN' ?_ _ | (refine Ext.set' ?_ ?_ _; rotate_left; focus (first | omega | (simp; done) | (simp; omega))) | (refine Ext.then (b := ?_) ?_ ?_; rotate_left; rotate_left; assumption)))⟩
      case round =>
        obtain ⟨k, hk, rfl, rfl, hpos, hd, hb⟩ := hrel
        by_cases hlt : k < t.parts.length
        · have hp' := hp.mono mono_ThingR hb.ple
          obtain ⟨b, o, b1, d1, b2, d2, b3, d3, rfl, h0, h1, h2, hE, hbl⟩ := ThingsR.at hp' k hlt
          have H3 := Lib.hid (sumN_take Thing.size t.parts k hlt)
          have hsl := Lib.hid (sumN_take_le Thing.size t.parts (k + 1))
          have hmx := Lib.hid (maxN_mem Thing.deep (List.getElem_mem hlt))
          clear hp hp'
          go_wp2_with fail
          refine (H.out _ (List.getElem_mem hlt) _ _ (lv + 1) _ (mono_ThingR _ _ _ _ (Ext.ple (by with_reducible repeat (first | assumption | exact Ext.rfl' _ | exact Ext.new _ _ | refine Ext.alloc' ?_ _ | refine Ext.drew' ?_ | refine Ext.drewN' ?_ _ | (refine Ext.set' ?_ ?_ _; rotate_left; focus (first | omega | (simp; done) | (simp; omega))) | (refine Ext.then (b := ?_) ?_ ?_; rotate_left; rotate_left; assumption)))) hE) (by omega) (by omega) (by omega) (by omega)).mono ?_
          rintro e w1 ⟨rfl, hb1⟩
          by_cases hok : (t.parts[k].size : Int) ≤ lf - 1 - sumN Thing.size (t.parts.take k) ∧ lv + 1 + t.parts[k].deep ≤ 9
          · have hn : nodesV t.parts[k] (lv + 1) (lf - 1 - sumN Thing.size (t.parts.take k)) = lf - 1 - sumN Thing.size (t.parts.take k) - t.parts[k].size := by rw [nodesV, if_pos hok]
            rw [hn]
            obtain ⟨hok1, hok2⟩ := hok
            have H2 := Lib.hid hok2
            clear hn hok2
            go_wp2_with fail
            go_roundw
            case rel =>
              have h3 := H3.out
              exact ⟨k + 1, by omega, by go_num, by rw [h3]; go_num, by rw [h3]; omega, take_all hlt H2.out hd.out, (by with_reducible repeat (first | assumption | exact Ext.rfl' _ | exact Ext.new _ _ | refine Ext.alloc' ?_ _ | refine Ext.drew' ?_ | refine Ext.drewN' ?_ _ | (refine Ext.set' ?_ ?_ _; rotate_left; focus (first | omega | (simp; done) | (simp; omega))) | (refine Ext.then (b := ?_) ?_ ?_; rotate_left; rotate_left; assumption)))⟩
            case measure => simp [intOf]; omega
          · have hn : nodesV t.parts[k] (lv + 1) (lf - 1 - sumN Thing.size (t.parts.take k)) = -1 := by rw [nodesV, if_neg hok]
            rw [hn]
            have HO := Lib.hid hok
            clear hn hok
            go_wp2_with fail
            go_ret
            refine ⟨ret_int ?_, (by with_reducible repeat (first | assumption | exact Ext.rfl' _ | exact Ext.new _ _ | refine Ext.alloc' ?_ _ | refine Ext.drew' ?_ | refine Ext.drewN' ?_ _ | (refine Ext.set' ?_ ?_ _; rotate_left; focus (first | omega | (simp; done) | (simp; omega))) | (refine Ext.then (b := ?_) ?_ ?_; rotate_left; rotate_left; assumption)))⟩
            have h1 := hsz.out; have h2 := hdp.out; have h3 := H3.out; have h4 := hsl.out; have h5 := hmx.out; have h6 := HO.out
            rw [nodesV, if_neg (by omega)]
        · have ht : Hid (t.parts.take k = t.parts) := List.take_of_length_le (by omega)
          clear hp
          go_wp2_with fail
          go_ret
          refine ⟨ret_int ?_, (by with_reducible repeat (first | assumption | exact Ext.rfl' _ | exact Ext.new _ _ | refine Ext.alloc' ?_ _ | refine Ext.drew' ?_ | refine Ext.drewN' ?_ _ | (refine Ext.set' ?_ ?_ _; rotate_left; focus (first | omega | (simp; done) | (simp; omega))) | (refine Ext.then (b := ?_) ?_ ?_; rotate_left; rotate_left; assumption)))⟩
          have h1 := hsz.out; have h2 := hdp.out
          have h3 := hd.out
          rw [ht.out] at h3 hpos ⊢
          have h4 : lv + t.deep ≤ 9 := by
            have : maxN Thing.deep t.parts ≤ (8 - lv).toNat := maxN_le (fun p hp => by have := h3 p hp; omega)
            omega
          rw [nodesV, if_pos (by omega)]; omega
theorem limited_c (t : Thing) (cs : List Value) (w : World) (hr : ThingR (ph w) cs t) :
    Calls Tryz.prog 23 #[.agg cs.toArray] w (RetV w (.bool (B (t.size ≤ 96 ∧ t.deep ≤ 8)))) := by
  obtain ⟨a1, c1, a2, c2, a3, c3, rfl, -, -, -, -, -, -⟩ := hr.form
  have hn : Hid (0 ≤ nodesV t 1 96 ↔ (t.size ≤ 96 ∧ t.deep ≤ 8)) := by
    show _ ↔ _
    unfold nodesV; split <;> omega
  go_enter Tryz.func23, Tryz.ntmps23
  go_wp2_with fail
  refine (nodes_c t _ _ 1 96 (mono_ThingR _ _ _ _ (Ext.ple (by with_reducible repeat (first | assumption | exact Ext.rfl' _ | exact Ext.new _ _ | refine Ext.alloc' ?_ _ | refine Ext.drew' ?_ | refine Ext.drewN' ?_ _ | (refine Ext.set' ?_ ?_ _; rotate_left; focus (first | omega | (simp; done) | (simp; omega))) | (refine Ext.then (b := ?_) ?_ ?_; rotate_left; rotate_left; assumption)))) hr) (by omega) (by omega) (by omega) (by omega)).mono ?_
  rintro e w1 ⟨rfl, hb1⟩
  generalize nodesV t 1 96 = n at *
  go_wp2_with fail
  go_ret
  exact ⟨ret_B (by rw [← hn.out]; simp), (by with_reducible repeat (first | assumption | exact Ext.rfl' _ | exact Ext.new _ _ | refine Ext.alloc' ?_ _ | refine Ext.drew' ?_ | refine Ext.drewN' ?_ _ | (refine Ext.set' ?_ ?_ _; rotate_left; focus (first | omega | (simp; done) | (simp; omega))) | (refine Ext.then (b := ?_) ?_ ?_; rotate_left; rotate_left; assumption)))⟩
/-- what Valid returns -/
noncomputable def validV (t : Thing) : Int := @ite _ (t.size ≤ 96 ∧ t.deep ≤ 8) (Classical.propDecidable _) (ErrIf t.formed 1) 4
theorem valid_c (t : Thing) (cs : List Value) (w : World) (hr : ThingR (ph w) cs t) (hs : t.bulk ≤ 1000000) :
    Calls Tryz.prog 10 #[.agg cs.toArray] w (RetV w (.int .i64 (validV t))) := by
  obtain ⟨a1, c1, a2, c2, a3, c3, rfl, -, -, -, -, -, -⟩ := hr.form
  go_enter Tryz.func10, Tryz.ntmps10
  go_wp2_with fail
  refine (limited_c t _ _ (mono_ThingR _ _ _ _ (Ext.ple (by with_reducible repeat (first | assumption | exact Ext.rfl' _ | exact Ext.new _ _ | refine Ext.alloc' ?_ _ | refine Ext.drew' ?_ | refine Ext.drewN' ?_ _ | (refine Ext.set' ?_ ?_ _; rotate_left; focus (first | omega | (simp; done) | (simp; omega))) | (refine Ext.then (b := ?_) ?_ ?_; rotate_left; rotate_left; assumption)))) hr)).mono ?_
  rintro e w1 ⟨rfl, hb1⟩
  have ho := Own.keep (Own.new w _ _) hb1
  have hb : Ext w w1 := (by with_reducible repeat (first | assumption | exact Ext.rfl' _ | exact Ext.new _ _ | refine Ext.alloc' ?_ _ | refine Ext.drew' ?_ | refine Ext.drewN' ?_ _ | (refine Ext.set' ?_ ?_ _; rotate_left; focus (first | omega | (simp; done) | (simp; omega))) | (refine Ext.then (b := ?_) ?_ ?_; rotate_left; rotate_left; assumption)))
  obtain ⟨hoc, hof⟩ := ho.facts
  by_cases hl : t.size ≤ 96 ∧ t.deep ≤ 8
  · rw [B_t hl]
    have hV : Hid (validV t = ErrIf t.formed 1) := by show _ = _; rw [validV, if_pos hl]
    clear hl hb1
    go_wp2_with fail
    refine (formed_c t _ _ (mono_ThingR _ _ _ _ (Ext.ple (by with_reducible repeat (first | assumption | exact Ext.rfl' _ | exact Ext.new _ _ | refine Ext.alloc' ?_ _ | refine Ext.drew' ?_ | refine Ext.drewN' ?_ _ | (refine Ext.set' ?_ ?_ _; rotate_left; focus (first | omega | (simp; done) | (simp; omega))) | (refine Ext.then (b := ?_) ?_ ?_; rotate_left; rotate_left; assumption)))) hr) hs).mono ?_
    rintro e w2 ⟨rfl, hb2⟩
    by_cases hF : t.formed
    · rw [B_t hF]
      have HF := Lib.hid hF; clear hF
      go_wp2_with fail
      go_ret
      exact ⟨ret_int (by rw [hV.out, ErrIf_t HF.out]), (by with_reducible repeat (first | assumption | exact Ext.rfl' _ | exact Ext.new _ _ | refine Ext.alloc' ?_ _ | refine Ext.drew' ?_ | refine Ext.drewN' ?_ _ | (refine Ext.set' ?_ ?_ _; rotate_left; focus (first | omega | (simp; done) | (simp; omega))) | (refine Ext.then (b := ?_) ?_ ?_; rotate_left; rotate_left; assumption)))⟩
    · rw [B_f hF]
      have HF := Lib.hid hF; clear hF
      go_wp2_with fail
      go_ret
      exact ⟨ret_int (by rw [hV.out, ErrIf_f HF.out]), (by with_reducible repeat (first | assumption | exact Ext.rfl' _ | exact Ext.new _ _ | refine Ext.alloc' ?_ _ | refine Ext.drew' ?_ | refine Ext.drewN' ?_ _ | (refine Ext.set' ?_ ?_ _; rotate_left; focus (first | omega | (simp; done) | (simp; omega))) | (refine Ext.then (b := ?_) ?_ ?_; rotate_left; rotate_left; assumption)))⟩
  · rw [B_f hl]
    have hV : Hid (validV t = 4) := by show _ = _; rw [validV, if_neg hl]
    clear hl hb1
    go_wp2_with fail
    go_ret
    exact ⟨ret_int hV.out.symm, (by with_reducible repeat (first | assumption | exact Ext.rfl' _ | exact Ext.new _ _ | refine Ext.alloc' ?_ _ | refine Ext.drew' ?_ | refine Ext.drewN' ?_ _ | (refine Ext.set' ?_ ?_ _; rotate_left; focus (first | omega | (simp; done) | (simp; omega))) | (refine Ext.then (b := ?_) ?_ ?_; rotate_left; rotate_left; assumption)))⟩
end Go.Proofs.YtnhcplmcddlgnaaGreat
