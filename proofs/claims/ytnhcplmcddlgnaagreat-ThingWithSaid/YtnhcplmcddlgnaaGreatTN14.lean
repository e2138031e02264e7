/- The reference's formed, Valid and Value.; Normal of both parts; Same.; priorartlaw06.things: four things of bounded bulk.; priorartref01.SameBytes.; priorartlaw06.lives. -/
import Derived.Test.YtnhcplmcddlgnaaGreatTN00
import Derived.Test.YtnhcplmcddlgnaaGreatTN01
import Derived.Test.YtnhcplmcddlgnaaGreatTN02
import Derived.Test.YtnhcplmcddlgnaaGreatTN03
import Derived.Test.YtnhcplmcddlgnaaGreatTN05
import Derived.Test.YtnhcplmcddlgnaaGreatTN12
import Derived.Test.YtnhcplmcddlgnaaGreatTN13
namespace Go.Proofs.YtnhcplmcddlgnaaGreat
open Go.RowKit
set_option linter.unusedSimpArgs false
set_option linter.unusedVariables false
theorem inc_of {l : List Int} {m : Int} (h : ∀ j, j < l.length → incAt l m j) : Inc l m := fun j hj => h j hj hj
set_option maxRecDepth 100000 in
set_option maxHeartbeats 1000000 in
theorem formed_r (t : Thing) : ∀ (cs : List Value) (w : World), ThingR (ph w) cs t →
    Calls Tryz.prog 46 #[.agg cs.toArray] w (RetV w (.bool (B t.formed))) := by
  induction t using Thing.ind with
  | h t ih =>
    intro cs w hr
    obtain ⟨a1, c1, a2, c2, a3, c3, rfl, l1, l2, l3, hc, hv, hp⟩ := hr.form
    have HI := Lib.hid ih; clear ih
    have hF := Lib.hid (Thing.formed_iff t)
    go_enter Tryz.func46, Tryz.ntmps46
    go_wp2_with fail
    go_loopw [3] (fun i wr => ∃ k : Nat, k ≤ t.cls.length ∧ i = .int .i64 k ∧ Hid (∀ j, j < k → incAt t.cls 64 j) ∧ Own wr w.heap.size #[.slice a1 t.cls.length c1, .slice a2 t.vals.length c2, .slice a3 t.parts.length c3] 27 ∧ Ext w wr) (fun i _ => t.cls.length - (intOf i).toNat)
    case atStart => exact ⟨0, Nat.zero_le _, rfl, Lib.hid (by simp), (by repeat (first | (with_reducible assumption) | (with_reducible exact Own.new _ _ _) | (with_reducible refine Own.new' _ _ _ ?_; (focus (simp; done))) | (with_reducible refine Own.alloc ?_ _) | (with_reducible refine Own.drew ?_) | (with_reducible refine Own.drewN ?_ _) | (with_reducible refine Own.keep (w := ?_) ?_ ?_; rotate_left; (with_reducible assumption); (exact (by with_reducible repeat (first | assumption | exact Ext.rfl' _ | exact Ext.new _ _ | refine Ext.alloc' ?_ _ | refine Ext.drew' ?_ | refine Ext.drewN' ?_ _ | (refine Ext.set' ?_ ?_ _; rotate_left; focus (first | omega | (simp; done) | (simp; omega))) | (refine Ext.then (b := ?_) ?_ ?_; rotate_left; rotate_left; assumption))))) | (with_reducible refine Own.keep (w := ?_) ?_ ?_; rotate_left; rotate_left; (with_reducible assumption)))), (by with_reducible repeat (first | assumption | exact Ext.rfl' _ | exact Ext.new _ _ | refine Ext.alloc' ?_ _ | refine Ext.drew' ?_ | refine Ext.drewN' ?_ _ | (refine Ext.set' ?_ ?_ _; rotate_left; focus (first | omega | (simp; done) | (simp; omega))) | (refine Ext.then (b := ?_) ?_ ?_; rotate_left; rotate_left; assumption)))⟩
    case round =>
      obtain ⟨k, hk, rfl, hi, ho, hb⟩ := hrel
      obtain ⟨q1, q2⟩ := ho.facts
      have q3 := ho.lt
      by_cases hlt : k < t.cls.length
      · have hc' := hc.mono mono_IntR hb.ple
        obtain ⟨b, o, rfl, h0, hi64, hbl⟩ := IntsR.at hc' k hlt
        have hkk : (¬ 0 < k ∧ (incAt t.cls 64 k ↔ 0 ≤ t.cls[k] ∧ t.cls[k] < 64)) ∨ (0 < k ∧ ∃ y, wr.cell? ⟨b, o + (k - 1), none⟩ = some (.int .i64 y) ∧ (incAt t.cls 64 k ↔ 0 ≤ t.cls[k] ∧ t.cls[k] < 64 ∧ y < t.cls[k])) := by
          by_cases hk0 : 0 < k
          · obtain ⟨b', o', he, h0', -, -⟩ := IntsR.at hc' (k - 1) (by omega)
            simp only [Option.some.injEq, Addr.mk.injEq, and_true] at he
            obtain ⟨rfl, rfl⟩ := he
            exact .inr ⟨hk0, _, h0', ⟨fun h => ⟨(h hlt).1, (h hlt).2.1, (h hlt).2.2 hk0⟩, fun h _ => ⟨h.1, h.2.1, fun _ => h.2.2⟩⟩⟩
          · exact .inl ⟨hk0, ⟨fun h => ⟨(h hlt).1, (h hlt).2.1⟩, fun h _ => ⟨h.1, h.2, fun h' => absurd h' hk0⟩⟩⟩
        generalize t.cls[k] = x at *
        clear hc hc'
        have bad : ¬ incAt t.cls 64 k → RetV w (.bool (B t.formed)) (.returned (.bool false)) wr := fun h => ⟨ret_f (fun h' => h ((hF.out.1 h').2.1 k)), hb⟩
        have good : incAt t.cls 64 k → ∀ j, j < k + 1 → incAt t.cls 64 j := fun h => below_succ hi.out h
        replace bad := Lib.hid bad
        replace good := Lib.hid good
        rcases hkk with ⟨hk0, hat⟩ | ⟨hk0, y, hy, hat⟩
        all_goals
          replace hat := Lib.hid hat
          by_cases g1 : x < 0
          · go_wp2_with fail
            go_ret
            exact bad.out (fun h => by have := hat.out.1 h; omega)
          · by_cases g2 : 63 < x
            · go_wp2_with fail
              go_ret
              exact bad.out (fun h => by have := hat.out.1 h; omega)
            · try by_cases g3 : x ≤ y
              all_goals
                go_wp2_with fail
                first
                | (go_ret
                   exact bad.out (fun h => by have := hat.out.1 h; omega))
                | (go_roundw
                   case rel => exact ⟨_, hlt, by go_num, Lib.hid (good.out (hat.out.2 (by omega))), (by repeat (first | (with_reducible assumption) | (with_reducible exact Own.new _ _ _) | (with_reducible refine Own.new' _ _ _ ?_; (focus (simp; done))) | (with_reducible refine Own.alloc ?_ _) | (with_reducible refine Own.drew ?_) | (with_reducible refine Own.drewN ?_ _) | (with_reducible refine Own.keep (w := ?_) ?_ ?_; rotate_left; (with_reducible assumption); (exact (by with_reducible repeat (first | assumption | exact Ext.rfl' _ | exact Ext.new _ _ | refine Ext.alloc' ?_ _ | refine Ext.drew' ?_ | refine Ext.drewN' ?_ _ | (refine Ext.set' ?_ ?_ _; rotate_left; focus (first | omega | (simp; done) | (simp; omega))) | (refine Ext.then (b := ?_) ?_ ?_; rotate_left; rotate_left; assumption))))) | (with_reducible refine Own.keep (w := ?_) ?_ ?_; rotate_left; rotate_left; (with_reducible assumption)))), (by with_reducible repeat (first | assumption | exact Ext.rfl' _ | exact Ext.new _ _ | refine Ext.alloc' ?_ _ | refine Ext.drew' ?_ | refine Ext.drewN' ?_ _ | (refine Ext.set' ?_ ?_ _; rotate_left; focus (first | omega | (simp; done) | (simp; omega))) | (refine Ext.then (b := ?_) ?_ ?_; rotate_left; rotate_left; assumption)))⟩
                   case measure => simp [intOf]; omega)
      · have hcl : Hid (Inc t.cls 64) := inc_of fun j hj => hi.out j (by omega)
        clear hc hi
        go_wp2_with fail
        go_loopw [5] (fun i wr => ∃ k : Nat, k ≤ t.vals.length ∧ i = .int .i64 k ∧ Hid (∀ x ∈ t.vals.take k, GoodP x.n) ∧ Hid (∀ j, j < k → incAt (t.vals.map Val.attr) 32 j) ∧ Own wr w.heap.size #[.slice a1 t.cls.length c1, .slice a2 t.vals.length c2, .slice a3 t.parts.length c3] 27 ∧ Ext w wr) (fun i _ => t.vals.length - (intOf i).toNat)
        case atStart => exact ⟨0, Nat.zero_le _, rfl, Lib.hid (by simp), Lib.hid (by simp), (by repeat (first | (with_reducible assumption) | (with_reducible exact Own.new _ _ _) | (with_reducible refine Own.new' _ _ _ ?_; (focus (simp; done))) | (with_reducible refine Own.alloc ?_ _) | (with_reducible refine Own.drew ?_) | (with_reducible refine Own.drewN ?_ _) | (with_reducible refine Own.keep (w := ?_) ?_ ?_; rotate_left; (with_reducible assumption); (exact (by with_reducible repeat (first | assumption | exact Ext.rfl' _ | exact Ext.new _ _ | refine Ext.alloc' ?_ _ | refine Ext.drew' ?_ | refine Ext.drewN' ?_ _ | (refine Ext.set' ?_ ?_ _; rotate_left; focus (first | omega | (simp; done) | (simp; omega))) | (refine Ext.then (b := ?_) ?_ ?_; rotate_left; rotate_left; assumption))))) | (with_reducible refine Own.keep (w := ?_) ?_ ?_; rotate_left; rotate_left; (with_reducible assumption)))), (by with_reducible repeat (first | assumption | exact Ext.rfl' _ | exact Ext.new _ _ | refine Ext.alloc' ?_ _ | refine Ext.drew' ?_ | refine Ext.drewN' ?_ _ | (refine Ext.set' ?_ ?_ _; rotate_left; focus (first | omega | (simp; done) | (simp; omega))) | (refine Ext.then (b := ?_) ?_ ?_; rotate_left; rotate_left; assumption)))⟩
        case round =>
          clear ho hb q1 q2 q3
          obtain ⟨k, hk, rfl, hg, hi, ho, hb⟩ := hrel
          obtain ⟨q1, q2⟩ := ho.facts
          have q3 := ho.lt
          by_cases hlt : k < t.vals.length
          · have hv' := hv.mono mono_ValR hb.ple
            obtain ⟨b, o, rfl, h0, h1, h2, i0, i1, i2, hbl⟩ := ValsR.at hv' k hlt
            have hml : k < (t.vals.map Val.attr).length := by simpa using hlt
            have hkk : (¬ 0 < k ∧ (incAt (t.vals.map Val.attr) 32 k ↔ 0 ≤ t.vals[k].attr ∧ t.vals[k].attr < 32)) ∨ (0 < k ∧ ∃ y, wr.cell? ⟨b, o + (k - 1) * 3, none⟩ = some (.int .i64 y) ∧ (incAt (t.vals.map Val.attr) 32 k ↔ 0 ≤ t.vals[k].attr ∧ t.vals[k].attr < 32 ∧ y < t.vals[k].attr)) := by
              by_cases hk0 : 0 < k
              · obtain ⟨b', o', he, h0', -⟩ := ValsR.at hv' (k - 1) (by omega)
                simp only [Option.some.injEq, Addr.mk.injEq, and_true] at he
                obtain ⟨rfl, rfl⟩ := he
                exact .inr ⟨hk0, _, h0', ⟨fun h => by have := h hml; simp only [List.getElem_map] at this; exact ⟨this.1, this.2.1, this.2.2 hk0⟩, fun h _ => by simp only [List.getElem_map]; exact ⟨h.1, h.2.1, fun _ => h.2.2⟩⟩⟩
              · exact .inl ⟨hk0, ⟨fun h => by have := h hml; simp only [List.getElem_map] at this; exact ⟨this.1, this.2.1⟩, fun h _ => by simp only [List.getElem_map]; exact ⟨h.1, h.2, fun h' => absurd h' hk0⟩⟩⟩
            have bad : Hid (¬ GoodP t.vals[k].n ∨ ¬ incAt (t.vals.map Val.attr) 32 k → ∀ w', Ext w w' → RetV w (.bool (B t.formed)) (.returned (.bool false)) w') := fun h w' hw' => ⟨ret_f (fun h' => by
              rcases h with h | h
              · exact h ((hF.out.1 h').1 _ (List.getElem_mem hlt))
              · exact h ((hF.out.1 h').2.2.1 k)), hw'⟩
            have good : Hid (GoodP t.vals[k].n → incAt (t.vals.map Val.attr) 32 k → (∀ x ∈ t.vals.take (k + 1), GoodP x.n) ∧ ∀ j, j < k + 1 → incAt (t.vals.map Val.attr) 32 j) := fun h h' => ⟨take_all hlt h hg.out, below_succ hi.out h'⟩
            generalize hve : t.vals[k] = v at *
            replace hve := Lib.hid hve
            clear hv hv'
            go_wp2_with fail
            refine (good6_c v.n _ i1 i2).mono ?_
            rintro e w4 ⟨rfl, hb4⟩
            have hx4 : Ext wr w4 := (by with_reducible repeat (first | assumption | exact Ext.rfl' _ | exact Ext.new _ _ | refine Ext.alloc' ?_ _ | refine Ext.drew' ?_ | refine Ext.drewN' ?_ _ | (refine Ext.set' ?_ ?_ _; rotate_left; focus (first | omega | (simp; done) | (simp; omega))) | (refine Ext.then (b := ?_) ?_ ?_; rotate_left; rotate_left; assumption)))
            have hbW : Ext w w4 := hb.then hx4
            have hoW := ho.keep hx4
            have hoV : Own w4 wr.heap.size #[.int .i64 v.attr, .int .i64 v.n.num, .int .i64 v.n.den] 46 := Own.keep (Own.new _ _ _) hb4
            replace h0 := hx4.cell1 h0
            replace hbl := cell_lt h0
            replace hkk : (¬ 0 < k ∧ Hid (incAt (t.vals.map Val.attr) 32 k ↔ 0 ≤ v.attr ∧ v.attr < 32)) ∨ (0 < k ∧ ∃ y, w4.cell? ⟨b, o + (k - 1) * 3, none⟩ = some (.int .i64 y) ∧ Hid (incAt (t.vals.map Val.attr) 32 k ↔ 0 ≤ v.attr ∧ v.attr < 32 ∧ y < v.attr)) := by
              rcases hkk with ⟨h1, h2⟩ | ⟨h1, y, h2, h3⟩
              · exact .inl ⟨h1, h2⟩
              · exact .inr ⟨h1, y, hx4.cell1 h2, h3⟩
            clear hx4 hb4 ho q1 q2 q3 h1 h2 hb
            obtain ⟨q1, q2⟩ := hoW.facts
            have q3 := hoW.lt
            obtain ⟨r1, r2⟩ := hoV.facts
            have r3 := hoV.lt
            by_cases hG : GoodP v.n
            · rw [B_t hG]
              replace hG := Lib.hid hG
              rcases hkk with ⟨hk0, hat⟩ | ⟨hk0, y, hy, hat⟩
              all_goals
                by_cases g1 : v.attr < 0
                · go_wp2_with fail
                  (refine wp_region_I 28 (by kernel_rfl) (by kernel_rfl) ?_; simp only [List.toList_toArray, List.take_succ_cons, List.take_zero, List.drop_succ_cons, List.drop_zero])
                  (repeat (first | (refine walkI_no rfl (by simp) rfl rfl rfl ?_ ?_; (focus (simp [undef]; done)); (try simp only [List.nil_append, List.cons_append])) | (refine walkI_is (u := ?_) rfl (by simp) rfl ?_ ?_; rotate_left; (focus (intro A w' hS hA K hK; (simp only [List.map_cons, List.map_nil, knows, Is, Op.operands, Call.operands, List.lookup_cons, List.lookup_nil, Nat.reduceBEq, Bool.false_eq_true, if_false, if_true, Act.eval, Array.getD_eq_getD_getElem?, List.getElem?_toArray, List.getElem?_cons_succ, List.getElem?_cons_zero, Option.getD_some, and_true, true_and, List.append_toArray, List.nil_append, List.cons_append, List.toList_toArray, Array.toList_append, Option.toArray, List.append_nil] at hA); first | fail | (obtain ⟨hSc, hSf, hSs⟩ := hS.cells; go_simp; exact hK _ (by first | exact Ext.rfl' _ | exact Ext.new _ _ | assumption)))); (try simp only [List.nil_append, List.cons_append])) | (refine walkI_yesis (u := ?_) rfl (by simp) rfl rfl rfl ?_ ?_; rotate_left; (focus (intro A w' hS hA K hK; (simp only [List.map_cons, List.map_nil, knows, Is, Op.operands, Call.operands, List.lookup_cons, List.lookup_nil, Nat.reduceBEq, Bool.false_eq_true, if_false, if_true, Act.eval, Array.getD_eq_getD_getElem?, List.getElem?_toArray, List.getElem?_cons_succ, List.getElem?_cons_zero, Option.getD_some, and_true, true_and, List.append_toArray, List.nil_append, List.cons_append, List.toList_toArray, Array.toList_append, Option.toArray, List.append_nil] at hA); first | fail | (obtain ⟨hSc, hSf, hSs⟩ := hS.cells; go_simp; exact hK _ (by first | exact Ext.rfl' _ | exact Ext.new _ _ | assumption)))); (try simp only [List.nil_append, List.cons_append]))))
                  (refine walkI_nil ?_; simp only [List.nil_append, List.cons_append, fins, Is, forall_eq, Act.put, List.setIfInBounds_toArray, List.set_cons_zero, List.set_cons_succ])
                  intro w5 hw5
                  go_wp2_with fail
                  go_ret
                  exact bad.out (.inr fun h => by have := hat.out.1 h; omega) _ (by with_reducible repeat (first | assumption | exact Ext.rfl' _ | exact Ext.new _ _ | refine Ext.alloc' ?_ _ | refine Ext.drew' ?_ | refine Ext.drewN' ?_ _ | (refine Ext.set' ?_ ?_ _; rotate_left; focus (first | omega | (simp; done) | (simp; omega))) | (refine Ext.then (b := ?_) ?_ ?_; rotate_left; rotate_left; assumption)))
                · have d1 : decide (v.attr < 0) = false := by simpa using g1
                  by_cases g2 : 31 < v.attr
                  · go_wp2_with fail
                    (refine wp_region_I 28 (by kernel_rfl) (by kernel_rfl) ?_; simp only [List.toList_toArray, List.take_succ_cons, List.take_zero, List.drop_succ_cons, List.drop_zero])
                    (repeat (first | (refine walkI_no rfl (by simp) rfl rfl rfl ?_ ?_; (focus (simp [undef]; done)); (try simp only [List.nil_append, List.cons_append])) | (refine walkI_is (u := ?_) rfl (by simp) rfl ?_ ?_; rotate_left; (focus (intro A w' hS hA K hK; (simp only [List.map_cons, List.map_nil, knows, Is, Op.operands, Call.operands, List.lookup_cons, List.lookup_nil, Nat.reduceBEq, Bool.false_eq_true, if_false, if_true, Act.eval, Array.getD_eq_getD_getElem?, List.getElem?_toArray, List.getElem?_cons_succ, List.getElem?_cons_zero, Option.getD_some, and_true, true_and, List.append_toArray, List.nil_append, List.cons_append, List.toList_toArray, Array.toList_append, Option.toArray, List.append_nil] at hA); first | fail | (obtain ⟨hSc, hSf, hSs⟩ := hS.cells; go_simp; exact hK _ (by first | exact Ext.rfl' _ | exact Ext.new _ _ | assumption)))); (try simp only [List.nil_append, List.cons_append])) | (refine walkI_yesis (u := ?_) rfl (by simp) rfl rfl rfl ?_ ?_; rotate_left; (focus (intro A w' hS hA K hK; (simp only [List.map_cons, List.map_nil, knows, Is, Op.operands, Call.operands, List.lookup_cons, List.lookup_nil, Nat.reduceBEq, Bool.false_eq_true, if_false, if_true, Act.eval, Array.getD_eq_getD_getElem?, List.getElem?_toArray, List.getElem?_cons_succ, List.getElem?_cons_zero, Option.getD_some, and_true, true_and, List.append_toArray, List.nil_append, List.cons_append, List.toList_toArray, Array.toList_append, Option.toArray, List.append_nil] at hA); first | fail | (obtain ⟨hSc, hSf, hSs⟩ := hS.cells; go_simp; exact hK _ (by first | exact Ext.rfl' _ | exact Ext.new _ _ | assumption)))); (try simp only [List.nil_append, List.cons_append]))))
                    (refine walkI_nil ?_; simp only [List.nil_append, List.cons_append, fins, Is, forall_eq, Act.put, List.setIfInBounds_toArray, List.set_cons_zero, List.set_cons_succ])
                    intro w5 hw5
                    go_wp2_with fail
                    go_ret
                    exact bad.out (.inr fun h => by have := hat.out.1 h; omega) _ (by with_reducible repeat (first | assumption | exact Ext.rfl' _ | exact Ext.new _ _ | refine Ext.alloc' ?_ _ | refine Ext.drew' ?_ | refine Ext.drewN' ?_ _ | (refine Ext.set' ?_ ?_ _; rotate_left; focus (first | omega | (simp; done) | (simp; omega))) | (refine Ext.then (b := ?_) ?_ ?_; rotate_left; rotate_left; assumption)))
                  · have d2 : decide (31 < v.attr) = false := by simpa using g2
                    try have d4 : decide (0 < (k : Int)) = false := by simpa using hk0
                    try have d5 : decide (0 < k) = false := by simpa using hk0
                    try have d6 : IntKind.i64.wrap ((k : Int) - 1) = (k : Int) - 1 := (by have : 0 < k := hk0; rw [IntKind.wrap_i64]; omega)
                    try have d7 : (1 : Int) ≤ k := (by have : 0 < k := hk0; omega)
                    try have d8 : (k : Int) - 1 < t.vals.length := (by have : 0 < k := hk0; omega)
                    try have d9 : ((k : Int) - 1).toNat = k - 1 := (by have : 0 < k := hk0; omega)
                    try by_cases g3 : v.attr ≤ y
                    all_goals
                      try have d3 : decide (v.attr ≤ y) = false := by simpa using g3
                      go_wp2_with fail
                      (refine wp_region_I 28 (by kernel_rfl) (by kernel_rfl) ?_; simp only [List.toList_toArray, List.take_succ_cons, List.take_zero, List.drop_succ_cons, List.drop_zero])
                      (repeat (first | (refine walkI_no rfl (by simp) rfl rfl rfl ?_ ?_; (focus (simp [undef]; done)); (try simp only [List.nil_append, List.cons_append])) | (refine walkI_is (u := ?_) rfl (by simp) rfl ?_ ?_; rotate_left; (focus (intro A w' hS hA K hK; (simp only [List.map_cons, List.map_nil, knows, Is, Op.operands, Call.operands, List.lookup_cons, List.lookup_nil, Nat.reduceBEq, Bool.false_eq_true, if_false, if_true, Act.eval, Array.getD_eq_getD_getElem?, List.getElem?_toArray, List.getElem?_cons_succ, List.getElem?_cons_zero, Option.getD_some, and_true, true_and, List.append_toArray, List.nil_append, List.cons_append, List.toList_toArray, Array.toList_append, Option.toArray, List.append_nil] at hA); first | fail | (obtain ⟨hSc, hSf, hSs⟩ := hS.cells; go_simp; exact hK _ (by first | exact Ext.rfl' _ | exact Ext.new _ _ | assumption)))); (try simp only [List.nil_append, List.cons_append])) | (refine walkI_yesis (u := ?_) rfl (by simp) rfl rfl rfl ?_ ?_; rotate_left; (focus (intro A w' hS hA K hK; (simp only [List.map_cons, List.map_nil, knows, Is, Op.operands, Call.operands, List.lookup_cons, List.lookup_nil, Nat.reduceBEq, Bool.false_eq_true, if_false, if_true, Act.eval, Array.getD_eq_getD_getElem?, List.getElem?_toArray, List.getElem?_cons_succ, List.getElem?_cons_zero, Option.getD_some, and_true, true_and, List.append_toArray, List.nil_append, List.cons_append, List.toList_toArray, Array.toList_append, Option.toArray, List.append_nil] at hA); first | fail | (obtain ⟨hSc, hSf, hSs⟩ := hS.cells; go_simp; exact hK _ (by first | exact Ext.rfl' _ | exact Ext.new _ _ | assumption)))); (try simp only [List.nil_append, List.cons_append]))))
                      (refine walkI_nil ?_; simp only [List.nil_append, List.cons_append, fins, Is, forall_eq, Act.put, List.setIfInBounds_toArray, List.set_cons_zero, List.set_cons_succ])
                      intro w5 hw5
                      have hbw5 : Ext w w5 := (by with_reducible repeat (first | assumption | exact Ext.rfl' _ | exact Ext.new _ _ | refine Ext.alloc' ?_ _ | refine Ext.drew' ?_ | refine Ext.drewN' ?_ _ | (refine Ext.set' ?_ ?_ _; rotate_left; focus (first | omega | (simp; done) | (simp; omega))) | (refine Ext.then (b := ?_) ?_ ?_; rotate_left; rotate_left; assumption)))
                      have hoW5 := hoW.keep hw5
                      go_wp2_with fail
                      first
                      | (go_ret
                         exact bad.out (.inr fun h => by have := hat.out.1 h; omega) _ hbw5)
                      | (go_roundw
                         case rel => exact ⟨_, hlt, by go_num, Lib.hid (good.out hG.out (hat.out.2 (by omega))).1, Lib.hid (good.out hG.out (hat.out.2 (by omega))).2, hoW5, hbw5⟩
                         case measure => simp [intOf]; omega)
            · rw [B_f hG]
              replace hG := Lib.hid hG
              go_wp2_with fail
              (refine wp_region_I 28 (by kernel_rfl) (by kernel_rfl) ?_; simp only [List.toList_toArray, List.take_succ_cons, List.take_zero, List.drop_succ_cons, List.drop_zero])
              (repeat (first | (refine walkI_no rfl (by simp) rfl rfl rfl ?_ ?_; (focus (simp [undef]; done)); (try simp only [List.nil_append, List.cons_append])) | (refine walkI_is (u := ?_) rfl (by simp) rfl ?_ ?_; rotate_left; (focus (intro A w' hS hA K hK; (simp only [List.map_cons, List.map_nil, knows, Is, Op.operands, Call.operands, List.lookup_cons, List.lookup_nil, Nat.reduceBEq, Bool.false_eq_true, if_false, if_true, Act.eval, Array.getD_eq_getD_getElem?, List.getElem?_toArray, List.getElem?_cons_succ, List.getElem?_cons_zero, Option.getD_some, and_true, true_and, List.append_toArray, List.nil_append, List.cons_append, List.toList_toArray, Array.toList_append, Option.toArray, List.append_nil] at hA); first | fail | (obtain ⟨hSc, hSf, hSs⟩ := hS.cells; go_simp; exact hK _ (by first | exact Ext.rfl' _ | exact Ext.new _ _ | assumption)))); (try simp only [List.nil_append, List.cons_append])) | (refine walkI_yesis (u := ?_) rfl (by simp) rfl rfl rfl ?_ ?_; rotate_left; (focus (intro A w' hS hA K hK; (simp only [List.map_cons, List.map_nil, knows, Is, Op.operands, Call.operands, List.lookup_cons, List.lookup_nil, Nat.reduceBEq, Bool.false_eq_true, if_false, if_true, Act.eval, Array.getD_eq_getD_getElem?, List.getElem?_toArray, List.getElem?_cons_succ, List.getElem?_cons_zero, Option.getD_some, and_true, true_and, List.append_toArray, List.nil_append, List.cons_append, List.toList_toArray, Array.toList_append, Option.toArray, List.append_nil] at hA); first | fail | (obtain ⟨hSc, hSf, hSs⟩ := hS.cells; go_simp; exact hK _ (by first | exact Ext.rfl' _ | exact Ext.new _ _ | assumption)))); (try simp only [List.nil_append, List.cons_append]))))
              (refine walkI_nil ?_; simp only [List.nil_append, List.cons_append, fins, Is, forall_eq, Act.put, List.setIfInBounds_toArray, List.set_cons_zero, List.set_cons_succ])
              intro w5 hw5
              go_wp2_with fail
              go_ret
              exact bad.out (.inl hG.out) _ (by with_reducible repeat (first | assumption | exact Ext.rfl' _ | exact Ext.new _ _ | refine Ext.alloc' ?_ _ | refine Ext.drew' ?_ | refine Ext.drewN' ?_ _ | (refine Ext.set' ?_ ?_ _; rotate_left; focus (first | omega | (simp; done) | (simp; omega))) | (refine Ext.then (b := ?_) ?_ ?_; rotate_left; rotate_left; assumption)))
          · have hvl : Hid ((∀ x ∈ t.vals, GoodP x.n) ∧ Inc (t.vals.map Val.attr) 32) := ⟨take_done (by omega) hg.out, inc_of fun j hj => hi.out j (by simp at hj; omega)⟩
            clear hv hi hg
            go_wp2_with fail
            go_loopw [8] (fun i wr => ∃ k : Nat, k ≤ t.parts.length ∧ i = .int .i64 k ∧ Hid (∀ p ∈ t.parts.take k, p.formed) ∧ Own wr w.heap.size #[.slice a1 t.cls.length c1, .slice a2 t.vals.length c2, .slice a3 t.parts.length c3] 27 ∧ Ext w wr) (fun i _ => t.parts.length - (intOf i).toNat)
            case atStart => exact ⟨0, Nat.zero_le _, rfl, Lib.hid (by simp), (by repeat (first | (with_reducible assumption) | (with_reducible exact Own.new _ _ _) | (with_reducible refine Own.new' _ _ _ ?_; (focus (simp; done))) | (with_reducible refine Own.alloc ?_ _) | (with_reducible refine Own.drew ?_) | (with_reducible refine Own.drewN ?_ _) | (with_reducible refine Own.keep (w := ?_) ?_ ?_; rotate_left; (with_reducible assumption); (exact (by with_reducible repeat (first | assumption | exact Ext.rfl' _ | exact Ext.new _ _ | refine Ext.alloc' ?_ _ | refine Ext.drew' ?_ | refine Ext.drewN' ?_ _ | (refine Ext.set' ?_ ?_ _; rotate_left; focus (first | omega | (simp; done) | (simp; omega))) | (refine Ext.then (b := ?_) ?_ ?_; rotate_left; rotate_left; assumption))))) | (with_reducible refine Own.keep (w := ?_) ?_ ?_; rotate_left; rotate_left; (with_reducible assumption)))), (by with_reducible repeat (first | assumption | exact Ext.rfl' _ | exact Ext.new _ _ | refine Ext.alloc' ?_ _ | refine Ext.drew' ?_ | refine Ext.drewN' ?_ _ | (refine Ext.set' ?_ ?_ _; rotate_left; focus (first | omega | (simp; done) | (simp; omega))) | (refine Ext.then (b := ?_) ?_ ?_; rotate_left; rotate_left; assumption)))⟩
            case round =>
              clear ho hb q1 q2 q3
              obtain ⟨k, hk, rfl, hg, ho, hb⟩ := hrel
              obtain ⟨q1, q2⟩ := ho.facts
              have q3 := ho.lt
              by_cases hlt : k < t.parts.length
              · obtain ⟨b, o, b1, d1, b2, d2, b3, d3, rfl, h0, h1, h2, hE, hbl⟩ := ThingsR.at (hp.mono mono_ThingR hb.ple) k hlt
                have good : Hid (t.parts[k].formed → ∀ p ∈ t.parts.take (k + 1), p.formed) := fun h => take_all hlt h hg.out
                have hpm := List.getElem_mem hlt
                generalize t.parts[k] = p at *
                clear hp
                go_wp2_with fail
                refine (HI.out p hpm _ _ (mono_ThingR _ _ _ _ (Ext.ple (by with_reducible repeat (first | assumption | exact Ext.rfl' _ | exact Ext.new _ _ | refine Ext.alloc' ?_ _ | refine Ext.drew' ?_ | refine Ext.drewN' ?_ _ | (refine Ext.set' ?_ ?_ _; rotate_left; focus (first | omega | (simp; done) | (simp; omega))) | (refine Ext.then (b := ?_) ?_ ?_; rotate_left; rotate_left; assumption)))) hE)).mono ?_
                rintro e w4 ⟨rfl, hb4⟩
                by_cases hG : p.formed
                · rw [B_t hG]
                  replace hG := Lib.hid hG
                  go_wp2_with fail
                  go_roundw
                  case rel => exact ⟨_, hlt, by go_num, Lib.hid (good.out hG.out), (by repeat (first | (with_reducible assumption) | (with_reducible exact Own.new _ _ _) | (with_reducible refine Own.new' _ _ _ ?_; (focus (simp; done))) | (with_reducible refine Own.alloc ?_ _) | (with_reducible refine Own.drew ?_) | (with_reducible refine Own.drewN ?_ _) | (with_reducible refine Own.keep (w := ?_) ?_ ?_; rotate_left; (with_reducible assumption); (exact (by with_reducible repeat (first | assumption | exact Ext.rfl' _ | exact Ext.new _ _ | refine Ext.alloc' ?_ _ | refine Ext.drew' ?_ | refine Ext.drewN' ?_ _ | (refine Ext.set' ?_ ?_ _; rotate_left; focus (first | omega | (simp; done) | (simp; omega))) | (refine Ext.then (b := ?_) ?_ ?_; rotate_left; rotate_left; assumption))))) | (with_reducible refine Own.keep (w := ?_) ?_ ?_; rotate_left; rotate_left; (with_reducible assumption)))), (by with_reducible repeat (first | assumption | exact Ext.rfl' _ | exact Ext.new _ _ | refine Ext.alloc' ?_ _ | refine Ext.drew' ?_ | refine Ext.drewN' ?_ _ | (refine Ext.set' ?_ ?_ _; rotate_left; focus (first | omega | (simp; done) | (simp; omega))) | (refine Ext.then (b := ?_) ?_ ?_; rotate_left; rotate_left; assumption)))⟩
                  case measure => simp [intOf]; omega
                · rw [B_f hG]
                  replace hG := Lib.hid hG
                  replace hpm := Lib.hid hpm
                  go_wp2_with fail
                  go_ret
                  exact ⟨ret_f (fun h' => hG.out ((hF.out.1 h').2.2.2 p hpm.out)), (by with_reducible repeat (first | assumption | exact Ext.rfl' _ | exact Ext.new _ _ | refine Ext.alloc' ?_ _ | refine Ext.drew' ?_ | refine Ext.drewN' ?_ _ | (refine Ext.set' ?_ ?_ _; rotate_left; focus (first | omega | (simp; done) | (simp; omega))) | (refine Ext.then (b := ?_) ?_ ?_; rotate_left; rotate_left; assumption)))⟩
              · clear hp
                go_wp2_with fail
                go_ret
                exact ⟨ret_t (hF.out.2 ⟨hvl.out.1, hcl.out, hvl.out.2, take_done (by omega) hg.out⟩), (by with_reducible repeat (first | assumption | exact Ext.rfl' _ | exact Ext.new _ _ | refine Ext.alloc' ?_ _ | refine Ext.drew' ?_ | refine Ext.drewN' ?_ _ | (refine Ext.set' ?_ ?_ _; rotate_left; focus (first | omega | (simp; done) | (simp; omega))) | (refine Ext.then (b := ?_) ?_ ?_; rotate_left; rotate_left; assumption)))⟩
theorem valid_r (t : Thing) (cs : List Value) (w : World) (hr : ThingR (ph w) cs t) (hs : t.bulk ≤ 999999) :
    Calls Tryz.prog 21 #[.agg cs.toArray] w (RetV w (.int .i64 (validV t))) := by
  obtain ⟨a1, c1, a2, c2, a3, c3, rfl, -, -, -, -, -, -⟩ := hr.form
  have hsz := t.size_le_bulk
  have hdp := t.deep_le_size
  have hV : Hid (validV t = if t.size ≤ 96 ∧ t.deep ≤ 8 then ErrIf t.formed 1 else 4) := by
    show _ = _
    unfold validV; split <;> simp [*]
  go_enter Tryz.func21, Tryz.ntmps21
  go_wp2_with fail
  refine (size_r t _ _ (mono_ThingR _ _ _ _ (Ext.ple (by with_reducible repeat (first | assumption | exact Ext.rfl' _ | exact Ext.new _ _ | refine Ext.alloc' ?_ _ | refine Ext.drew' ?_ | refine Ext.drewN' ?_ _ | (refine Ext.set' ?_ ?_ _; rotate_left; focus (first | omega | (simp; done) | (simp; omega))) | (refine Ext.then (b := ?_) ?_ ?_; rotate_left; rotate_left; assumption)))) hr) (by omega)).mono ?_
  rintro e w1 ⟨rfl, hb1⟩
  have ho := Own.keep (Own.new w _ _) hb1
  have hb : Ext w w1 := (by with_reducible repeat (first | assumption | exact Ext.rfl' _ | exact Ext.new _ _ | refine Ext.alloc' ?_ _ | refine Ext.drew' ?_ | refine Ext.drewN' ?_ _ | (refine Ext.set' ?_ ?_ _; rotate_left; focus (first | omega | (simp; done) | (simp; omega))) | (refine Ext.then (b := ?_) ?_ ?_; rotate_left; rotate_left; assumption)))
  clear hb1
  obtain ⟨q1, q2⟩ := ho.facts
  by_cases h1 : (96 : Int) < t.size
  · go_wp2_with fail
    go_ret
    exact ⟨ret_int (by rw [hV.out, if_neg (by omega)]), hb⟩
  · have d1 : decide ((96 : Int) < t.size) = false := by simpa using h1
    go_wp2_with fail
    refine (deep_r t _ _ (mono_ThingR _ _ _ _ (Ext.ple (by with_reducible repeat (first | assumption | exact Ext.rfl' _ | exact Ext.new _ _ | refine Ext.alloc' ?_ _ | refine Ext.drew' ?_ | refine Ext.drewN' ?_ _ | (refine Ext.set' ?_ ?_ _; rotate_left; focus (first | omega | (simp; done) | (simp; omega))) | (refine Ext.then (b := ?_) ?_ ?_; rotate_left; rotate_left; assumption)))) hr) (by omega)).mono ?_
    rintro e w2 ⟨rfl, hb2⟩
    replace ho := ho.keep hb2
    replace hb := hb.then hb2
    clear hb2 q1 q2
    obtain ⟨q1, q2⟩ := ho.facts
    by_cases h2 : (8 : Int) < t.deep
    · go_wp2_with fail
      go_ret
      exact ⟨ret_int (by rw [hV.out, if_neg (by omega)]), hb⟩
    · go_wp2_with fail
      refine (formed_r t _ _ (mono_ThingR _ _ _ _ (Ext.ple (by with_reducible repeat (first | assumption | exact Ext.rfl' _ | exact Ext.new _ _ | refine Ext.alloc' ?_ _ | refine Ext.drew' ?_ | refine Ext.drewN' ?_ _ | (refine Ext.set' ?_ ?_ _; rotate_left; focus (first | omega | (simp; done) | (simp; omega))) | (refine Ext.then (b := ?_) ?_ ?_; rotate_left; rotate_left; assumption)))) hr)).mono ?_
      rintro e w3 ⟨rfl, hb3⟩
      by_cases hF : t.formed
      · rw [B_t hF]
        replace hF := Lib.hid hF
        go_wp2_with fail
        go_ret
        exact ⟨ret_int (by rw [hV.out, if_pos (by omega), ErrIf_t hF.out]), (by with_reducible repeat (first | assumption | exact Ext.rfl' _ | exact Ext.new _ _ | refine Ext.alloc' ?_ _ | refine Ext.drew' ?_ | refine Ext.drewN' ?_ _ | (refine Ext.set' ?_ ?_ _; rotate_left; focus (first | omega | (simp; done) | (simp; omega))) | (refine Ext.then (b := ?_) ?_ ?_; rotate_left; rotate_left; assumption)))⟩
      · rw [B_f hF]
        replace hF := Lib.hid hF
        go_wp2_with fail
        go_ret
        exact ⟨ret_int (by rw [hV.out, if_pos (by omega), ErrIf_f hF.out]), (by with_reducible repeat (first | assumption | exact Ext.rfl' _ | exact Ext.new _ _ | refine Ext.alloc' ?_ _ | refine Ext.drew' ?_ | refine Ext.drewN' ?_ _ | (refine Ext.set' ?_ ?_ _; rotate_left; focus (first | omega | (simp; done) | (simp; omega))) | (refine Ext.then (b := ?_) ?_ ?_; rotate_left; rotate_left; assumption)))⟩
end Go.Proofs.YtnhcplmcddlgnaaGreat
namespace Go.Proofs.YtnhcplmcddlgnaaGreat
open Go.RowKit Go.Shelf
set_option linter.unusedSimpArgs false
set_option linter.unusedVariables false
abbrev noT : Thing := .mk [] [] []
theorem noT_R (H : PH) : ThingR H [.slice none 0 0, .slice none 0 0, .slice none 0 0] noT := thingR_of (SliceRep.nil _ _ _) (SliceRep.nil _ _ _) (SliceRep.nil _ _ _)
/-- what Normal returns: the thing and the error -/
noncomputable def normE (t : Thing) : Int := match normT t with | none => 8 | some u => validV u
noncomputable def normV (t : Thing) : Thing := match normT t with | none => noT | some u => if validV u = 0 then u else noT
/-- a thing and an error come back -/
def ThE (H : PH) (w : World) (u : Thing) (er : Int) (e : Ending) (w' : World) : Prop := ∃ cs : List Value, e = .returned (.tuple #[.agg cs.toArray, .int .i64 er]) ∧ ThingR (up H w w') cs u ∧ Ext w w'
theorem norm_no {t : Thing} (h : normT t = none) : normE t = 8 ∧ normV t = noT := by unfold normE normV; rw [h]; exact ⟨rfl, rfl⟩
theorem norm_bad {t u : Thing} (h : normT t = some u) (hv : validV u ≠ 0) : normE t = validV u ∧ normV t = noT := by
  unfold normE normV; rw [h]; exact ⟨rfl, if_neg hv⟩
theorem norm_ok {t u : Thing} (h : normT t = some u) (hv : validV u = 0) : normE t = 0 ∧ normV t = u := by
  unfold normE normV; rw [h]; exact ⟨hv, if_pos hv⟩
set_option maxRecDepth 100000 in
set_option maxHeartbeats 4000000 in
theorem normal_c (t : Thing) (H : PH) (cs : List Value) (w : World) (hP : PLe H (ph w)) (hr : ThingR H cs t) (hbk : t.bulk ≤ 400000) :
    Calls Tryz.prog 6 #[.agg cs.toArray] w (ThE H w (normV t) (normE t)) := by
  obtain ⟨a1, c1, a2, c2, a3, c3, rfl, -⟩ := hr.form
  have hM : Mem w H [boxT w.heap.size (.slice a1 t.cls.length c1) (.slice a2 t.vals.length c2) (.slice a3 t.parts.length c3), boxT (w.heap.size + 1) (.slice none 0 0) (.slice none 0 0) (.slice none 0 0)] H _ :=
    ((Mem.start w H hP).new #[.slice a1 t.cls.length c1, .slice a2 t.vals.length c2, .slice a3 t.parts.length c3] 27).new' zeroT 27 (n := w.heap.size + 1) (by simp)
  go_enter Tryz.func6, Tryz.ntmps6
  go_upto_region 1 with (fail)
  generalize hg2 : w.heap.size + 1 = g2 at *
  generalize hg1 : w.heap.size = g1 at *
  generalize World.alloc _ _ = w1 at *
  obtain ⟨z0, z1, z2, zl⟩ := hM.cellsT 0 rfl
  have hcall := Lib.hid (sorted_c t H _ w1 hM.ple hr (by omega))
  clear hr
  go_wp2_with fail
  refine hcall.out.mono ?_
  clear hcall z0 z1 z2 zl
  cases hn : normT t with
  | none =>
    rintro e w2 ⟨rfl, hx2⟩
    replace hM := hM.ext hx2
    have hno := Lib.hid (norm_no hn)
    clear hx2 hn
    go_upto_region 3 with (fail)
    replace hM := hM.ext (Ext.new w2 (.cells #[.slice none 0 0, .slice none 0 0, .slice none 0 0] 27))
    generalize World.alloc _ _ = w3 at *
    obtain ⟨z0, z1, z2, zl, zf⟩ := hM.cellsF 1 rfl
    have hM8 := hM.setT 1 rfl (.slice none 0 0) (.slice none 0 0) (.slice none 0 0)
    simp only [List.set_cons_zero, List.set_cons_succ] at hM8
    clear hM
    go_wp2_with fail
    generalize World.setCell _ _ _ = w9 at *
    obtain ⟨rq0, rq1, rq2, -⟩ := hM8.cellsT 1 rfl
    refine bodyPost_ret (v := .tuple #[.agg #[(.slice none 0 0), (.slice none 0 0), (.slice none 0 0)], .int .i64 8]) (by simp [results, Tryz.results6, go_sem, rq0, rq1, rq2]) rfl ?_
    rw [hno.out.1, hno.out.2]
    exact ⟨[_, _, _], rfl, noT_R _, hM8.ex⟩
  | some u =>
    rintro e w2 ⟨cs, rfl, hU, hx2⟩
    have hub := normT_bulk hn
    obtain ⟨f1, h1, f2, h2, f3, h3, rfl, -⟩ := hU.form
    replace hM := hM.up hx2
    have hbad := Lib.hid (norm_bad hn)
    have hok := Lib.hid (norm_ok hn)
    generalize up H w1 w2 = H2 at *
    clear hx2 hn
    go_upto_region 4 with (fail)
    have ho := Proofs.YtnhcplmcddlgnaaGreat.Own.new w2 #[.slice f1 u.cls.length h1, .slice f2 u.vals.length h2, .slice f3 u.parts.length h3] 27
    replace hM := hM.ext (Ext.new w2 (.cells #[.slice f1 u.cls.length h1, .slice f2 u.vals.length h2, .slice f3 u.parts.length h3] 27))
    generalize World.alloc _ _ = w3 at *
    generalize w2.heap.size = g5 at *
    obtain ⟨x0, x1, x2⟩ : w3.cell? ⟨g5, 0, none⟩ = some (.slice f1 u.cls.length h1) ∧ w3.cell? ⟨g5, 1, none⟩ = some (.slice f2 u.vals.length h2) ∧ w3.cell? ⟨g5, 2, none⟩ = some (.slice f3 u.parts.length h3) := ⟨ho.facts.1 0, ho.facts.1 1, ho.facts.1 2⟩
    have xl := ho.lt
    have hvc := Lib.hid (valid_c u _ w3 (mono_ThingR _ _ _ _ hM.ple hU) (by omega))
    clear ho
    go_wp2_with fail
    refine RetV_at hvc.out ?_
    intro w4 hx4
    clear hvc
    replace hM := hM.ext hx4
    replace x0 := hx4.cell1 x0
    replace x1 := hx4.cell1 x1
    replace x2 := hx4.cell1 x2
    replace xl := cell_lt x0
    clear hx4
    generalize validV u = ev at *
    by_cases hv : ev = 0
    · subst hv
      replace hok := Lib.hid (hok.out rfl)
      clear hbad
      obtain ⟨z0, z1, z2, zl, zf⟩ := hM.cellsF 1 rfl
      have hM8 := hM.setT 1 rfl (.slice f1 u.cls.length h1) (.slice f2 u.vals.length h2) (.slice f3 u.parts.length h3)
      simp only [List.set_cons_zero, List.set_cons_succ] at hM8
      clear hM
      go_wp2_with fail
      generalize World.setCell _ _ _ = w9 at *
      obtain ⟨rq0, rq1, rq2, -⟩ := hM8.cellsT 1 rfl
      refine bodyPost_ret (v := .tuple #[.agg #[(.slice f1 u.cls.length h1), (.slice f2 u.vals.length h2), (.slice f3 u.parts.length h3)], .int .i64 0]) (by simp [results, Tryz.results6, go_sem, rq0, rq1, rq2]) rfl ?_
      rw [hok.out.1, hok.out.2]
      exact ⟨[_, _, _], rfl, mono_ThingR _ _ _ _ hM8.ub hU, hM8.ex⟩
    · have hv1 : (ev == 0) = false := by simpa using hv
      replace hbad := Lib.hid (hbad.out hv)
      clear hok
      replace hv := Lib.hid hv
      clear x0 x1 x2 xl
      obtain ⟨z0, z1, z2, zl, zf⟩ := hM.cellsF 1 rfl
      have hM8 := hM.setT 1 rfl (.slice none 0 0) (.slice none 0 0) (.slice none 0 0)
      simp only [List.set_cons_zero, List.set_cons_succ] at hM8
      clear hM
      go_wp2_with fail
      generalize World.setCell _ _ _ = w9 at *
      obtain ⟨rq0, rq1, rq2, -⟩ := hM8.cellsT 1 rfl
      refine bodyPost_ret (v := .tuple #[.agg #[(.slice none 0 0), (.slice none 0 0), (.slice none 0 0)], .int .i64 ev]) (by simp [results, Tryz.results6, go_sem, rq0, rq1, rq2]) rfl ?_
      rw [hbad.out.1, hbad.out.2]
      exact ⟨[_, _, _], rfl, noT_R _, hM8.ex⟩
set_option maxRecDepth 100000 in
set_option maxHeartbeats 4000000 in
theorem rnormal_c (t : Thing) (H : PH) (cs : List Value) (w : World) (hP : PLe H (ph w)) (hr : ThingR H cs t) (hbk : t.bulk ≤ 400000) :
    Calls Tryz.prog 7 #[.agg cs.toArray] w (ThE H w (normV t) (normE t)) := by
  obtain ⟨a1, c1, a2, c2, a3, c3, rfl, -⟩ := hr.form
  have hM : Mem w H [boxT w.heap.size (.slice a1 t.cls.length c1) (.slice a2 t.vals.length c2) (.slice a3 t.parts.length c3), boxT (w.heap.size + 1) (.slice none 0 0) (.slice none 0 0) (.slice none 0 0)] H _ :=
    ((Mem.start w H hP).new #[.slice a1 t.cls.length c1, .slice a2 t.vals.length c2, .slice a3 t.parts.length c3] 27).new' zeroT 27 (n := w.heap.size + 1) (by simp)
  go_enter Tryz.func7, Tryz.ntmps7
  go_upto_region 1 with (fail)
  generalize hg2 : w.heap.size + 1 = g2 at *
  generalize hg1 : w.heap.size = g1 at *
  generalize World.alloc _ _ = w1 at *
  obtain ⟨z0, z1, z2, zl⟩ := hM.cellsT 0 rfl
  have hcall := Lib.hid (rsorted_c t H _ w1 hM.ple hr (by omega))
  clear hr
  go_wp2_with fail
  refine hcall.out.mono ?_
  clear hcall z0 z1 z2 zl
  cases hn : normT t with
  | none =>
    rintro e w2 ⟨rfl, hx2⟩
    replace hM := hM.ext hx2
    have hno := Lib.hid (norm_no hn)
    clear hx2 hn
    go_upto_region 3 with (fail)
    replace hM := hM.ext (Ext.new w2 (.cells #[.slice none 0 0, .slice none 0 0, .slice none 0 0] 27))
    generalize World.alloc _ _ = w3 at *
    obtain ⟨z0, z1, z2, zl, zf⟩ := hM.cellsF 1 rfl
    have hM8 := hM.setT 1 rfl (.slice none 0 0) (.slice none 0 0) (.slice none 0 0)
    simp only [List.set_cons_zero, List.set_cons_succ] at hM8
    clear hM
    go_wp2_with fail
    generalize World.setCell _ _ _ = w9 at *
    obtain ⟨rq0, rq1, rq2, -⟩ := hM8.cellsT 1 rfl
    refine bodyPost_ret (v := .tuple #[.agg #[(.slice none 0 0), (.slice none 0 0), (.slice none 0 0)], .int .i64 8]) (by simp [results, Tryz.results7, go_sem, rq0, rq1, rq2]) rfl ?_
    rw [hno.out.1, hno.out.2]
    exact ⟨[_, _, _], rfl, noT_R _, hM8.ex⟩
  | some u =>
    rintro e w2 ⟨cs, rfl, hU, hx2⟩
    have hub := normT_bulk hn
    obtain ⟨f1, h1, f2, h2, f3, h3, rfl, -⟩ := hU.form
    replace hM := hM.up hx2
    have hbad := Lib.hid (norm_bad hn)
    have hok := Lib.hid (norm_ok hn)
    generalize up H w1 w2 = H2 at *
    clear hx2 hn
    go_upto_region 4 with (fail)
    have ho := Proofs.YtnhcplmcddlgnaaGreat.Own.new w2 #[.slice f1 u.cls.length h1, .slice f2 u.vals.length h2, .slice f3 u.parts.length h3] 27
    replace hM := hM.ext (Ext.new w2 (.cells #[.slice f1 u.cls.length h1, .slice f2 u.vals.length h2, .slice f3 u.parts.length h3] 27))
    generalize World.alloc _ _ = w3 at *
    generalize w2.heap.size = g5 at *
    obtain ⟨x0, x1, x2⟩ : w3.cell? ⟨g5, 0, none⟩ = some (.slice f1 u.cls.length h1) ∧ w3.cell? ⟨g5, 1, none⟩ = some (.slice f2 u.vals.length h2) ∧ w3.cell? ⟨g5, 2, none⟩ = some (.slice f3 u.parts.length h3) := ⟨ho.facts.1 0, ho.facts.1 1, ho.facts.1 2⟩
    have xl := ho.lt
    have hvc := Lib.hid (valid_r u _ w3 (mono_ThingR _ _ _ _ hM.ple hU) (by omega))
    clear ho
    go_wp2_with fail
    refine RetV_at hvc.out ?_
    intro w4 hx4
    clear hvc
    replace hM := hM.ext hx4
    replace x0 := hx4.cell1 x0
    replace x1 := hx4.cell1 x1
    replace x2 := hx4.cell1 x2
    replace xl := cell_lt x0
    clear hx4
    generalize validV u = ev at *
    by_cases hv : ev = 0
    · subst hv
      replace hok := Lib.hid (hok.out rfl)
      clear hbad
      obtain ⟨z0, z1, z2, zl, zf⟩ := hM.cellsF 1 rfl
      have hM8 := hM.setT 1 rfl (.slice f1 u.cls.length h1) (.slice f2 u.vals.length h2) (.slice f3 u.parts.length h3)
      simp only [List.set_cons_zero, List.set_cons_succ] at hM8
      clear hM
      go_wp2_with fail
      generalize World.setCell _ _ _ = w9 at *
      obtain ⟨rq0, rq1, rq2, -⟩ := hM8.cellsT 1 rfl
      refine bodyPost_ret (v := .tuple #[.agg #[(.slice f1 u.cls.length h1), (.slice f2 u.vals.length h2), (.slice f3 u.parts.length h3)], .int .i64 0]) (by simp [results, Tryz.results7, go_sem, rq0, rq1, rq2]) rfl ?_
      rw [hok.out.1, hok.out.2]
      exact ⟨[_, _, _], rfl, mono_ThingR _ _ _ _ hM8.ub hU, hM8.ex⟩
    · have hv1 : (ev == 0) = false := by simpa using hv
      replace hbad := Lib.hid (hbad.out hv)
      clear hok
      replace hv := Lib.hid hv
      clear x0 x1 x2 xl
      obtain ⟨z0, z1, z2, zl, zf⟩ := hM.cellsF 1 rfl
      have hM8 := hM.setT 1 rfl (.slice none 0 0) (.slice none 0 0) (.slice none 0 0)
      simp only [List.set_cons_zero, List.set_cons_succ] at hM8
      clear hM
      go_wp2_with fail
      generalize World.setCell _ _ _ = w9 at *
      obtain ⟨rq0, rq1, rq2, -⟩ := hM8.cellsT 1 rfl
      refine bodyPost_ret (v := .tuple #[.agg #[(.slice none 0 0), (.slice none 0 0), (.slice none 0 0)], .int .i64 ev]) (by simp [results, Tryz.results7, go_sem, rq0, rq1, rq2]) rfl ?_
      rw [hbad.out.1, hbad.out.2]
      exact ⟨[_, _, _], rfl, noT_R _, hM8.ex⟩
set_option maxRecDepth 100000 in
theorem rsame_c (x y : Thing) (cs ds : List Value) (w : World) (hx : ThingR (ph w) cs x) (hy : ThingR (ph w) ds y) (hbx : x.bulk ≤ 1000000) (hby : y.bulk ≤ 1000000) :
    Calls Tryz.prog 9 #[.agg cs.toArray, .agg ds.toArray] w (RetV w (.bool (decide (cmpT x y = 0)))) := by
  obtain ⟨a1, c1, a2, c2, a3, c3, rfl, -⟩ := hx.form
  obtain ⟨b1, d1, b2, d2, b3, d3, rfl, -⟩ := hy.form
  have hcp := Lib.hid (fun W (e : Ext w W) => compare_r x y _ _ W (mono_ThingR _ _ _ _ e.ple hx) (mono_ThingR _ _ _ _ e.ple hy) hbx hby)
  clear hx hy
  go_enter Tryz.func9, Tryz.ntmps9
  go_wp2_with fail
  refine RetV_at (hcp.out _ (by with_reducible repeat (first | assumption | exact Ext.rfl' _ | exact Ext.new _ _ | refine Ext.alloc' ?_ _ | refine Ext.drew' ?_ | refine Ext.drewN' ?_ _ | (refine Ext.set' ?_ ?_ _; rotate_left; focus (first | omega | (simp; done) | (simp; omega))) | (refine Ext.then (b := ?_) ?_ ?_; rotate_left; rotate_left; assumption)))) ?_
  intro w2 hx2
  go_wp2_with fail
  go_ret
  exact ⟨ret_bool (by rw [Bool.eq_iff_iff]; simp), (by with_reducible repeat (first | assumption | exact Ext.rfl' _ | exact Ext.new _ _ | refine Ext.alloc' ?_ _ | refine Ext.drew' ?_ | refine Ext.drewN' ?_ _ | (refine Ext.set' ?_ ?_ _; rotate_left; focus (first | omega | (simp; done) | (simp; omega))) | (refine Ext.then (b := ?_) ?_ ?_; rotate_left; rotate_left; assumption)))⟩
end Go.Proofs.YtnhcplmcddlgnaaGreat
namespace Go.Proofs.YtnhcplmcddlgnaaGreat
open Go.RowKit
set_option linter.unusedSimpArgs false
set_option linter.unusedVariables false
def ThingsP (w : World) (e : Ending) (w' : World) : Prop := ∃ (H' : PH) (v : Value) (xs : List Thing), e = .returned v ∧ OwnS w.heap.size H' w' ThingR 3 27 v xs ∧ PLe H' (up noH w w') ∧ xs.length = 4 ∧ (∀ x ∈ xs, x.bulk ≤ 100000) ∧ Ext w w'
set_option maxRecDepth 100000 in
set_option maxHeartbeats 2000000 in
theorem things_c (vl vm : Value) (l m : List Int) (at_ how by_ : Int) (w : World) (hl : IntsR (ph w) vl l) (hm : IntsR (ph w) vm m) (hll : l.length ≤ 140737488355328) (hml : m.length ≤ 140737488355328) (hat : I64 at_) (hhow : I64 how) (hby : I64 by_) :
    Calls Tryz.prog 5 #[vl, vm, .int .i64 at_, .int .i64 how, .int .i64 by_] w (ThingsP w) := by
  obtain ⟨a, c, rfl, -, hl⟩ := hl.form
  obtain ⟨a', c', rfl, -, hm⟩ := hm.form
  have hw3 := wrap_tdiv (k := 3) (by omega) hat
  have hw9 := wrap_tdiv (k := 9) (by omega) hhow
  replace hw3 := Lib.hid hw3
  replace hw9 := Lib.hid hw9
  have hS := Mem.start w noH (noH_le _)
  go_enter Tryz.func5, Tryz.ntmps5
  go_wp2_with fail
  refine (someT_c l _ 64 4 _ hll (by omega) (hl.mono mono_IntR (Ext.ple (by with_reducible repeat (first | assumption | exact Ext.rfl' _ | exact Ext.new _ _ | refine Ext.alloc' ?_ _ | refine Ext.drew' ?_ | refine Ext.drewN' ?_ _ | (refine Ext.set' ?_ ?_ _; rotate_left; focus (first | omega | (simp; done) | (simp; omega))) | (refine Ext.then (b := ?_) ?_ ?_; rotate_left; rotate_left; assumption))))) (by omega) (by omega)).mono ?_
  rintro e w1 ⟨cs, rfl, ⟨ta, hTa, hba⟩, hb1⟩
  replace hS := hS.up hb1
  obtain ⟨x1, y1, x2, y2, x3, y3, rfl, -⟩ := hTa.form
  replace hS := hS.new #[.slice x1 ta.cls.length y1, .slice x2 ta.vals.length y2, .slice x3 ta.parts.length y3] 27
  have e1 : Ext w w1 := (by with_reducible repeat (first | assumption | exact Ext.rfl' _ | exact Ext.new _ _ | refine Ext.alloc' ?_ _ | refine Ext.drew' ?_ | refine Ext.drewN' ?_ _ | (refine Ext.set' ?_ ?_ _; rotate_left; focus (first | omega | (simp; done) | (simp; omega))) | (refine Ext.then (b := ?_) ?_ ?_; rotate_left; rotate_left; assumption)))
  generalize up noH w w1 = H1 at *
  clear hb1
  go_wp2_with fail
  refine (someT_c m _ 6 3 _ hml (by omega) (hm.mono mono_IntR (Ext.ple (by with_reducible repeat (first | assumption | exact Ext.rfl' _ | exact Ext.new _ _ | refine Ext.alloc' ?_ _ | refine Ext.drew' ?_ | refine Ext.drewN' ?_ _ | (refine Ext.set' ?_ ?_ _; rotate_left; focus (first | omega | (simp; done) | (simp; omega))) | (refine Ext.then (b := ?_) ?_ ?_; rotate_left; rotate_left; assumption))))) (by omega) (by omega)).mono ?_
  rintro e w2 ⟨cs, rfl, ⟨tb, hTb, hbb⟩, hb2⟩
  obtain ⟨z1, v1, z2, v2, z3, v3, rfl, -⟩ := hTb.form
  replace hTb := mono_ThingR _ _ _ _ (up_noH (H := H1)) hTb
  replace hTa := mono_ThingR _ _ _ _ (ple_up hS.ple (w' := w2)) hTa
  replace hS := (hS.up hb2).new #[.slice z1 tb.cls.length v1, .slice z2 tb.vals.length v2, .slice z3 tb.parts.length v3] 27
  generalize up H1 _ w2 = H2 at *
  clear hb2
  obtain ⟨q1, q2⟩ := (hS.box 0 rfl).facts
  have q3 := (hS.box 0 rfl).lt
  go_wp2_with fail
  refine (spoilt_c ta H2 _ at_ how by_ _ hS.ple hTa hat hhow hby (by omega)).mono ?_
  rintro e w3 ⟨cs, tc, rfl, hTc, hbc, hb3⟩
  obtain ⟨s1, u1, s2, u2, s3, u3, rfl, -⟩ := hTc.form
  replace hTa := mono_ThingR _ _ _ _ (ple_up hS.ple (w' := w3)) hTa
  replace hTb := mono_ThingR _ _ _ _ (ple_up hS.ple (w' := w3)) hTb
  replace hS := (hS.up hb3).new #[.slice s1 tc.cls.length u1, .slice s2 tc.vals.length u2, .slice s3 tc.parts.length u3] 27
  generalize up H2 _ w3 = H3 at *
  clear hb3 q1 q2 q3
  obtain ⟨q1, q2⟩ := (hS.box 0 rfl).facts
  have q3 := (hS.box 0 rfl).lt
  obtain ⟨r1, r2⟩ := (hS.box 1 rfl).facts
  have r3 := (hS.box 1 rfl).lt
  obtain ⟨o1, o2⟩ := (hS.box 2 rfl).facts
  have o3 := (hS.box 2 rfl).lt
  go_wp2_with fail
  generalize hW : w3.alloc _ = W at *
  clear hW
  obtain ⟨hz0, hz1⟩ := aroundV_range (n := by_) (m := 7) hby (by omega)
  replace hw3 := hw3.out
  replace hw9 := hw9.out
  have hwz : IntKind.i64.wrap (aroundV by_ 7 - 1) = aroundV by_ 7 - 1 := by rw [IntKind.wrap_i64]; omega
  (refine wp_region_I 12 (by kernel_rfl) (by kernel_rfl) ?_; simp only [List.toList_toArray, List.take_succ_cons, List.take_zero, List.drop_succ_cons, List.drop_zero])
  repeat ((refine walkI_is (u := ?_) rfl (by simp) rfl ?_ ?_; rotate_left; (focus (intro A w' hS hA K hK; (simp only [List.map_cons, List.map_nil, knows, Is, Op.operands, Call.operands, List.lookup_cons, List.lookup_nil, Nat.reduceBEq, Bool.false_eq_true, if_false, if_true, Act.eval, Array.getD_eq_getD_getElem?, List.getElem?_toArray, List.getElem?_cons_succ, List.getElem?_cons_zero, Option.getD_some, and_true, true_and, List.append_toArray, List.nil_append, List.cons_append, List.toList_toArray, Array.toList_append, Option.toArray, List.append_nil] at hA); first | fail | (obtain ⟨hSc, hSf, hSs⟩ := hS.cells; go_simp; exact hK _ (by first | exact Ext.rfl' _ | exact Ext.new _ _ | assumption)))); (try simp only [List.nil_append, List.cons_append])))
  (refine walkI_is (u := ?_) rfl (by simp) rfl ?_ ?_; rotate_left; (focus (intro A w' hS hA K hK; (simp only [List.map_cons, List.map_nil, knows, Is, Op.operands, Call.operands, List.lookup_cons, List.lookup_nil, Nat.reduceBEq, Bool.false_eq_true, if_false, if_true, Act.eval, Array.getD_eq_getD_getElem?, List.getElem?_toArray, List.getElem?_cons_succ, List.getElem?_cons_zero, Option.getD_some, and_true, true_and, List.append_toArray, List.nil_append, List.cons_append, List.toList_toArray, Array.toList_append, Option.toArray, List.append_nil] at hA); first | (go_simp; refine (around_c by_ 7 _ hby (by omega) (by omega)).mono ?_; rintro e w'' ⟨rfl, hbx⟩; exact hK _ hbx) | (obtain ⟨hSc, hSf, hSs⟩ := hS.cells; go_simp; exact hK _ (by first | exact Ext.rfl' _ | exact Ext.new _ _ | assumption)))); (try simp only [List.nil_append, List.cons_append]))
  repeat ((refine walkI_is (u := ?_) rfl (by simp) rfl ?_ ?_; rotate_left; (focus (intro A w' hS hA K hK; (simp only [List.map_cons, List.map_nil, knows, Is, Op.operands, Call.operands, List.lookup_cons, List.lookup_nil, Nat.reduceBEq, Bool.false_eq_true, if_false, if_true, Act.eval, Array.getD_eq_getD_getElem?, List.getElem?_toArray, List.getElem?_cons_succ, List.getElem?_cons_zero, Option.getD_some, and_true, true_and, List.append_toArray, List.nil_append, List.cons_append, List.toList_toArray, Array.toList_append, Option.toArray, List.append_nil] at hA); first | fail | (obtain ⟨hSc, hSf, hSs⟩ := hS.cells; go_simp; exact hK _ (by first | exact Ext.rfl' _ | exact Ext.new _ _ | assumption)))); (try simp only [List.nil_append, List.cons_append])))
  refine walkI_step (fun v w' => ∃ (cs : List Value) (t' : Thing), v = .agg cs.toArray ∧ ThingR (up H3 W w') cs t' ∧ t'.bulk ≤ 2 * tc.bulk + 200) rfl (by simp) rfl ?_ ?_ ?_
  · rintro v w1 w2 hx ⟨cs, t', rfl, h1, h2⟩ hy
    exact ⟨cs, t', rfl, mono_ThingR _ _ _ _ (up_then hx hy) h1, h2⟩
  · intro A w' hx hA K hK
    (simp only [List.map_cons, List.map_nil, knows, Is, Op.operands, Call.operands, List.lookup_cons, List.lookup_nil, Nat.reduceBEq, Bool.false_eq_true, if_false, if_true, Act.eval, Array.getD_eq_getD_getElem?, List.getElem?_toArray, List.getElem?_cons_succ, List.getElem?_cons_zero, Option.getD_some, and_true, true_and, List.append_toArray, List.nil_append, List.cons_append, List.toList_toArray, Array.toList_append, Option.toArray, List.append_nil] at hA)
    go_simp
    refine (spoilt_c tc H3 _ _ _ _ _ (hS.ple.trans hx.ple) hTc (i64_tdiv (by omega) hat) (i64_tdiv (by omega) hhow) (by unfold I64; omega) (by omega)).mono ?_
    rintro e w6 ⟨cs, t', rfl, h4, h5, h6⟩
    exact hK _ _ h6 ⟨cs, t', rfl, mono_ThingR _ _ _ _ (up_sub hS.ple hx) h4, h5⟩
  (refine walkI_nil ?_; simp only [List.nil_append, List.cons_append, fins, Is, forall_eq, Act.put, List.setIfInBounds_toArray, List.set_cons_zero, List.set_cons_succ])
  rintro w4 hb4 v ⟨cs, td, rfl, hTd, hbd⟩
  obtain ⟨g1, k1, g2, k2, g3, k3, rfl, -⟩ := hTd.form
  replace hTa := mono_ThingR _ _ _ _ (ple_up hS.ple (w' := w4)) hTa
  replace hTb := mono_ThingR _ _ _ _ (ple_up hS.ple (w' := w4)) hTb
  replace hTc := mono_ThingR _ _ _ _ (ple_up hS.ple (w' := w4)) hTc
  replace hS := (hS.up hb4).new #[.slice x1 ta.cls.length y1, .slice x2 ta.vals.length y2, .slice x3 ta.parts.length y3, .slice z1 tb.cls.length v1, .slice z2 tb.vals.length v2, .slice z3 tb.parts.length v3, .slice s1 tc.cls.length u1, .slice s2 tc.vals.length u2, .slice s3 tc.parts.length u3, .slice g1 td.cls.length k1, .slice g2 td.vals.length k2, .slice g3 td.parts.length k3] 27
  generalize up H3 _ w4 = H4 at *
  have hO := (hS.asOwn 3 (xs := [ta, tb, tc, td]) (n := 4) (sz := 3) rfl mono_ThingR (by simp) (by simp [maxLen]) rfl ⟨_, _, rfl, rfl, hTa, _, _, rfl, rfl, hTb, _, _, rfl, rfl, hTc, _, [], rfl, rfl, hTd, rfl⟩).ownS 3 rfl
  have hub := hS.ub
  have hex := hS.ex
  replace hO := Lib.hid hO
  clear hS q1 q2 q3 r1 r2 r3 o1 o2 o3 hw3 hw9 hwz
  go_wp2_with fail
  go_ret
  exact ⟨_, _, _, rfl, hO.out, hub, rfl, fun x hx => (by simp only [List.mem_cons, List.not_mem_nil, or_false] at hx; rcases hx with rfl | rfl | rfl | rfl <;> omega), hex⟩
end Go.Proofs.YtnhcplmcddlgnaaGreat
namespace Go.Proofs.YtnhcplmcddlgnaaGreat
open Go.RowKit
set_option linter.unusedSimpArgs false
set_option linter.unusedVariables false
set_option maxHeartbeats 400000 in
theorem sameBytes_c (va vb : Value) (l m : List UInt8) (w : World) (ha : BytesR (ph w) va l) (hb : BytesR (ph w) vb m) :
    Calls Tryz.prog 27 #[va, vb] w (RetV w (.bool (B (l = m)))) := by
  obtain ⟨a, c, rfl, hlen, ha⟩ := ha.form
  obtain ⟨a', c', rfl, hlen', hb⟩ := hb.form
  by_cases hl : l.length = m.length
  · have HL := Lib.hid hl
    have hlb : ((l.length : Int) == (m.length : Int)) = true := by simp [hl]
    clear hl
    go_enter Tryz.func27, Tryz.ntmps27
    go_wp2_with fail
    go_loopw [5] (fun i wr => ∃ k : Nat, k ≤ l.length ∧ i = .int .i64 k ∧ Hid (l.take k = m.take k) ∧ Ext w wr) (fun i _ => l.length - (intOf i).toNat)
    case atStart => exact ⟨0, Nat.zero_le _, rfl, Lib.hid (by simp), (by with_reducible repeat (first | assumption | exact Ext.rfl' _ | exact Ext.new _ _ | refine Ext.alloc' ?_ _ | refine Ext.drew' ?_ | refine Ext.drewN' ?_ _ | (refine Ext.set' ?_ ?_ _; rotate_left; focus (first | omega | (simp; done) | (simp; omega))) | (refine Ext.then (b := ?_) ?_ ?_; rotate_left; rotate_left; assumption)))⟩
    case round =>
      obtain ⟨k, hk, rfl, ht, hx⟩ := hrel
      by_cases hlt : k < l.length
      · have hlm : k < m.length := by have := HL.out; omega
        obtain ⟨b, o, rfl, h0, hbl⟩ := BytesR.at (ha.mono mono_ByteR hx.ple) k hlt
        obtain ⟨b', o', rfl, h0', hbl'⟩ := BytesR.at (hb.mono mono_ByteR hx.ple) k hlm
        generalize hx1 : l[k] = x at *
        generalize hx2 : m[k] = y at *
        replace hx1 := Lib.hid hx1
        replace hx2 := Lib.hid hx2
        clear ha hb
        go_wp2_with fail
        (refine wp_region_calm (S := fun w' => Ext _ w') (by kernel_rfl) (by kernel_rfl) (Ext.rfl' _).drew' ?_; (try simp only [List.toList_toArray]); (repeat (first | (refine walkF_skip ?_ ?_; (focus rfl); (try simp only [Act.put, List.setIfInBounds_toArray, List.set_cons_zero, List.set_cons_succ])) | (refine walkF_step (v := ?_) rfl ?_ ?_ ?_; rotate_left; (focus rfl); (focus (intro w' hS A hA K hK; (simp only [agrees, Op.operands, Call.operands, Act.eval, Array.getD_eq_getD_getElem?, List.getElem?_toArray, List.getElem?_cons_succ, List.getElem?_cons_zero, Option.getD_some, and_true, true_and, List.append_toArray, List.nil_append, List.cons_append, List.toList_toArray, Array.toList_append] at hA); first | fail | (obtain ⟨hSc, hSf, hSs⟩ := hS.cells; go_simp; exact hK _ hS))); (try simp only [Act.put, List.setIfInBounds_toArray, List.set_cons_zero, List.set_cons_succ])))); refine walkF_nil ?_)
        intro w2 hw2
        by_cases hxy : x = y
        · subst hxy
          go_wp2_with fail
          all_goals first
            | (exfalso; simp_all; done)
            | (go_roundw
               case rel => exact ⟨k + 1, by omega, by go_num, Lib.hid (by rw [take_snoc l k hlt, take_snoc m k hlm, ht.out, hx1.out, hx2.out]), (by with_reducible repeat (first | assumption | exact Ext.rfl' _ | exact Ext.new _ _ | refine Ext.alloc' ?_ _ | refine Ext.drew' ?_ | refine Ext.drewN' ?_ _ | (refine Ext.set' ?_ ?_ _; rotate_left; focus (first | omega | (simp; done) | (simp; omega))) | (refine Ext.then (b := ?_) ?_ ?_; rotate_left; rotate_left; assumption)))⟩
               case measure => simp [intOf]; omega)
        · have hn : ((x.toNat : Int) == (y.toNat : Int)) = false := by
            rw [beq_eq_false_iff_ne]; intro h; apply hxy; exact UInt8.toNat_inj.1 (by omega)
          replace hxy := Lib.hid hxy
          go_wp2_with fail
          all_goals first
            | (exfalso; simp_all; done)
            | (go_ret
               refine ⟨ret_f (fun h => ?_), (by with_reducible repeat (first | assumption | exact Ext.rfl' _ | exact Ext.new _ _ | refine Ext.alloc' ?_ _ | refine Ext.drew' ?_ | refine Ext.drewN' ?_ _ | (refine Ext.set' ?_ ?_ _; rotate_left; focus (first | omega | (simp; done) | (simp; omega))) | (refine Ext.then (b := ?_) ?_ ?_; rotate_left; rotate_left; assumption)))⟩
               subst h
               exact hxy.out (hx1.out.symm.trans hx2.out))
      · have hkl : k = l.length := by omega
        clear ha hb
        go_wp2_with fail
        go_ret
        refine ⟨ret_t ?_, (by with_reducible repeat (first | assumption | exact Ext.rfl' _ | exact Ext.new _ _ | refine Ext.alloc' ?_ _ | refine Ext.drew' ?_ | refine Ext.drewN' ?_ _ | (refine Ext.set' ?_ ?_ _; rotate_left; focus (first | omega | (simp; done) | (simp; omega))) | (refine Ext.then (b := ?_) ?_ ?_; rotate_left; rotate_left; assumption)))⟩
        have h1 := ht.out
        rw [List.take_of_length_le (by omega), List.take_of_length_le (by have := HL.out; omega)] at h1
        exact h1
  · have HL : Hid (¬ l = m) := fun h => hl (by rw [h])
    have hlb : ((l.length : Int) == (m.length : Int)) = false := by rw [beq_eq_false_iff_ne]; omega
    clear hl
    go_enter Tryz.func27, Tryz.ntmps27
    go_wp2_with fail
    go_ret
    exact ⟨ret_f HL.out, (by with_reducible repeat (first | assumption | exact Ext.rfl' _ | exact Ext.new _ _ | refine Ext.alloc' ?_ _ | refine Ext.drew' ?_ | refine Ext.drewN' ?_ _ | (refine Ext.set' ?_ ?_ _; rotate_left; focus (first | omega | (simp; done) | (simp; omega))) | (refine Ext.then (b := ?_) ?_ ?_; rotate_left; rotate_left; assumption)))⟩
end Go.Proofs.YtnhcplmcddlgnaaGreat
namespace Go.Proofs.YtnhcplmcddlgnaaGreat
open Go.RowKit
set_option linter.unusedSimpArgs false
set_option linter.unusedVariables false
def lifeT : Thing := .mk [2, 5] [⟨1, ⟨3, 2⟩⟩] [.mk [0] [] []]
theorem lifeT_enc : enc lifeT = [2, 4, 10, 2, 2, 6, 4, 2, 1, 0, 0, 0] := by
  simp [lifeT, enc, encTs, encInts, encL, encI, encVs, encV, Lib.zigzag, Lib.uvarint_small]
theorem lifeT_valid : validV lifeT = 0 := by
  have h1 : Thing.size lifeT = 2 := rfl
  have h2 : Thing.deep lifeT = 2 := rfl
  rw [validV, h1, h2, if_pos (by omega)]
  refine ErrIf_t ?_
  rw [Thing.formed_iff]
  simp only [lifeT, Thing.vals, Thing.cls, Thing.parts, List.mem_singleton, forall_eq]
  have e0 : ∀ m, Inc [] m := fun m k h => by simp at h
  have e1 : ∀ x m : Int, 0 ≤ x → x < m → Inc [x] m := fun x m h1 h2 k h => by
    match k, h with
    | 0, _ => simp; omega
  refine ⟨by simp [GoodP, RatOk]; try decide, fun k h => ?_, e1 1 32 (by decide) (by decide), ?_⟩
  · match k, h with
    | 0, _ => simp
    | 1, _ => simp
  · rw [Thing.formed_iff]
    simp only [Thing.vals, Thing.cls, Thing.parts]
    exact ⟨by simp, e1 0 64 (by omega) (by omega), e0 _, by simp⟩
theorem slice_of_own {α : Type} {E : PH → List Value → α → Prop} {sz : Nat} {w : World} {b n : Nat} {cur : Array Value} {T : TypeId} {xs : List α} (hO : Own w b cur T) (hc : Cells (ph w) E sz cur.toList xs) (hn : n = xs.length) (hm : n ≤ maxLen) :
    SliceRep E sz (ph w) (.slice (some ⟨b, 0, none⟩) n n) xs := by
  subst hn
  refine ⟨_, _, rfl, Nat.le_refl _, hm, .inr ⟨b, 0, rfl, hc.row (fun _ _ h => h) fun j u hu => ?_⟩⟩
  rw [← cell_ph, Nat.zero_add, hO.facts.1]
  simpa using hu
theorem lifeT_rep {w : World} {b1 b2 b3 b4 : Nat} (h1 : Own w b1 #[.int .i64 2, .int .i64 5] 3) (h2 : Own w b2 #[.int .i64 1, .int .i64 3, .int .i64 2] 46) (h3 : Own w b3 #[.int .i64 0] 3)
    (h4 : Own w b4 #[.slice (some ⟨b3, 0, none⟩) 1 1, .slice none 0 0, .slice none 0 0] 27) :
    ThingR (ph w) [.slice (some ⟨b1, 0, none⟩) 2 2, .slice (some ⟨b2, 0, none⟩) 1 1, .slice (some ⟨b4, 0, none⟩) 1 1] lifeT := by
  have i : ∀ n : Int, 0 ≤ n → n ≤ 5 → I64 n := fun n h h' => by unfold I64; omega
  rw [thingR_iff]
  refine ⟨_, _, _, rfl, ?_, ?_, ?_⟩
  · exact slice_of_own h1 ⟨[_], [.int .i64 5], rfl, rfl, ⟨rfl, i _ (by omega) (by omega)⟩, [_], [], rfl, rfl, ⟨rfl, i _ (by omega) (by omega)⟩, rfl⟩ rfl (by simp [maxLen])
  · exact slice_of_own h2 ⟨[.int .i64 1, .int .i64 3, .int .i64 2], [], rfl, rfl, ⟨rfl, i 1 (by omega) (by omega), i 3 (by omega) (by omega), i 2 (by omega) (by omega)⟩, rfl⟩ rfl (by simp [maxLen])
  · refine slice_of_own h4 ⟨[.slice (some ⟨b3, 0, none⟩) 1 1, .slice none 0 0, .slice none 0 0], [], rfl, rfl, ?_, rfl⟩ rfl (by simp [maxLen])
    rw [thingR_iff]
    refine ⟨_, _, _, rfl, ?_, SliceRep.nil _ _ _, SliceRep.nil _ _ _⟩
    exact slice_of_own h3 ⟨[_], [], rfl, rfl, ⟨rfl, i _ (by omega) (by omega)⟩, rfl⟩ rfl (by simp [maxLen])
theorem cells_bytes {h : PH} : ∀ l : List UInt8, Cells h ByteR 1 (l.map fun b => Value.int .u8 b.toNat) l
  | [] => rfl
  | x :: xs => ⟨[.int .u8 x.toNat], _, rfl, rfl, rfl, cells_bytes xs⟩
set_option maxHeartbeats 1000000 in
theorem lives_c (w : World) : Calls Tryz.prog 13 #[] w (RetV w (.bool true)) := by
  have hen := Lib.hid lifeT_enc
  have hva := Lib.hid lifeT_valid
  have hbk : lifeT.bulk ≤ 1000000 := by simp [Thing.bulk, bulks, lifeT]
  go_enter Tryz.func13, Tryz.ntmps13
  go_wp2_with fail
  refine (encode_c lifeT _ _ (lifeT_rep (b3 := w.heap.size + 1 + 1) (by repeat (first | (with_reducible assumption) | (with_reducible exact Own.new _ _ _) | (with_reducible refine Own.new' _ _ _ ?_; (focus (simp; done))) | (with_reducible refine Own.alloc ?_ _) | (with_reducible refine Own.drew ?_) | (with_reducible refine Own.drewN ?_ _) | (with_reducible refine Own.keep (w := ?_) ?_ ?_; rotate_left; (with_reducible assumption); (exact (by with_reducible repeat (first | assumption | exact Ext.rfl' _ | exact Ext.new _ _ | refine Ext.alloc' ?_ _ | refine Ext.drew' ?_ | refine Ext.drewN' ?_ _ | (refine Ext.set' ?_ ?_ _; rotate_left; focus (first | omega | (simp; done) | (simp; omega))) | (refine Ext.then (b := ?_) ?_ ?_; rotate_left; rotate_left; assumption))))) | (with_reducible refine Own.keep (w := ?_) ?_ ?_; rotate_left; rotate_left; (with_reducible assumption)))) (by repeat (first | (with_reducible assumption) | (with_reducible exact Own.new _ _ _) | (with_reducible refine Own.new' _ _ _ ?_; (focus (simp; done))) | (with_reducible refine Own.alloc ?_ _) | (with_reducible refine Own.drew ?_) | (with_reducible refine Own.drewN ?_ _) | (with_reducible refine Own.keep (w := ?_) ?_ ?_; rotate_left; (with_reducible assumption); (exact (by with_reducible repeat (first | assumption | exact Ext.rfl' _ | exact Ext.new _ _ | refine Ext.alloc' ?_ _ | refine Ext.drew' ?_ | refine Ext.drewN' ?_ _ | (refine Ext.set' ?_ ?_ _; rotate_left; focus (first | omega | (simp; done) | (simp; omega))) | (refine Ext.then (b := ?_) ?_ ?_; rotate_left; rotate_left; assumption))))) | (with_reducible refine Own.keep (w := ?_) ?_ ?_; rotate_left; rotate_left; (with_reducible assumption)))) (by repeat (first | (with_reducible assumption) | (with_reducible exact Own.new _ _ _) | (with_reducible refine Own.new' _ _ _ ?_; (focus (simp; done))) | (with_reducible refine Own.alloc ?_ _) | (with_reducible refine Own.drew ?_) | (with_reducible refine Own.drewN ?_ _) | (with_reducible refine Own.keep (w := ?_) ?_ ?_; rotate_left; (with_reducible assumption); (exact (by with_reducible repeat (first | assumption | exact Ext.rfl' _ | exact Ext.new _ _ | refine Ext.alloc' ?_ _ | refine Ext.drew' ?_ | refine Ext.drewN' ?_ _ | (refine Ext.set' ?_ ?_ _; rotate_left; focus (first | omega | (simp; done) | (simp; omega))) | (refine Ext.then (b := ?_) ?_ ?_; rotate_left; rotate_left; assumption))))) | (with_reducible refine Own.keep (w := ?_) ?_ ?_; rotate_left; rotate_left; (with_reducible assumption)))) (by repeat (first | (with_reducible assumption) | (with_reducible exact Own.new _ _ _) | (with_reducible refine Own.new' _ _ _ ?_; (focus (simp; done))) | (with_reducible refine Own.alloc ?_ _) | (with_reducible refine Own.drew ?_) | (with_reducible refine Own.drewN ?_ _) | (with_reducible refine Own.keep (w := ?_) ?_ ?_; rotate_left; (with_reducible assumption); (exact (by with_reducible repeat (first | assumption | exact Ext.rfl' _ | exact Ext.new _ _ | refine Ext.alloc' ?_ _ | refine Ext.drew' ?_ | refine Ext.drewN' ?_ _ | (refine Ext.set' ?_ ?_ _; rotate_left; focus (first | omega | (simp; done) | (simp; omega))) | (refine Ext.then (b := ?_) ?_ ?_; rotate_left; rotate_left; assumption))))) | (with_reducible refine Own.keep (w := ?_) ?_ ?_; rotate_left; rotate_left; (with_reducible assumption))))) hbk).mono ?_
  rintro e w1 ⟨v, rfl, hF, hb1⟩
  have hR := mono_ThingR _ _ _ _ hb1.ple (lifeT_rep (b1 := w.heap.size) (b2 := w.heap.size + 1) (b3 := w.heap.size + 1 + 1) (b4 := w.heap.size + 1 + 1 + 1) (by repeat (first | (with_reducible assumption) | (with_reducible exact Own.new _ _ _) | (with_reducible refine Own.new' _ _ _ ?_; (focus (simp; done))) | (with_reducible refine Own.alloc ?_ _) | (with_reducible refine Own.drew ?_) | (with_reducible refine Own.drewN ?_ _) | (with_reducible refine Own.keep (w := ?_) ?_ ?_; rotate_left; (with_reducible assumption); (exact (by with_reducible repeat (first | assumption | exact Ext.rfl' _ | exact Ext.new _ _ | refine Ext.alloc' ?_ _ | refine Ext.drew' ?_ | refine Ext.drewN' ?_ _ | (refine Ext.set' ?_ ?_ _; rotate_left; focus (first | omega | (simp; done) | (simp; omega))) | (refine Ext.then (b := ?_) ?_ ?_; rotate_left; rotate_left; assumption))))) | (with_reducible refine Own.keep (w := ?_) ?_ ?_; rotate_left; rotate_left; (with_reducible assumption)))) (by repeat (first | (with_reducible assumption) | (with_reducible exact Own.new _ _ _) | (with_reducible refine Own.new' _ _ _ ?_; (focus (simp; done))) | (with_reducible refine Own.alloc ?_ _) | (with_reducible refine Own.drew ?_) | (with_reducible refine Own.drewN ?_ _) | (with_reducible refine Own.keep (w := ?_) ?_ ?_; rotate_left; (with_reducible assumption); (exact (by with_reducible repeat (first | assumption | exact Ext.rfl' _ | exact Ext.new _ _ | refine Ext.alloc' ?_ _ | refine Ext.drew' ?_ | refine Ext.drewN' ?_ _ | (refine Ext.set' ?_ ?_ _; rotate_left; focus (first | omega | (simp; done) | (simp; omega))) | (refine Ext.then (b := ?_) ?_ ?_; rotate_left; rotate_left; assumption))))) | (with_reducible refine Own.keep (w := ?_) ?_ ?_; rotate_left; rotate_left; (with_reducible assumption)))) (by repeat (first | (with_reducible assumption) | (with_reducible exact Own.new _ _ _) | (with_reducible refine Own.new' _ _ _ ?_; (focus (simp; done))) | (with_reducible refine Own.alloc ?_ _) | (with_reducible refine Own.drew ?_) | (with_reducible refine Own.drewN ?_ _) | (with_reducible refine Own.keep (w := ?_) ?_ ?_; rotate_left; (with_reducible assumption); (exact (by with_reducible repeat (first | assumption | exact Ext.rfl' _ | exact Ext.new _ _ | refine Ext.alloc' ?_ _ | refine Ext.drew' ?_ | refine Ext.drewN' ?_ _ | (refine Ext.set' ?_ ?_ _; rotate_left; focus (first | omega | (simp; done) | (simp; omega))) | (refine Ext.then (b := ?_) ?_ ?_; rotate_left; rotate_left; assumption))))) | (with_reducible refine Own.keep (w := ?_) ?_ ?_; rotate_left; rotate_left; (with_reducible assumption)))) (by repeat (first | (with_reducible assumption) | (with_reducible exact Own.new _ _ _) | (with_reducible refine Own.new' _ _ _ ?_; (focus (simp; done))) | (with_reducible refine Own.alloc ?_ _) | (with_reducible refine Own.drew ?_) | (with_reducible refine Own.drewN ?_ _) | (with_reducible refine Own.keep (w := ?_) ?_ ?_; rotate_left; (with_reducible assumption); (exact (by with_reducible repeat (first | assumption | exact Ext.rfl' _ | exact Ext.new _ _ | refine Ext.alloc' ?_ _ | refine Ext.drew' ?_ | refine Ext.drewN' ?_ _ | (refine Ext.set' ?_ ?_ _; rotate_left; focus (first | omega | (simp; done) | (simp; omega))) | (refine Ext.then (b := ?_) ?_ ?_; rotate_left; rotate_left; assumption))))) | (with_reducible refine Own.keep (w := ?_) ?_ ?_; rotate_left; rotate_left; (with_reducible assumption)))))
  have hO : Own w1 (w.heap.size + 1 + 1 + 1 + 1) #[.slice (some ⟨w.heap.size, 0, none⟩) 2 2, .slice (some ⟨w.heap.size + 1, 0, none⟩) 1 1, .slice (some ⟨w.heap.size + 1 + 1 + 1, 0, none⟩) 1 1] 27 := Own.keep (Own.new' _ _ _ (by simp)) hb1
  have hB := hF.rep mono_ByteR (noH_le _)
  rw [show encOf lifeT = [2, 4, 10, 2, 2, 6, 4, 2, 1, 0, 0, 0] by unfold encOf; rw [if_pos hva.out, hen.out]] at hB
  have hb : Ext w w1 := (by with_reducible repeat (first | assumption | exact Ext.rfl' _ | exact Ext.new _ _ | refine Ext.alloc' ?_ _ | refine Ext.drew' ?_ | refine Ext.drewN' ?_ _ | (refine Ext.set' ?_ ?_ _; rotate_left; focus (first | omega | (simp; done) | (simp; omega))) | (refine Ext.then (b := ?_) ?_ ?_; rotate_left; rotate_left; assumption)))
  clear hF hb1
  rw [hva.out]
  obtain ⟨hoc, hof⟩ := hO.facts
  have hbl := hO.lt
  obtain ⟨a, c, rfl, -, hB⟩ := hB.form
  have h1 : Hid (Thing.size lifeT = 2) := Lib.hid rfl
  have h2 : Hid (Thing.deep lifeT = 2) := Lib.hid rfl
  generalize lifeT = t at *
  go_wp2_with fail
  refine (size_c t _ _ hR (by rw [h1.out]; omega)).mono ?_
  rintro e w2 ⟨rfl, hb2⟩
  rw [h1.out]
  clear hoc hof hbl
  replace hb : Ext w w2 := (by with_reducible repeat (first | assumption | exact Ext.rfl' _ | exact Ext.new _ _ | refine Ext.alloc' ?_ _ | refine Ext.drew' ?_ | refine Ext.drewN' ?_ _ | (refine Ext.set' ?_ ?_ _; rotate_left; focus (first | omega | (simp; done) | (simp; omega))) | (refine Ext.then (b := ?_) ?_ ?_; rotate_left; rotate_left; assumption)))
  replace hR := mono_ThingR _ _ _ _ hb2.ple hR
  replace hO := hO.keep hb2
  replace hB := hB.mono mono_ByteR hb2.ple
  obtain ⟨hoc, hof⟩ := hO.facts
  have hbl := hO.lt
  clear hb2
  go_wp2_with fail
  refine (deep_c t _ _ hR (by rw [h2.out]; omega)).mono ?_
  rintro e w3 ⟨rfl, hb2⟩
  rw [h2.out]
  clear hoc hof hbl
  replace hb : Ext w w3 := (by with_reducible repeat (first | assumption | exact Ext.rfl' _ | exact Ext.new _ _ | refine Ext.alloc' ?_ _ | refine Ext.drew' ?_ | refine Ext.drewN' ?_ _ | (refine Ext.set' ?_ ?_ _; rotate_left; focus (first | omega | (simp; done) | (simp; omega))) | (refine Ext.then (b := ?_) ?_ ?_; rotate_left; rotate_left; assumption)))
  replace hB := hB.mono mono_ByteR hb2.ple
  clear hb2 hR hO
  go_wp2_with fail
  refine (sameBytes_c _ _ [2, 4, 10, 2, 2, 6, 4, 2, 1, 0, 0, 0] [2, 4, 10, 2, 2, 6, 4, 2, 1, 0, 0, 0] _ (hB.mono mono_ByteR (Ext.ple (by with_reducible repeat (first | assumption | exact Ext.rfl' _ | exact Ext.new _ _ | refine Ext.alloc' ?_ _ | refine Ext.drew' ?_ | refine Ext.drewN' ?_ _ | (refine Ext.set' ?_ ?_ _; rotate_left; focus (first | omega | (simp; done) | (simp; omega))) | (refine Ext.then (b := ?_) ?_ ?_; rotate_left; rotate_left; assumption))))) (slice_of_own (Own.new _ _ _) (cells_bytes _) rfl (by simp [maxLen]))).mono ?_
  rintro e w4 ⟨rfl, hb4⟩
  rw [B_t rfl]
  go_wp2_with fail
  go_ret
  exact ⟨rfl, (by with_reducible repeat (first | assumption | exact Ext.rfl' _ | exact Ext.new _ _ | refine Ext.alloc' ?_ _ | refine Ext.drew' ?_ | refine Ext.drewN' ?_ _ | (refine Ext.set' ?_ ?_ _; rotate_left; focus (first | omega | (simp; done) | (simp; omega))) | (refine Ext.then (b := ?_) ?_ ?_; rotate_left; rotate_left; assumption)))⟩
end Go.Proofs.YtnhcplmcddlgnaaGreat
