/- Lemmas for FX, part 10: things of the reference: Size, Deep, formed, Valid, Value (as in SizeDeep and RefValid, for the seats of formu, and more. -/
import Derived.Laws.EntriesVeiled
import Derived.Deep.CutBlock
import Derived.Test.YtbpilielamjnoaaGreatFX01
import Derived.Test.YtbpilielamjnoaaGreatFX04
import Derived.Test.YtbpilielamjnoaaGreatFX05
import Derived.Test.YtbpilielamjnoaaGreatFX06
import Derived.Test.YtbpilielamjnoaaGreatFX07
import Derived.Test.YtbpilielamjnoaaGreatFX08
set_option linter.unusedSimpArgs false
set_option linter.unusedVariables false
namespace Go.Proofs.YtbpilielamjnoaaGreat
open Go.RowKit
set_option maxHeartbeats 400000 in
theorem size_r (t : Thing) : ∀ (cs : List Value) (w : World), ThingR (ph w) cs t → t.size < 1000000 →
    Calls Tryz.prog 78 #[.agg cs.toArray] w (RetV w (.int .i64 t.size)) := by
  induction t using Thing.ind with
  | h t ih =>
    intro cs w hr hs
    obtain ⟨a1, c1, a2, c2, a3, c3, rfl, -, -, hlen, -, -, hp⟩ := hr.form
    rw [Thing.size_eq] at hs
    go_enter Tryz.func78, Tryz.ntmps78
    go_wp2
    go_loopw [3, 4] (fun n i wr => ∃ k : Nat, k ≤ t.parts.length ∧ i = .int .i64 k ∧ n = .int .i64 (1 + sumN Thing.size (t.parts.take k) : Nat) ∧ Own wr w.heap.size #[.slice a1 t.cls.length c1, .slice a2 t.vals.length c2, .slice a3 t.parts.length c3] 41 ∧ Ext w wr) (fun _ i _ => t.parts.length - (intOf i).toNat)
    case atStart => exact ⟨0, Nat.zero_le _, rfl, by simp [sumN], oE, xE⟩
    case round =>
      obtain ⟨k, hk, rfl, rfl, ho, hb⟩ := hrel
      obtain ⟨hoc, hof⟩ := ho.facts
      have hst := sumN_take_le Thing.size t.parts k
      by_cases hlt : k < t.parts.length
      · have hp' := hp.mono mono_ThingR hb.ple
        obtain ⟨b, o, b1, d1, b2, d2, b3, d3, rfl, h0, h1, h2, hE, hbl⟩ := ThingsR.at hp' k hlt
        have H3 := Lib.hid (sumN_take Thing.size t.parts k hlt)
        have hst2 := sumN_take_le Thing.size t.parts (k+1)
        rw [H3.out] at hst2
        have H := Lib.hid ih
        clear ih hp hp'
        go_wp2_with fail
        refine (H.out _ (by simp) _ _ (mono_ThingR _ _ _ _ (Ext.ple xE) hE) (by omega)).mono ?_
        rintro e w1 ⟨rfl, hb1⟩
        go_wp2_with fail
        go_roundw
        case rel => exact ⟨k + 1, by omega, by go_num, by rw [H3.out]; go_num, oE, xE⟩
        case measure => simp [intOf]; omega
      · have hst2 : t.parts.take k = t.parts := List.take_of_length_le (by omega)
        have H3 := Lib.hid hst2
        clear hst2 ih hp
        go_wp2_with fail
        go_ret
        refine ⟨ret_int ?_, hb⟩
        rw [H3.out, Thing.size_eq]
set_option maxHeartbeats 400000 in
theorem deep_r (t : Thing) : ∀ (cs : List Value) (w : World), ThingR (ph w) cs t → t.deep < 1000000 →
    Calls Tryz.prog 79 #[.agg cs.toArray] w (RetV w (.int .i64 t.deep)) := by
  induction t using Thing.ind with
  | h t ih =>
    intro cs w hr hs
    obtain ⟨a1, c1, a2, c2, a3, c3, rfl, -, -, hlen, -, -, hp⟩ := hr.form
    rw [Thing.deep_eq] at hs
    go_enter Tryz.func79, Tryz.ntmps79
    go_wp2
    go_loopw [3, 4] (fun n i wr => ∃ k : Nat, k ≤ t.parts.length ∧ i = .int .i64 k ∧ n = .int .i64 (maxN Thing.deep (t.parts.take k) : Nat) ∧ Own wr w.heap.size #[.slice a1 t.cls.length c1, .slice a2 t.vals.length c2, .slice a3 t.parts.length c3] 41 ∧ Ext w wr) (fun _ i _ => t.parts.length - (intOf i).toNat)
    case atStart => exact ⟨0, Nat.zero_le _, rfl, by simp [maxN], oE, xE⟩
    case round =>
      obtain ⟨k, hk, rfl, rfl, ho, hb⟩ := hrel
      obtain ⟨hoc, hof⟩ := ho.facts
      have hst := maxN_take_le Thing.deep t.parts k
      by_cases hlt : k < t.parts.length
      · have hp' := hp.mono mono_ThingR hb.ple
        obtain ⟨b, o, b1, d1, b2, d2, b3, d3, rfl, h0, h1, h2, hE, hbl⟩ := ThingsR.at hp' k hlt
        have H3 := Lib.hid (maxN_take Thing.deep t.parts k hlt)
        have hst2 := maxN_take_le Thing.deep t.parts (k+1)
        rw [H3.out] at hst2
        have H := Lib.hid ih
        clear ih hp hp'
        go_wp2_with fail
        refine (H.out _ (by simp) _ _ (mono_ThingR _ _ _ _ (Ext.ple xE) hE) (by omega)).mono ?_
        rintro e w1 ⟨rfl, hb1⟩
        go_wp2_with fail
        go_roundw
        case rel => exact ⟨k + 1, by omega, by go_num, by rw [H3.out]; go_num, oE, xE⟩
        case measure => simp [intOf]; omega
      · have hst2 : t.parts.take k = t.parts := List.take_of_length_le (by omega)
        have H3 := Lib.hid hst2
        clear hst2 ih hp
        go_wp2_with fail
        go_ret
        refine ⟨ret_int ?_, hb⟩
        rw [H3.out, Thing.deep_eq]; omega
theorem inc_of {l : List Int} {m : Int} (h : ∀ j, j < l.length → incAt l m j) : Inc l m := fun j hj => h j hj hj
set_option maxRecDepth 100000 in
set_option maxHeartbeats 1000000 in
theorem formed_r (t : Thing) : ∀ (cs : List Value) (w : World), ThingR (ph w) cs t →
    Calls Tryz.prog 80 #[.agg cs.toArray] w (RetV w (.bool (B t.formed))) := by
  induction t using Thing.ind with
  | h t ih =>
    intro cs w hr
    obtain ⟨a1, c1, a2, c2, a3, c3, rfl, l1, l2, l3, hc, hv, hp⟩ := hr.form
    have HI := Lib.hid ih; clear ih
    have hF := Lib.hid (Thing.formed_iff t)
    go_enter Tryz.func80, Tryz.ntmps80
    go_wp2_with fail
    go_loopw [3] (fun i wr => ∃ k : Nat, k ≤ t.cls.length ∧ i = .int .i64 k ∧ Hid (∀ j, j < k → incAt t.cls 64 j) ∧ Own wr w.heap.size #[.slice a1 t.cls.length c1, .slice a2 t.vals.length c2, .slice a3 t.parts.length c3] 41 ∧ Ext w wr) (fun i _ => t.cls.length - (intOf i).toNat)
    case atStart => exact ⟨0, Nat.zero_le _, rfl, Lib.hid (by simp), oE, xE⟩
    case round =>
      obtain ⟨k, hk, rfl, hi, ho, hb⟩ := hrel
      obtain ⟨q1, q2⟩ := ho.facts
      have q3 := ho.lt
      by_cases hlt : k < t.cls.length
      · have hc' := hc.mono mono_IntR hb.ple
        obtain ⟨b, o, rfl, h0, hi64, hbl⟩ := IntsR.at hc' k hlt
        have hkk : (¬ 0 < k ∧ (incAt t.cls 64 k ↔ 0 ≤ t.cls[k] ∧ t.cls[k] < 64)) ∨ (0 < k ∧ ∃ y, wr.cell? ⟨b, o + (k - 1), none⟩ = some (.int .i64 y) ∧ (incAt t.cls 64 k ↔ 0 ≤ t.cls[k] ∧ t.cls[k] < 64 ∧ y < t.cls[k])) := by
          by_cases hk0 : 0 < k
          · obtain ⟨b', o', he, h0', -, -⟩ := IntsR.at hc' (k - 1) (by omega)
            simp only [Option.some.injEq, Addr.mk.injEq, and_true] at he
            obtain ⟨rfl, rfl⟩ := he
            exact .inr ⟨hk0, _, h0', ⟨fun h => ⟨(h hlt).1, (h hlt).2.1, (h hlt).2.2 hk0⟩, fun h _ => ⟨h.1, h.2.1, fun _ => h.2.2⟩⟩⟩
          · exact .inl ⟨hk0, ⟨fun h => ⟨(h hlt).1, (h hlt).2.1⟩, fun h _ => ⟨h.1, h.2, fun h' => absurd h' hk0⟩⟩⟩
        generalize t.cls[k] = x at *
        clear hc hc'
        have bad : ¬ incAt t.cls 64 k → RetV w (.bool (B t.formed)) (.returned (.bool false)) wr := fun h => ⟨ret_f (fun h' => h ((hF.out.1 h').2.1 k)), hb⟩
        have good : incAt t.cls 64 k → ∀ j, j < k + 1 → incAt t.cls 64 j := fun h => below_succ hi.out h
        replace bad := Lib.hid bad
        replace good := Lib.hid good
        rcases hkk with ⟨hk0, hat⟩ | ⟨hk0, y, hy, hat⟩
        all_goals
          replace hat := Lib.hid hat
          by_cases g1 : x < 0
          · go_wp2_with fail
            go_ret
            exact bad.out (fun h => by have := hat.out.1 h; omega)
          · by_cases g2 : 63 < x
            · go_wp2_with fail
              go_ret
              exact bad.out (fun h => by have := hat.out.1 h; omega)
            · try by_cases g3 : x ≤ y
              all_goals
                go_wp2_with fail
                first
                | (go_ret
                   exact bad.out (fun h => by have := hat.out.1 h; omega))
                | (go_roundw
                   case rel => exact ⟨_, hlt, by go_num, Lib.hid (good.out (hat.out.2 (by omega))), oE, xE⟩
                   case measure => simp [intOf]; omega)
      · have hcl : Hid (Inc t.cls 64) := inc_of fun j hj => hi.out j (by omega)
        clear hc hi
        go_wp2_with fail
        go_loopw [5] (fun i wr => ∃ k : Nat, k ≤ t.vals.length ∧ i = .int .i64 k ∧ Hid (∀ x ∈ t.vals.take k, GoodP x.n) ∧ Hid (∀ j, j < k → incAt (t.vals.map Val.attr) 32 j) ∧ Own wr w.heap.size #[.slice a1 t.cls.length c1, .slice a2 t.vals.length c2, .slice a3 t.parts.length c3] 41 ∧ Ext w wr) (fun i _ => t.vals.length - (intOf i).toNat)
        case atStart => exact ⟨0, Nat.zero_le _, rfl, Lib.hid (by simp), Lib.hid (by simp), oE, xE⟩
        case round =>
          clear ho hb q1 q2 q3
          obtain ⟨k, hk, rfl, hg, hi, ho, hb⟩ := hrel
          obtain ⟨q1, q2⟩ := ho.facts
          have q3 := ho.lt
          by_cases hlt : k < t.vals.length
          · have hv' := hv.mono mono_ValR hb.ple
            obtain ⟨b, o, rfl, h0, h1, h2, i0, i1, i2, hbl⟩ := ValsR.at hv' k hlt
            have hml : k < (t.vals.map Val.attr).length := by simpa using hlt
            have hkk : (¬ 0 < k ∧ (incAt (t.vals.map Val.attr) 32 k ↔ 0 ≤ t.vals[k].attr ∧ t.vals[k].attr < 32)) ∨ (0 < k ∧ ∃ y, wr.cell? ⟨b, o + (k - 1) * 3, none⟩ = some (.int .i64 y) ∧ (incAt (t.vals.map Val.attr) 32 k ↔ 0 ≤ t.vals[k].attr ∧ t.vals[k].attr < 32 ∧ y < t.vals[k].attr)) := by
              by_cases hk0 : 0 < k
              · obtain ⟨b', o', he, h0', -⟩ := ValsR.at hv' (k - 1) (by omega)
                simp only [Option.some.injEq, Addr.mk.injEq, and_true] at he
                obtain ⟨rfl, rfl⟩ := he
                exact .inr ⟨hk0, _, h0', ⟨fun h => by have := h hml; simp only [List.getElem_map] at this; exact ⟨this.1, this.2.1, this.2.2 hk0⟩, fun h _ => by simp only [List.getElem_map]; exact ⟨h.1, h.2.1, fun _ => h.2.2⟩⟩⟩
              · exact .inl ⟨hk0, ⟨fun h => by have := h hml; simp only [List.getElem_map] at this; exact ⟨this.1, this.2.1⟩, fun h _ => by simp only [List.getElem_map]; exact ⟨h.1, h.2, fun h' => absurd h' hk0⟩⟩⟩
            have bad : Hid (¬ GoodP t.vals[k].n ∨ ¬ incAt (t.vals.map Val.attr) 32 k → ∀ w', Ext w w' → RetV w (.bool (B t.formed)) (.returned (.bool false)) w') := fun h w' hw' => ⟨ret_f (fun h' => by
              rcases h with h | h
              · exact h ((hF.out.1 h').1 _ (List.getElem_mem hlt))
              · exact h ((hF.out.1 h').2.2.1 k)), hw'⟩
            have good : Hid (GoodP t.vals[k].n → incAt (t.vals.map Val.attr) 32 k → (∀ x ∈ t.vals.take (k + 1), GoodP x.n) ∧ ∀ j, j < k + 1 → incAt (t.vals.map Val.attr) 32 j) := fun h h' => ⟨take_all hlt h hg.out, below_succ hi.out h'⟩
            generalize hve : t.vals[k] = v at *
            replace hve := Lib.hid hve
            clear hv hv'
            go_wp2_with fail
            refine (good6_c v.n _ i1 i2).mono ?_
            rintro e w4 ⟨rfl, hb4⟩
            have hx4 : Ext wr w4 := xE
            have hbW : Ext w w4 := hb.then hx4
            have hoW := ho.keep hx4
            have hoV : Own w4 wr.heap.size #[.int .i64 v.attr, .int .i64 v.n.num, .int .i64 v.n.den] 83 := Own.keep (Own.new _ _ _) hb4
            replace h0 := hx4.cell1 h0
            replace hbl := cell_lt h0
            replace hkk : (¬ 0 < k ∧ Hid (incAt (t.vals.map Val.attr) 32 k ↔ 0 ≤ v.attr ∧ v.attr < 32)) ∨ (0 < k ∧ ∃ y, w4.cell? ⟨b, o + (k - 1) * 3, none⟩ = some (.int .i64 y) ∧ Hid (incAt (t.vals.map Val.attr) 32 k ↔ 0 ≤ v.attr ∧ v.attr < 32 ∧ y < v.attr)) := by
              rcases hkk with ⟨h1, h2⟩ | ⟨h1, y, h2, h3⟩
              · exact .inl ⟨h1, h2⟩
              · exact .inr ⟨h1, y, hx4.cell1 h2, h3⟩
            clear hx4 hb4 ho q1 q2 q3 h1 h2 hb
            obtain ⟨q1, q2⟩ := hoW.facts
            have q3 := hoW.lt
            obtain ⟨r1, r2⟩ := hoV.facts
            have r3 := hoV.lt
            by_cases hG : GoodP v.n
            · rw [B_t hG]
              replace hG := Lib.hid hG
              rcases hkk with ⟨hk0, hat⟩ | ⟨hk0, y, hy, hat⟩
              all_goals
                by_cases g1 : v.attr < 0
                · go_wp2_with fail
                  (refine wp_region_I 28 (by kernel_rfl) (by kernel_rfl) ?_; simp only [List.toList_toArray, List.take_succ_cons, List.take_zero, List.drop_succ_cons, List.drop_zero])
                  (repeat (first | (refine walkI_no rfl (by simp) rfl rfl rfl ?_ ?_; (focus (simp [undef]; done)); (try simp only [List.nil_append, List.cons_append])) | (refine wiA rfl (by simp) rfl ?_; (try simp only [List.nil_append, List.cons_append])) | (refine wyA rfl (by simp) rfl rfl rfl ?_; (try simp only [List.nil_append, List.cons_append]))))
                  (refine walkI_nil ?_; simp only [List.nil_append, List.cons_append, fins, Is, forall_eq, Act.put, List.setIfInBounds_toArray, List.set_cons_zero, List.set_cons_succ])
                  intro w5 hw5
                  go_wp2_with fail
                  go_ret
                  exact bad.out (.inr fun h => by have := hat.out.1 h; omega) _ xE
                · have d1 : decide (v.attr < 0) = false := by simpa using g1
                  by_cases g2 : 31 < v.attr
                  · go_wp2_with fail
                    (refine wp_region_I 28 (by kernel_rfl) (by kernel_rfl) ?_; simp only [List.toList_toArray, List.take_succ_cons, List.take_zero, List.drop_succ_cons, List.drop_zero])
                    (repeat (first | (refine walkI_no rfl (by simp) rfl rfl rfl ?_ ?_; (focus (simp [undef]; done)); (try simp only [List.nil_append, List.cons_append])) | (refine wiA rfl (by simp) rfl ?_; (try simp only [List.nil_append, List.cons_append])) | (refine wyA rfl (by simp) rfl rfl rfl ?_; (try simp only [List.nil_append, List.cons_append]))))
                    (refine walkI_nil ?_; simp only [List.nil_append, List.cons_append, fins, Is, forall_eq, Act.put, List.setIfInBounds_toArray, List.set_cons_zero, List.set_cons_succ])
                    intro w5 hw5
                    go_wp2_with fail
                    go_ret
                    exact bad.out (.inr fun h => by have := hat.out.1 h; omega) _ xE
                  · have d2 : decide (31 < v.attr) = false := by simpa using g2
                    try have d4 : decide (0 < (k : Int)) = false := by simpa using hk0
                    try have d5 : decide (0 < k) = false := by simpa using hk0
                    try have d6 : IntKind.i64.wrap ((k : Int) - 1) = (k : Int) - 1 := (by have : 0 < k := hk0; rw [IntKind.wrap_i64]; omega)
                    try have d7 : (1 : Int) ≤ k := (by have : 0 < k := hk0; omega)
                    try have d8 : (k : Int) - 1 < t.vals.length := (by have : 0 < k := hk0; omega)
                    try have d9 : ((k : Int) - 1).toNat = k - 1 := (by have : 0 < k := hk0; omega)
                    try by_cases g3 : v.attr ≤ y
                    all_goals
                      try have d3 : decide (v.attr ≤ y) = false := by simpa using g3
                      go_wp2_with fail
                      (refine wp_region_I 28 (by kernel_rfl) (by kernel_rfl) ?_; simp only [List.toList_toArray, List.take_succ_cons, List.take_zero, List.drop_succ_cons, List.drop_zero])
                      (repeat (first | (refine walkI_no rfl (by simp) rfl rfl rfl ?_ ?_; (focus (simp [undef]; done)); (try simp only [List.nil_append, List.cons_append])) | (refine wiA rfl (by simp) rfl ?_; (try simp only [List.nil_append, List.cons_append])) | (refine wyA rfl (by simp) rfl rfl rfl ?_; (try simp only [List.nil_append, List.cons_append]))))
                      (refine walkI_nil ?_; simp only [List.nil_append, List.cons_append, fins, Is, forall_eq, Act.put, List.setIfInBounds_toArray, List.set_cons_zero, List.set_cons_succ])
                      intro w5 hw5
                      have hbw5 : Ext w w5 := xE
                      have hoW5 := hoW.keep hw5
                      go_wp2_with fail
                      first
                      | (go_ret
                         exact bad.out (.inr fun h => by have := hat.out.1 h; omega) _ hbw5)
                      | (go_roundw
                         case rel => exact ⟨_, hlt, by go_num, Lib.hid (good.out hG.out (hat.out.2 (by omega))).1, Lib.hid (good.out hG.out (hat.out.2 (by omega))).2, hoW5, hbw5⟩
                         case measure => simp [intOf]; omega)
            · rw [B_f hG]
              replace hG := Lib.hid hG
              go_wp2_with fail
              (refine wp_region_I 28 (by kernel_rfl) (by kernel_rfl) ?_; simp only [List.toList_toArray, List.take_succ_cons, List.take_zero, List.drop_succ_cons, List.drop_zero])
              (repeat (first | (refine walkI_no rfl (by simp) rfl rfl rfl ?_ ?_; (focus (simp [undef]; done)); (try simp only [List.nil_append, List.cons_append])) | (refine wiA rfl (by simp) rfl ?_; (try simp only [List.nil_append, List.cons_append])) | (refine wyA rfl (by simp) rfl rfl rfl ?_; (try simp only [List.nil_append, List.cons_append]))))
              (refine walkI_nil ?_; simp only [List.nil_append, List.cons_append, fins, Is, forall_eq, Act.put, List.setIfInBounds_toArray, List.set_cons_zero, List.set_cons_succ])
              intro w5 hw5
              go_wp2_with fail
              go_ret
              exact bad.out (.inl hG.out) _ xE
          · have hvl : Hid ((∀ x ∈ t.vals, GoodP x.n) ∧ Inc (t.vals.map Val.attr) 32) := ⟨take_done (by omega) hg.out, inc_of fun j hj => hi.out j (by simp at hj; omega)⟩
            clear hv hi hg
            go_wp2_with fail
            go_loopw [8] (fun i wr => ∃ k : Nat, k ≤ t.parts.length ∧ i = .int .i64 k ∧ Hid (∀ p ∈ t.parts.take k, p.formed) ∧ Own wr w.heap.size #[.slice a1 t.cls.length c1, .slice a2 t.vals.length c2, .slice a3 t.parts.length c3] 41 ∧ Ext w wr) (fun i _ => t.parts.length - (intOf i).toNat)
            case atStart => exact ⟨0, Nat.zero_le _, rfl, Lib.hid (by simp), oE, xE⟩
            case round =>
              clear ho hb q1 q2 q3
              obtain ⟨k, hk, rfl, hg, ho, hb⟩ := hrel
              obtain ⟨q1, q2⟩ := ho.facts
              have q3 := ho.lt
              by_cases hlt : k < t.parts.length
              · obtain ⟨b, o, b1, d1, b2, d2, b3, d3, rfl, h0, h1, h2, hE, hbl⟩ := ThingsR.at (hp.mono mono_ThingR hb.ple) k hlt
                have good : Hid (t.parts[k].formed → ∀ p ∈ t.parts.take (k + 1), p.formed) := fun h => take_all hlt h hg.out
                have hpm := List.getElem_mem hlt
                generalize t.parts[k] = p at *
                clear hp
                go_wp2_with fail
                refine (HI.out p hpm _ _ (mono_ThingR _ _ _ _ (Ext.ple xE) hE)).mono ?_
                rintro e w4 ⟨rfl, hb4⟩
                by_cases hG : p.formed
                · rw [B_t hG]
                  replace hG := Lib.hid hG
                  go_wp2_with fail
                  go_roundw
                  case rel => exact ⟨_, hlt, by go_num, Lib.hid (good.out hG.out), oE, xE⟩
                  case measure => simp [intOf]; omega
                · rw [B_f hG]
                  replace hG := Lib.hid hG
                  replace hpm := Lib.hid hpm
                  go_wp2_with fail
                  go_ret
                  exact ⟨ret_f (fun h' => hG.out ((hF.out.1 h').2.2.2 p hpm.out)), xE⟩
              · clear hp
                go_wp2_with fail
                go_ret
                exact ⟨ret_t (hF.out.2 ⟨hvl.out.1, hcl.out, hvl.out.2, take_done (by omega) hg.out⟩), xE⟩
theorem valid_r (t : Thing) (cs : List Value) (w : World) (hr : ThingR (ph w) cs t) (hs : t.bulk ≤ 999999) :
    Calls Tryz.prog 40 #[.agg cs.toArray] w (RetV w (.int .i64 (validV t))) := by
  obtain ⟨a1, c1, a2, c2, a3, c3, rfl, -, -, -, -, -, -⟩ := hr.form
  have hsz := t.size_le_bulk
  have hdp := t.deep_le_size
  have hV : Hid (validV t = if t.size ≤ 96 ∧ t.deep ≤ 8 then ErrIf t.formed 1 else 4) := by
    show _ = _
    unfold validV; split <;> simp [*]
  go_enter Tryz.func40, Tryz.ntmps40
  go_wp2_with fail
  refine (size_r t _ _ (mono_ThingR _ _ _ _ (Ext.ple xE) hr) (by omega)).mono ?_
  rintro e w1 ⟨rfl, hb1⟩
  have ho := Own.keep (Own.new w _ _) hb1
  have hb : Ext w w1 := xE
  clear hb1
  obtain ⟨q1, q2⟩ := ho.facts
  by_cases h1 : (96 : Int) < t.size
  · go_wp2_with fail
    go_ret
    exact ⟨ret_int (by rw [hV.out, if_neg (by omega)]), hb⟩
  · have d1 : decide ((96 : Int) < t.size) = false := by simpa using h1
    go_wp2_with fail
    refine (deep_r t _ _ (mono_ThingR _ _ _ _ (Ext.ple xE) hr) (by omega)).mono ?_
    rintro e w2 ⟨rfl, hb2⟩
    replace ho := ho.keep hb2
    replace hb := hb.then hb2
    clear hb2 q1 q2
    obtain ⟨q1, q2⟩ := ho.facts
    by_cases h2 : (8 : Int) < t.deep
    · go_wp2_with fail
      go_ret
      exact ⟨ret_int (by rw [hV.out, if_neg (by omega)]), hb⟩
    · go_wp2_with fail
      refine (formed_r t _ _ (mono_ThingR _ _ _ _ (Ext.ple xE) hr)).mono ?_
      rintro e w3 ⟨rfl, hb3⟩
      by_cases hF : t.formed
      · rw [B_t hF]
        replace hF := Lib.hid hF
        go_wp2_with fail
        go_ret
        exact ⟨ret_int (by rw [hV.out, if_pos (by omega), ErrIf_t hF.out]), xE⟩
      · rw [B_f hF]
        replace hF := Lib.hid hF
        go_wp2_with fail
        go_ret
        exact ⟨ret_int (by rw [hV.out, if_pos (by omega), ErrIf_f hF.out]), xE⟩
theorem getVal_at {l : List Val} {k : Int} {i : Nat} (hi : i < l.length) (hk : l[i].attr = k) (hno : ∀ x ∈ l.take i, x.attr ≠ k) : getVal l k = some l[i].n := by
  have : l.find? (·.attr == k) = some l[i] := by
    rw [List.find?_eq_some_iff_getElem]
    refine ⟨by simpa using hk, i, hi, rfl, fun j hj => ?_⟩
    have := hno l[j] (by rw [List.mem_take_iff_getElem]; exact ⟨j, by omega, rfl⟩)
    simpa using this
  simp [getVal, this]
theorem getVal_no {l : List Val} {k : Int} (hno : ∀ x ∈ l, x.attr ≠ k) : getVal l k = none := by
  have : l.find? (·.attr == k) = none := by rw [List.find?_eq_none]; intro x hx; simpa using hno x hx
  simp [getVal, this]
set_option maxHeartbeats 400000 in
theorem value_r (t : Thing) (at_ : Int) (cs : List Value) (w : World) (hr : ThingR (ph w) cs t) :
    Calls Tryz.prog 108 #[.agg cs.toArray, .int .i64 at_] w (RetV w (optRat (getVal t.vals at_))) := by
  obtain ⟨a1, c1, a2, c2, a3, c3, rfl, -, l2, -, -, hv, -⟩ := hr.form
  go_enter Tryz.func108, Tryz.ntmps108
  go_wp2_with fail
  go_loopw [6] (fun i wr => ∃ k : Nat, k ≤ t.vals.length ∧ i = .int .i64 k ∧ Hid (∀ x ∈ t.vals.take k, x.attr ≠ at_) ∧ Own wr w.heap.size #[.slice a1 t.cls.length c1, .slice a2 t.vals.length c2, .slice a3 t.parts.length c3] 41 ∧ Own wr (w.heap.size + 1) #[.int .i64 0, .int .i64 0] 81 ∧ Ext w wr) (fun i _ => t.vals.length - (intOf i).toNat)
  case atStart => exact ⟨0, Nat.zero_le _, rfl, Lib.hid (by simp), oE, oE, xE⟩
  case round =>
    obtain ⟨k, hk, rfl, hno, ho, hv', hb⟩ := hrel
    obtain ⟨q1, q2⟩ := ho.facts
    have q3 := ho.lt
    obtain ⟨r1, r2⟩ := hv'.facts
    have r3 := hv'.lt
    by_cases hlt : k < t.vals.length
    · obtain ⟨b, o, rfl, h0, h1, h2, i0, i1, i2, hbl⟩ := ValsR.at (hv.mono mono_ValR hb.ple) k hlt
      have hat := Lib.hid (fun h => getVal_at (k := at_) hlt h hno.out)
      have hta := Lib.hid (fun h => take_all (p := fun x : Val => x.attr ≠ at_) hlt h hno.out)
      generalize t.vals[k] = v at *
      clear hv
      by_cases hx : v.attr = at_
      · have hxb : (v.attr == at_) = true := by simpa using hx
        rw [hat.out hx]
        clear hat hx
        go_wp2_with fail
        exact bodyPost_ret (v := .tuple #[.agg #[.int .i64 v.n.num, .int .i64 v.n.den], .bool true]) (by simp [results, Tryz.results108, go_sem, r1, r2, r3]) rfl ⟨rfl, xE⟩
      · have hxb : (v.attr == at_) = false := by simpa using hx
        replace hx := Lib.hid hx
        go_wp2_with fail
        go_roundw
        case rel => exact ⟨k + 1, by omega, by go_num, Lib.hid (hta.out hx.out), ho, hv', hb⟩
        case measure => simp [intOf]; omega
    · have hN := Lib.hid (getVal_no (take_done (p := fun x : Val => x.attr ≠ at_) (by omega) hno.out))
      clear hv hno
      go_wp2_with fail
      exact bodyPost_ret (v := .tuple #[.agg #[.int .i64 0, .int .i64 0], .bool false]) (by simp [results, Tryz.results108, go_sem, r1, r2, r3]) rfl ⟨by rw [hN.out]; rfl, xE⟩
mutual
def lowF (n : Int) : Fm → Bool
  | .mk op m inn kids => (!decide (op = 1) || decide (m < n)) && lowFs n kids
def lowFs (n : Int) : List Fm → Bool
  | [] => true
  | f :: l => lowF n f && lowFs n l
end
theorem lowFs_eq (n : Int) : ∀ l : List Fm, lowFs n l = l.all (lowF n)
  | [] => rfl
  | f :: l => by rw [lowFs, List.all_cons, lowFs_eq n l]
theorem lowF_eq (n : Int) (f : Fm) : lowF n f = ((!decide (f.op = 1) || decide (f.n < n)) && f.kids.all (lowF n)) := by
  cases f with
  | mk op m inn kids => rw [lowF, lowFs_eq]; rfl
theorem wholeN_low (n : Int) (f : Fm) : wholeN n f = (wholeB f && lowF n f) := by
  induction f using Fm.ind with
  | h f ih =>
    rw [wholeN_eq, wholeB_eq, lowF_eq]
    have : f.kids.all (wholeN n) = (f.kids.all wholeB && f.kids.all (lowF n)) := by
      rw [Bool.eq_iff_iff, Bool.and_eq_true]
      simp only [List.all_eq_true]
      constructor
      · intro h
        exact ⟨fun x hx => by have := h x hx; rw [ih x hx, Bool.and_eq_true] at this; exact this.1, fun x hx => by have := h x hx; rw [ih x hx, Bool.and_eq_true] at this; exact this.2⟩
      · rintro ⟨h1, h2⟩ x hx
        rw [ih x hx, h1 x hx, h2 x hx]; rfl
    rw [this]
    cases formed1 f <;> cases (!decide (f.op = 1) || decide (f.n < n)) <;> cases f.kids.all wholeB <;> cases f.kids.all (lowF n) <;> rfl
set_option maxHeartbeats 1000000 in
theorem rclasses_c (n : Int) (f : Fm) : ∀ (cs : List Value) (w : World), FmR (ph w) cs f → Calls Tryz.prog 55 #[.agg cs.toArray, .int .i64 n] w (RetV w (.bool (lowF n f))) := by
  induction f using Fm.ind with
  | h f ih =>
    intro cs w hr
    obtain ⟨a3, c3, a4, c4, rfl, -, -, -, hlen, -, hp⟩ := hr.form
    unfold fmC at *
    have hw := Lib.hid (lowF_eq n f)
    have hB : ∀ b : Bool, (!decide (f.op = 1) || decide (f.n < n)) = b → Hid (lowF n f = (b && f.kids.all (lowF n))) := fun b h => by
      show _ = _; rw [hw.out, h]
    clear hw
    go_enter Tryz.func55, Tryz.ntmps55
    have key : ∀ b : Bool, (b = true → (f.op == 1) = true ∧ decide (n ≤ f.n) = true) → True := fun _ _ => trivial
    by_cases hbad : f.op = 1 ∧ n ≤ f.n
    · have hv := hB false (by simp; omega)
      have b1 : (f.op == 1) = true := by simp [hbad.1]
      have b2 : decide (n ≤ f.n) = true := by simp [hbad.2]
      clear hB hbad hp
      go_wp2_with fail
      go_ret
      exact ⟨ret_bool (by rw [hv.out]; rfl), xE⟩
    · have hv := hB true (by simp; omega)
      have H := Lib.hid ih
      clear ih key hB hr
      have bb : ((f.op == 1) = true ∧ decide (n ≤ f.n) = false) ∨ (f.op == 1) = false := by
        by_cases h1 : f.op = 1
        · exact .inl ⟨by simp [h1], by simp; omega⟩
        · exact .inr (by simp [h1])
      rcases bb with ⟨b1, b2⟩ | b1
      all_goals
        clear hbad
        go_wp2_with fail
        go_loopw [5] (fun i wr => ∃ k : Nat, k ≤ f.kids.length ∧ i = .int .i64 k ∧ Hid (∀ x ∈ f.kids.take k, lowF n x = true) ∧ Own wr w.heap.size #[.int .i64 f.op, .int .i64 f.n, .slice a3 f.inn.length c3, .slice a4 f.kids.length c4] 29 ∧ Ext w wr) (fun i _ => f.kids.length - (intOf i).toNat)
        case atStart => exact ⟨0, Nat.zero_le _, rfl, Lib.hid (by simp), oE, xE⟩
        case round =>
          obtain ⟨k, hk, rfl, hg, ho2, hb⟩ := hrel
          obtain ⟨hoc2, hof2⟩ := ho2.facts
          by_cases hlt : k < f.kids.length
          · have hp' := hp.mono mono_FmR hb.ple
            obtain ⟨b, o, b3, d3, b4, d4, rfl, h0, h1, h2, h3, hE, hbl⟩ := FmsR.at hp' k hlt
            unfold fmC at hE
            clear hp hp'
            go_wp2_with fail
            refine RetV_at (H.out _ (List.getElem_mem hlt) _ _ (mono_FmR _ _ _ _ (Ext.ple xE) hE)) ?_
            intro w2 hx2
            cases hpk : lowF n f.kids[k] with
            | true =>
              have HP := Lib.hid hpk
              go_wp2_with fail
              go_roundw
              case rel => exact ⟨k + 1, by omega, by go_num, take_all hlt HP.out hg.out, oE, xE⟩
              case measure => simp [intOf]; omega
            | false =>
              have hv2 : Hid (lowF n f = false) := by
                show _ = _
                rw [hv.out, Bool.true_and, List.all_eq_false]
                exact ⟨_, List.getElem_mem hlt, by rw [hpk]; simp⟩
              go_wp2_with fail
              go_ret
              exact ⟨ret_bool hv2.out.symm, xE⟩
          · have hv2 : Hid (lowF n f = true) := by
              show _ = _
              rw [hv.out, Bool.true_and, List.all_eq_true]
              exact take_done (by omega) hg.out
            clear hp
            go_wp2_with fail
            go_ret
            exact ⟨ret_bool hv2.out.symm, xE⟩
noncomputable def lowT (n : Int) (t : Thing) : Bool := B (t.clsLt n)
theorem lowT_eq (n : Int) (t : Thing) : lowT n t = (t.cls.all (fun x => decide (x < n)) && t.parts.all (lowT n)) := by
  unfold lowT
  rw [Bool.eq_iff_iff, B_iff, Thing.clsLt_iff, Bool.and_eq_true, List.all_eq_true, List.all_eq_true]
  simp only [B_iff, decide_eq_true_eq]
set_option maxHeartbeats 1000000 in
theorem rkinds_c (n : Int) (t : Thing) : ∀ (cs : List Value) (w : World), ThingR (ph w) cs t → Calls Tryz.prog 56 #[.agg cs.toArray, .int .i64 n] w (RetV w (.bool (lowT n t))) := by
  induction t using Thing.ind with
  | h t ih =>
    intro cs w hr
    obtain ⟨a1, c1, a2, c2, a3, c3, rfl, l1, -, hlen, hq, -, hp⟩ := hr.form
    have hw := Lib.hid (lowT_eq n t)
    have H := Lib.hid ih
    clear ih hr
    go_enter Tryz.func56, Tryz.ntmps56
    go_wp2_with fail
    go_loopw [5] (fun i wr => ∃ k : Nat, k ≤ t.cls.length ∧ i = .int .i64 k ∧ Hid (∀ x ∈ t.cls.take k, decide (x < n) = true) ∧ Own wr w.heap.size #[.slice a1 t.cls.length c1, .slice a2 t.vals.length c2, .slice a3 t.parts.length c3] 41 ∧ Ext w wr) (fun i _ => t.cls.length - (intOf i).toNat)
    case atStart => exact ⟨0, Nat.zero_le _, rfl, Lib.hid (by simp), oE, xE⟩
    case round =>
      obtain ⟨k, hk, rfl, hg, ho2, hb⟩ := hrel
      obtain ⟨hoc2, hof2⟩ := ho2.facts
      by_cases hlt : k < t.cls.length
      · have hq' := hq.mono mono_IntR hb.ple
        obtain ⟨b, o, rfl, h0, hi64, hbl⟩ := IntsR.at hq' k hlt
        have hm : t.cls[k] ∈ t.cls := List.getElem_mem hlt
        have hta := @take_all _ (fun x => decide (x < n)) t.cls k hlt
        generalize t.cls[k] = x at *
        clear hq hq' hp
        by_cases hxn : x < n
        · have b1 : decide (n ≤ x) = false := by simp; omega
          have hg2 := Lib.hid (hta (by simp [hxn]) hg.out)
          clear hta
          go_wp2_with fail
          go_roundw
          case rel => exact ⟨k + 1, by omega, by go_num, hg2, oE, xE⟩
          case measure => simp [intOf]; omega
        · have b1 : decide (n ≤ x) = true := by simp; omega
          have hv2 : Hid (lowT n t = false) := by
            show _ = _
            rw [hw.out, Bool.and_eq_false_iff]
            exact .inl (List.all_eq_false.2 ⟨x, hm, by simp [hxn]⟩)
          clear hta
          go_wp2_with fail
          go_ret
          exact ⟨ret_bool hv2.out.symm, xE⟩
      · have hv1 : Hid (lowT n t = t.parts.all (lowT n)) := by
          show _ = _
          rw [hw.out, List.all_eq_true.2 (take_done (by omega) hg.out), Bool.true_and]
        clear hq hg hw
        go_wp2_with fail
        go_loopw [6] (fun i wq => ∃ k : Nat, k ≤ t.parts.length ∧ i = .int .i64 k ∧ Hid (∀ x ∈ t.parts.take k, lowT n x = true) ∧ Own wq w.heap.size #[.slice a1 t.cls.length c1, .slice a2 t.vals.length c2, .slice a3 t.parts.length c3] 41 ∧ Ext w wq) (fun i _ => t.parts.length - (intOf i).toNat)
        case atStart => exact ⟨0, Nat.zero_le _, rfl, Lib.hid (by simp), oE, xE⟩
        case round =>
          rename_i wr0 _ _
          obtain ⟨j, hj, rfl, hg, ho3, hb3⟩ := hrel
          obtain ⟨hoc3, hof3⟩ := ho3.facts
          clear ho2 hoc2 hof2
          by_cases hlt : j < t.parts.length
          · have hp' := hp.mono mono_ThingR hb3.ple
            obtain ⟨b, o, b1, d1, b2, d2, b3, d3, rfl, h0, h1, h2, hE, hbl⟩ := ThingsR.at hp' j hlt
            clear hp hp'
            go_wp2_with fail
            refine RetV_at (H.out _ (List.getElem_mem hlt) _ _ (mono_ThingR _ _ _ _ (Ext.ple xE) hE)) ?_
            intro w2 hx2
            cases hpk : lowT n t.parts[j] with
            | true =>
              have HP := Lib.hid hpk
              go_wp2_with fail
              go_roundw
              case rel => exact ⟨j + 1, by omega, by go_num, take_all hlt HP.out hg.out, oE, xE⟩
              case measure => simp [intOf]; omega
            | false =>
              have hv2 : Hid (lowT n t = false) := by
                show _ = _
                rw [hv1.out, List.all_eq_false]
                exact ⟨_, List.getElem_mem hlt, by rw [hpk]; simp⟩
              go_wp2_with fail
              go_ret
              exact ⟨ret_bool hv2.out.symm, xE⟩
          · have hv2 : Hid (lowT n t = true) := by
              show _ = _
              rw [hv1.out, List.all_eq_true]
              exact take_done (by omega) hg.out
            clear hp
            go_wp2_with fail
            go_ret
            exact ⟨ret_bool hv2.out.symm, xE⟩
end Go.Proofs.YtbpilielamjnoaaGreat
namespace Go.Proofs.YtbpilielamjnoaaGreat
open Go.RowKit Go.Shelf
set_option maxHeartbeats 1000000 in
theorem rhas1_c (l : List Int) (v : Value) (x : Int) (w : World) (hr : IntsR (ph w) v l) : Calls Tryz.prog 38 #[v, .int .i64 x] w (RetV w (.bool (decide (x ∈ l)))) := by
  obtain ⟨a, c, rfl, hlen, hr⟩ := hr.form
  go_enter Tryz.func38, Tryz.ntmps38
  go_wp2_with fail
  go_loopw [5] (fun i wr => ∃ k : Nat, k ≤ l.length ∧ i = .int .i64 k ∧ Hid (x ∉ l.take k) ∧ Ext w wr) (fun i _ => l.length - (intOf i).toNat)
  case atStart => exact ⟨0, by omega, rfl, Lib.hid (by simp), Ext.rfl' _⟩
  case round =>
    obtain ⟨k, hk, rfl, hno, hx⟩ := hrel
    by_cases hlt : k < l.length
    · obtain ⟨b, o, rfl, h0, i0, hbl⟩ := IntsR.at (hr.mono mono_IntR hx.ple) k hlt
      have hd1 : decide (k < l.length) = true := decide_eq_true hlt
      have hmem : Hid (l[k] ∈ l) := Lib.hid (List.getElem_mem hlt)
      have htk : Hid (l.take (k + 1) = l.take k ++ [l[k]]) := Lib.hid (List.take_succ_eq_append_getElem hlt)
      generalize l[k] = y at *
      by_cases hy : y = x
      · subst hy
        have hb : (y == y) = true := by simp
        have hv : Hid (decide (y ∈ l) = true) := Lib.hid (decide_eq_true hmem.out)
        go_wp2_with fail
        go_ret
        exact ⟨ret_bool hv.out.symm, hx⟩
      · have hb : (y == x) = false := by simpa using hy
        have hno2 : Hid (x ∉ l.take (k + 1)) := by
          show _ ∉ _
          rw [htk.out, List.mem_append, List.mem_singleton]
          rintro (h | h)
          · exact hno.out h
          · exact hy h.symm
        clear hy hno
        go_wp2_with fail
        go_roundw
        case rel => exact ⟨k + 1, by omega, by go_num, hno2, hx⟩
        case measure => simp [intOf]; omega
    · obtain rfl : k = l.length := by omega
      have hd1 : decide (l.length < l.length) = false := by simp
      have hv : Hid (decide (x ∈ l) = false) := by
        show _ = _
        have := hno.out
        rw [List.take_length] at this
        simpa using this
      clear hno
      go_wp2_with fail
      go_ret
      exact ⟨ret_bool hv.out.symm, hx⟩
theorem nodup_len : ∀ (n : Nat) (l : List Int), l.Nodup → (∀ x ∈ l, 0 ≤ x ∧ x < n) → l.length ≤ n
  | 0, l, _, h => by
    cases l with
    | nil => simp
    | cons x l => have := h x (by simp); omega
  | n + 1, l, hd, h => by
    by_cases hm : (n : Int) ∈ l
    · have h1 := nodup_len n (l.erase (n : Int)) (hd.erase _) fun x hx => by
        obtain ⟨h2, h3⟩ := (hd.mem_erase_iff).1 hx
        have := h x h3; omega
      rw [List.length_erase_of_mem hm] at h1; omega
    · have h1 := nodup_len n l hd fun x hx => by
        have := h x hx
        have : x ≠ n := fun e => hm (e ▸ hx)
        omega
      omega
def RcI (ps : List (List Int)) (c i : Nat) (xs : List Int) : Prop := xs.Nodup ∧ (∀ x ∈ xs, 0 ≤ x ∧ x < ps.length ∧ Rch ps c x.toNat) ∧ (c : Int) ∈ xs ∧
  ∀ (j : Nat) (x : Int) (l : List Int), j < i → xs[j]? = some x → ps[x.toNat]? = some l → ∀ p ∈ l, p ∈ xs
theorem Rch.last {ps : List (List Int)} {c d p : Nat} {l : List Int} (h : Rch ps c d) (hl : ps[d]? = some l) (hp : (p : Int) ∈ l) : Rch ps c p := by
  induction h with
  | refl => exact .step hl hp (.refl _)
  | step h1 h2 _ ih => exact .step h1 h2 (ih hl)
theorem RcI.len {ps : List (List Int)} {c i : Nat} {xs : List Int} (h : RcI ps c i xs) : xs.length ≤ ps.length := nodup_len _ _ h.1 fun x hx => ⟨(h.2.1 x hx).1, (h.2.1 x hx).2.1⟩
theorem RcI.put {ps : List (List Int)} {c i : Nat} {xs : List Int} (h : RcI ps c i xs) (hi : i ≤ xs.length) {x y : Int} {l : List Int} (hx : x ∈ xs) (hl : ps[x.toNat]? = some l) (hy : y ∈ l) (hr : 0 ≤ y ∧ y < ps.length) (hn : y ∉ xs) : RcI ps c i (xs ++ [y]) := by
  obtain ⟨h1, h2, h3, h4⟩ := h
  refine ⟨List.nodup_append.2 ⟨h1, by simp, fun a ha b hb e => ?_⟩, fun z hz => ?_, List.mem_append_left _ h3, fun j z m hj hz hm p hp => ?_⟩
  · rw [List.mem_singleton.1 hb] at e; exact hn (e ▸ ha)
  · rcases List.mem_append.1 hz with h | h
    · exact h2 z h
    · rw [List.mem_singleton.1 h]
      refine ⟨hr.1, hr.2, (h2 x hx).2.2.last hl ?_⟩
      rw [Int.toNat_of_nonneg hr.1]; exact hy
  · rw [List.getElem?_append_left (by omega)] at hz
    exact List.mem_append_left _ (h4 j z m hj hz hm p hp)
theorem RcI.next {ps : List (List Int)} {c i : Nat} {xs : List Int} (h : RcI ps c i xs) {x : Int} {l : List Int} (hx : xs[i]? = some x) (hl : ps[x.toNat]? = some l) (hc : ∀ p ∈ l, p ∈ xs) : RcI ps c (i + 1) xs := by
  refine ⟨h.1, h.2.1, h.2.2.1, fun j z m hj hz hm p hp => ?_⟩
  by_cases e : j < i
  · exact h.2.2.2 j z m e hz hm p hp
  · obtain rfl : j = i := by omega
    rw [hx] at hz; cases hz
    rw [hl] at hm; cases hm
    exact hc p hp
theorem RcI.done {ps : List (List Int)} {c : Nat} {xs : List Int} {rk : Nat → Nat} (ok : ParOk ps rk) (h : RcI ps c xs.length xs) (d : Int) : d ∈ xs ↔ 0 ≤ d ∧ d < ps.length ∧ Rch ps c d.toNat := by
  refine ⟨fun hd => h.2.1 d hd, fun ⟨h0, h1, h2⟩ => ?_⟩
  have key : ∀ a b : Nat, Rch ps a b → (a : Int) ∈ xs → (b : Int) ∈ xs := by
    intro a b hab
    induction hab with
    | refl => exact id
    | step hl hp _ ih =>
      intro ha
      obtain ⟨j, hj, e⟩ := List.getElem_of_mem ha
      exact ih (h.2.2.2 j _ _ hj (by rw [List.getElem?_eq_getElem hj, e]) (by rw [Int.toNat_natCast]; exact hl) _ hp)
  have := key _ _ h2 h.2.2.1
  rwa [Int.toNat_of_nonneg h0] at this
section
variable {w0 w w' : World} {H0 H : PH} {L : List Chunk}
theorem Mem.lit0 (h : Mem w0 H0 L H w) {α : Type} {E : PH → List Value → α → Prop} (hm : Mono E) (sz : Nat) (T : TypeId) : Mem w0 H0 (L ++ [own hm sz T (.slice (some ⟨w.heap.size, 0, none⟩) 0 0) ([] : List α)]) H (w.alloc (.cells #[] T)) := by
  refine (h.ext (Ext.new w _)).add _ (.inr ⟨w.heap.size, 0, #[], rfl, Own.new w _ _, Nat.le_refl _, by simp [maxLen], by simp, by simp [Cells]⟩) fun k hk => ?_
  cases hk
  exact ⟨h.ex.size, fresh_none h.ple (Nat.le_refl _), fun i d hi he => absurd (h.lt hi he) (Nat.lt_irrefl _)⟩
end
def ReachP (w : World) (ps : List (List Int)) (c : Nat) (e : Ending) (w' : World) : Prop := ∃ v xs, e = .returned v ∧ Ext w w' ∧ IntsR (ph w') v xs ∧ ∀ d : Int, d ∈ xs ↔ 0 ≤ d ∧ d < ps.length ∧ Rch ps c d.toNat
set_option maxRecDepth 100000 in
set_option maxHeartbeats 4000000 in
theorem reach_c {ps : List (List Int)} {rk : Nat → Nat} (ok : ParOk ps rk) (c : Nat) (hc : c < ps.length) (vp vl : Value) (w : World) (hp : RowsR (ph w) vp ps) (hl : IntsR (ph w) vl [(c : Int)]) : Calls Tryz.prog 146 #[vp, vl] w (ReachP w ps c) := by
  obtain ⟨pa, pc, rfl, -, hp⟩ := hp.form
  have hple := ok.le
  have hS0 := Src.ofRep (w := w.alloc (.cells #[] 3)) hl ((Ext.new w _).ple)
  obtain ⟨la, lc, rfl, -, -⟩ := hl.form
  have hM0 := (Mem.start w (ph w) (fun _ _ h => h)).lit0 mono_IntR 1 3
  simp only [List.nil_append] at hM0
  have hok := Lib.hid ok
  clear ok
  go_enter Tryz.func146, Tryz.ntmps146
  go_wp2_with (first | (at_builtin; refine wpList_append_M 0 rfl _ _ 22 rfl Tryz.underlying22 infoInt rfl rfl rfl hM0 rfl hS0 one_IntR (by simp) (by simp) ?c5))
  case c5 =>
  intro v' w' hM1
  try simp only [List.set_cons_zero, List.set_cons_succ, List.nil_append] at hM1
  clear hM0 hS0
  go_wp2_with fail
  go_loopw [5, 6, 7] (fun v i u wr => ∃ (k : Nat) (xs : List Int), i = .int .i64 k ∧ k ≤ xs.length ∧ Mem w (ph w) [own mono_IntR 1 3 v xs] (ph w) wr ∧ Hid (RcI ps c k xs) ∧ xs.length ≤ 64) (fun _ i _ _ => 64 - (intOf i).toNat)
  case atStart => exact ⟨0, [(c : Int)], rfl, by simp, hM1, Lib.hid ⟨by simp, fun x hx => by rw [List.mem_singleton.1 hx]; exact ⟨by omega, by omega, by rw [Int.toNat_natCast]; exact .refl _⟩, by simp, fun j x l hj => by omega⟩, by simp⟩
  case round =>
    clear hM1
    obtain ⟨k, xs, rfl, hk, hM, hI, h64⟩ := hrel
    obtain ⟨va, vc, rfl, -⟩ := hM.form 0 rfl
    by_cases hlt : k < xs.length
    · have hd1 : decide (k < xs.length) = true := decide_eq_true hlt
      have hmem := hI.out.2.1 xs[k] (List.getElem_mem hlt)
      obtain ⟨m, hm⟩ : ∃ m : Nat, xs[k] = (m : Int) := ⟨xs[k].toNat, by omega⟩
      have hxk : xs[k]? = some (m : Int) := by rw [List.getElem?_eq_getElem hlt, hm]
      have hmp : m < ps.length := by omega
      obtain ⟨row, hrow⟩ : ∃ row, ps[m]? = some row := ⟨_, List.getElem?_eq_getElem hmp⟩
      have hrlen : row.length ≤ 64 := (hok.out.inc row (List.mem_of_getElem? hrow)).2
      have hrin := Lib.hid (hok.out.inn m row hrow)
      clear hmem hm
      replace hI := Lib.hid hI
      replace hxk := Lib.hid hxk
      replace hrow := Lib.hid hrow
      go_wp2_with fail
      go_loopw [5, 7] (fun v u wx => ∃ (j : Nat) (ys : List Int), u = .int .i64 j ∧ j ≤ row.length ∧ Mem w (ph w) [own mono_IntR 1 3 v ys] (ph w) wx ∧ Hid (RcI ps c k ys) ∧ ys.length ≤ 64 ∧ Hid (ys[k]? = some (m : Int)) ∧ Hid (∀ p ∈ row.take j, p ∈ ys)) (fun _ u _ => row.length - (intOf u).toNat)
      case atStart => exact ⟨0, xs, rfl, by omega, hM, hI.out, h64, hxk, Lib.hid (by simp)⟩
      case round =>
        clear hM hI hxk h64 hlt hd1 hk
        obtain ⟨j, ys, rfl, hj, hM, hI, h64, hxk, hcl⟩ := hrel
        obtain ⟨ua, uc, rfl, -⟩ := hM.form 0 rfl
        have hky : k < ys.length := (List.getElem?_eq_some_iff.1 hxk.out).1
        have hyk : ys[k] = (m : Int) := (List.getElem?_eq_some_iff.1 hxk.out).2
        obtain ⟨g, cap, cs, hv, hcs, hcell, ⟨hce, -⟩, hglt⟩ := hM.get 0 rfl k hky
        rw [hyk] at hce
        subst hce
        have hc0 := hcell 0 (by omega)
        simp only [Nat.mul_one, Nat.add_zero, List.getD_eq_getElem?_getD, List.getElem?_cons_zero, Option.getD_some] at hc0
        cases hv
        clear hcell hyk hcs
        have hp' := hp.mono mono_IntsRow hM.ex.ple
        obtain ⟨pb, po, ra, rc, rfl, hpr, hrr, hplt⟩ := RowsR.at hp' (fun _ _ h => h) m hmp
        have hpm : ps[m] = row := (List.getElem?_eq_some_iff.1 hrow.out).2
        rw [hpm] at hpr hrr
        clear hpm hp'
        by_cases hlt2 : j < row.length
        · have hd2 : decide (j < row.length) = true := decide_eq_true hlt2
          obtain ⟨rb, ro, rfl, hr0, hri, hrl⟩ := IntsR.at hrr j hlt2
          have hymem : Hid (row[j] ∈ row) := Lib.hid (List.getElem_mem hlt2)
          have htk := @take_all _ (fun p => p ∈ ys) row j hlt2
          have htk2 : ∀ z : List Int, _ := fun z => @take_all _ (fun p => p ∈ z) row j hlt2
          generalize row[j] = y at *
          have hrep := hM.rep 0 rfl
          clear hrr
          by_cases hin : y ∈ ys
          · have hdi : decide (y ∈ ys) = true := decide_eq_true hin
            have hh := rhas1_c ys _ y wr hrep
            rw [hdi] at hh
            have hcl2 := Lib.hid (htk hin hcl.out)
            clear htk htk2 hin hdi hrep
            go_wp2_with fail
            refine RetV_at hh ?_
            intro w5 hx5
            replace hM := hM.ext hx5
            go_wp2_with fail
            go_roundw
            case rel => exact ⟨j + 1, ys, by go_num, by omega, hM, hI, h64, hxk, hcl2⟩
            case measure => simp [intOf]; omega
          · have hdi : decide (y ∈ ys) = false := decide_eq_false hin
            have hh := rhas1_c ys _ y wr hrep
            rw [hdi] at hh
            have hI2 := Lib.hid (hI.out.put (by omega) (x := (m : Int)) (List.mem_of_getElem? hxk.out) (by rw [Int.toNat_natCast]; exact hrow.out) hymem.out (hrin.out y hymem.out) hin)
            have hcl2 : Hid (∀ p ∈ row.take (j + 1), p ∈ ys ++ [y]) := Lib.hid (htk2 _ (by simp) fun p hp => List.mem_append_left _ (hcl.out p hp))
            have hxk2 : Hid ((ys ++ [y])[k]? = some (m : Int)) := by
              show _ = _
              rw [List.getElem?_append_left hky]; exact hxk.out
            have hl2 : (ys ++ [y]).length ≤ 64 := Nat.le_trans hI2.out.len hple
            clear htk htk2 hin hdi hrep
            go_wp2_with fail
            refine RetV_at hh ?_
            intro w5 hx5
            replace hc0 := hx5.cell1 hc0
            replace hglt := cell_lt hc0
            replace hpr := hx5.cell1 hpr
            replace hplt := cell_lt hpr
            replace hr0 := hx5.cell1 hr0
            replace hrl := cell_lt hr0
            have hM5 := (hM.ext hx5).ext (Ext.new w5 (.cells #[.int .i64 y] 3))
            have hS := Src.lit1 (H := ph w) (E := IntR) (sz := 1) (w := w5.alloc (.cells #[.int .i64 y] 3)) (b := w5.heap.size) (x := y) (cs := [.int .i64 y]) ⟨rfl, hri⟩ rfl (fun j => by rw [(Proofs.YtbpilielamjnoaaGreat.Own.new w5 #[.int .i64 y] 3).facts.1 j]; simp)
            clear hM hh hx5
            obtain ⟨zs, hzs⟩ : ∃ z, Hid (ys ++ [y] = z) := ⟨_, rfl⟩
            go_wp2_with (first | (at_builtin; refine wpList_append_M 0 rfl _ _ 22 rfl Tryz.underlying22 infoInt rfl rfl rfl hM5 rfl hS one_IntR (by simp; omega) (by simp; omega) ?d5))
            case d5 =>
            intro v' w' hM6
            try simp only [List.set_cons_zero, List.set_cons_succ] at hM6
            clear hM5 hS
            rw [hzs.out] at hM6 hI2 hcl2 hxk2 hl2
            obtain ⟨na, nc, rfl, -⟩ := hM6.form 0 rfl
            go_wp2_with fail
            go_roundw
            case rel => exact ⟨j + 1, zs, by go_num, by omega, hM6, hI2, hl2, hxk2, hcl2⟩
            case measure => simp [intOf]; omega
        · obtain rfl : j = row.length := by omega
          have hd2 : decide (row.length < row.length) = false := by simp
          have hI2 : Hid (RcI ps c (k + 1) ys) := Lib.hid (hI.out.next hxk.out (by rw [Int.toNat_natCast]; exact hrow.out) (take_done (Nat.le_refl _) hcl.out))
          clear hI hcl
          go_wp2_with fail
          go_roundw
          case rel => exact ⟨k + 1, ys, by go_num, by omega, hM, hI2, h64⟩
          case measure => simp [intOf]; omega
    · obtain rfl : k = xs.length := by omega
      have hd1 : decide (xs.length < xs.length) = false := by simp
      have hrep := Lib.hid (hM.rep 0 rfl)
      have hx := hM.ex
      clear hM
      go_wp2_with fail
      go_ret
      exact ⟨_, xs, rfl, hx, hrep.out, RcI.done hok.out hI.out⟩
theorem isTx_not {ps : List (List Int)} {c d : Int} (h : ¬ (0 ≤ c ∧ c < ps.length ∧ 0 ≤ d ∧ d < ps.length)) : B (isTx ps c d) = false := by
  rw [← Bool.not_eq_true, B_iff]
  rintro ⟨h1, h2, h3, h4, -⟩
  exact h ⟨h1, h2, h3, h4⟩
set_option maxHeartbeats 2000000 in
theorem ris_c {ps : List (List Int)} {rk : Nat → Nat} (ok : ParOk ps rk) (c d : Int) (vp : Value) (w : World) (hp : RowsR (ph w) vp ps) (hc : I64 c) : Calls Tryz.prog 107 #[vp, .int .i64 c, .int .i64 d] w (RetV w (.bool (B (isTx ps c d)))) := by
  have hp0 := hp
  obtain ⟨pa, pc, rfl, -, -⟩ := hp.form
  have hok := Lib.hid ok
  clear ok hp
  go_enter Tryz.func107, Tryz.ntmps107
  by_cases h1 : 0 ≤ c
  · have b1 : decide (0 ≤ c) = true := decide_eq_true h1
    by_cases h2 : c < ps.length
    · have b2 : decide (c < ps.length) = true := decide_eq_true h2
      by_cases h3 : 0 ≤ d
      · have b3 : decide (0 ≤ d) = true := decide_eq_true h3
        by_cases h4 : d < ps.length
        · have b4 : decide (d < ps.length) = true := decide_eq_true h4
          obtain ⟨m, rfl⟩ : ∃ m : Nat, c = m := ⟨c.toNat, by omega⟩
          have hn : w.heap.size < (w.alloc (.cells #[.int .i64 (m : Int)] 3)).heap.size := by simp
          have hre := reach_c hok.out m (by omega) _ (.slice (some ⟨w.heap.size, 0, none⟩) 1 1) (w.alloc (.cells #[.int .i64 (m : Int)] 3)) (hp0.mono mono_IntsRow ((Ext.new w _).ple)) (ints1 (Own.new w _ _) hc)
          go_wp2_with fail
          refine hre.mono ?_
          rintro e w2 ⟨v, xs, rfl, hx2, hr2, hxs⟩
          have hx : Ext w w2 := xE
          have hv : Hid (decide (d ∈ xs) = B (isTx ps m d)) := by
            show _ = _
            rw [Bool.eq_iff_iff, decide_eq_true_iff, B_iff, hxs d]
            unfold isTx
            rw [Int.toNat_natCast]
            exact ⟨fun h => ⟨h1, h2, h3, h4, h.2.2⟩, fun h => ⟨h.2.2.1, h.2.2.2.1, h.2.2.2.2⟩⟩
          have hh := rhas1_c xs v d w2 hr2
          rw [hv.out] at hh
          clear hx2 hxs hre hv
          go_wp2_with fail
          refine RetV_at hh ?_
          intro w3 hx3
          go_wp2_with fail
          go_ret
          exact ⟨rfl, xE⟩
        · have b4 : decide (d < ps.length) = false := decide_eq_false h4
          have hv := Lib.hid (isTx_not (ps := ps) (c := c) (d := d) (by omega))
          go_wp2_with fail
          go_ret
          exact ⟨ret_bool hv.out.symm, xE⟩
      · have b3 : decide (0 ≤ d) = false := decide_eq_false h3
        have hv := Lib.hid (isTx_not (ps := ps) (c := c) (d := d) (by omega))
        go_wp2_with fail
        go_ret
        exact ⟨ret_bool hv.out.symm, xE⟩
    · have b2 : decide (c < ps.length) = false := decide_eq_false h2
      have hv := Lib.hid (isTx_not (ps := ps) (c := c) (d := d) (by omega))
      go_wp2_with fail
      go_ret
      exact ⟨ret_bool hv.out.symm, xE⟩
  · have b1 : decide (0 ≤ c) = false := decide_eq_false h1
    have hv := Lib.hid (isTx_not (ps := ps) (c := c) (d := d) (by omega))
    go_wp2_with fail
    go_ret
    exact ⟨ret_bool hv.out.symm, xE⟩
set_option maxRecDepth 100000 in
set_option maxHeartbeats 8000000 in
theorem rin_c (x : Itv) (r : Rat2) (w : World) (hx : goodB x = true) (hr : RatOk r) : Calls Tryz.prog 149 #[itA x, raA r] w (RetV w (.bool (hasB x r))) := by
  have hs := hasB_eq x r hr.ok hx
  have h1 := fun (h : x.loI = false) w => rless_c r x.lo w hr.bd (smallB_bd (goodB.smlo hx h))
  have h2 := fun (h : x.hiI = false) w => rless_c x.hi r w (smallB_bd (goodB.smhi hx h)) hr.bd
  generalize hasB x r = q at *
  obtain ⟨⟨a, b⟩, ⟨c, d⟩, lO, rO, lI, rI⟩ := x
  obtain ⟨n, m⟩ := r
  unfold itA raA at *
  dsimp only at *
  rw [dec_eq, dec_eq] at hs
  generalize lessR ⟨n, m⟩ ⟨a, b⟩ = l1 at *
  generalize lessR ⟨c, d⟩ ⟨n, m⟩ = l2 at *
  clear hx hr
  replace h1 := Lib.hid h1
  replace h2 := Lib.hid h2
  replace hs := Lib.hid hs
  have hO := Proofs.YtbpilielamjnoaaGreat.Own.alloc (Proofs.YtbpilielamjnoaaGreat.Own.new w #[.int .i64 a, .int .i64 b, .int .i64 c, .int .i64 d, .bool lO, .bool rO, .bool lI, .bool rI] 96) (.cells #[.int .i64 n, .int .i64 m] 81)
  have hO2 := Proofs.YtbpilielamjnoaaGreat.Own.new' (w.alloc (.cells #[.int .i64 a, .int .i64 b, .int .i64 c, .int .i64 d, .bool lO, .bool rO, .bool lI, .bool rI] 96)) #[.int .i64 n, .int .i64 m] 81 (n := w.heap.size + 1) (by simp)
  have hw := (Ext.new w (.cells #[.int .i64 a, .int .i64 b, .int .i64 c, .int .i64 d, .bool lO, .bool rO, .bool lI, .bool rI] 96)).alloc' (.cells #[.int .i64 n, .int .i64 m] 81)
  go_enter Tryz.func149, Tryz.ntmps149
  go_upto_region 1 with (fail)
  generalize w.heap.size = b1 at *
  generalize (w.alloc _).alloc _ = W at *
  obtain ⟨c1, f1⟩ := hO.facts
  obtain ⟨c2, f2⟩ := hO2.facts
  have z1 := hO.lt
  have z2 := hO2.lt
  go_cut [5] (fun v wx => v = .bool (!lI && (l1 || ((n == a && m == b) && lO))) ∧ Ext W wx)
  case first =>
    cases lI with
    | true =>
      go_wp2_with fail
      go_meet
      case rel => exact ⟨by simp, Ext.rfl' _⟩
    | false =>
      have h1' := h1.out (by first | trivial | rfl)
      replace h1' := Lib.hid h1'
      go_wp2_with fail
      refine RetV_at (h1'.out _) ?_
      intro w5 hx5
      replace hO := hO.keep hx5
      replace hO2 := hO2.keep hx5
      clear c1 f1 c2 f2 z1 z2
      obtain ⟨c1, f1⟩ := hO.facts
      obtain ⟨c2, f2⟩ := hO2.facts
      have z1 := hO.lt
      have z2 := hO2.lt
      cases l1 with
      | true =>
        go_wp2_with fail
        go_meet
        case rel => exact ⟨by simp, hx5⟩
      | false =>
        by_cases e1 : n = a
        · by_cases e2 : m = b
          · subst e1 e2
            go_wp2_with fail
            go_meet
            case rel => exact ⟨by simp, hx5⟩
          · subst e1
            have e2b : (m == b) = false := by simpa using e2
            go_wp2_with fail
            go_meet
            case rel => exact ⟨by simp [e2], hx5⟩
        · have e1b : (n == a) = false := by simpa using e1
          go_wp2_with fail
          go_meet
          case rel => exact ⟨by simp [e1], hx5⟩
  case rest =>
    clear c1 f1 c2 f2 z1 z2
    obtain ⟨rfl, hx5⟩ := hcut
    generalize hb1 : (!lI && (l1 || ((n == a && m == b) && lO))) = q1 at *
    replace hb1 := Lib.hid hb1
    replace hO := hO.keep hx5
    replace hO2 := hO2.keep hx5
    replace hw := hw.then hx5
    obtain ⟨c1, f1⟩ := hO.facts
    obtain ⟨c2, f2⟩ := hO2.facts
    have z1 := hO.lt
    have z2 := hO2.lt
    go_upto_region 2 with (fail)
    go_cut [6] (fun v wx => v = .bool (!rI && (l2 || ((n == c && m == d) && rO))) ∧ Ext wc wx)
    case first =>
      cases rI with
      | true =>
        go_wp2_with fail
        go_meet
        case rel => exact ⟨by simp, Ext.rfl' _⟩
      | false =>
        have h2' := h2.out (by first | trivial | rfl)
        replace h2' := Lib.hid h2'
        go_wp2_with fail
        refine RetV_at (h2'.out _) ?_
        intro w6 hx6
        replace hO := hO.keep hx6
        replace hO2 := hO2.keep hx6
        clear c1 f1 c2 f2 z1 z2
        obtain ⟨c1, f1⟩ := hO.facts
        obtain ⟨c2, f2⟩ := hO2.facts
        have z1 := hO.lt
        have z2 := hO2.lt
        cases l2 with
        | true =>
          go_wp2_with fail
          go_meet
          case rel => exact ⟨by simp, hx6⟩
        | false =>
          by_cases e1 : n = c
          · by_cases e2 : m = d
            · subst e1 e2
              go_wp2_with fail
              go_meet
              case rel => exact ⟨by simp, hx6⟩
            · subst e1
              have e2b : (m == d) = false := by simpa using e2
              go_wp2_with fail
              go_meet
              case rel => exact ⟨by simp [e2], hx6⟩
          · have e1b : (n == c) = false := by simpa using e1
            go_wp2_with fail
            go_meet
            case rel => exact ⟨by simp [e1], hx6⟩
    case rest =>
      clear c1 f1 c2 f2 z1 z2
      obtain ⟨rfl, hx6⟩ := hcut
      generalize hb2 : (!rI && (l2 || ((n == c && m == d) && rO))) = q2 at *
      have hfin : Hid (q = (!q1 && !q2)) := Lib.hid (by rw [hs.out, ← hb1.out, ← hb2])
      replace hw := hw.then hx6
      clear hb2
      cases q1 with
      | true =>
        go_wp2_with fail
        go_ret
        exact ⟨ret_bool (by rw [hfin.out]; simp), hw⟩
      | false =>
        go_wp2_with fail
        go_ret
        exact ⟨ret_bool (by rw [hfin.out]; simp), hw⟩
set_option maxRecDepth 100000 in
set_option maxHeartbeats 8000000 in
theorem rhas_c (v : Value) (l : List Itv) (r : Rat2) (w : World) (hl : ItvsR (ph w) v l) : Calls Tryz.prog 109 #[v, raA r] w (RetV w (.bool (hasL l r))) := by
  have hv := fun w => rvalid_c r w
  have hin := fun (hok : RatOk r) (x : Itv) (hx : goodB x = true) w => rin_c x r w hx hok
  have hs : Hid (hasL l r = (decide (RatOk r) && l.any fun x => goodB x && hasB x r)) := rfl
  generalize hasL l r = Q at *
  obtain ⟨a, c, rfl, hlen, hl⟩ := hl.form
  obtain ⟨e, he⟩ : ∃ e, ErrIf (RatOk r) 1 = e := ⟨_, rfl⟩
  rw [he] at hv
  by_cases hok : RatOk r
  · have h0 : e = 0 := by rw [← he]; exact ErrIf_t hok
    subst h0
    have hs2 : Hid (Q = l.any fun x => goodB x && hasB x r) := Lib.hid (by rw [hs.out]; simp [hok])
    replace hin := hin hok
    clear hok he hs
    obtain ⟨n, d⟩ := r
    unfold raA at *
    dsimp only at *
    have hx := Ext.new w (.cells #[.int .i64 n, .int .i64 d] 81)
    have hO := Proofs.YtbpilielamjnoaaGreat.Own.new w #[.int .i64 n, .int .i64 d] 81
    replace hv := Lib.hid hv
    replace hin := Lib.hid hin
    go_enter Tryz.func109, Tryz.ntmps109
    go_upto_region 1 with (fail)
    generalize w.heap.size = b2 at *
    generalize w.alloc _ = W at *
    obtain ⟨c1, f1⟩ := hO.facts
    have z1 := hO.lt
    go_wp2_with fail
    refine RetV_at (hv.out _) ?_
    intro w2 hx2
    replace hO := hO.keep hx2
    replace hx := hx.then hx2
    clear c1 f1 z1 hx2
    go_wp2_with fail
    go_loopw [5] (fun i wr => ∃ k : Nat, k ≤ l.length ∧ i = .int .i64 k ∧ Hid (∀ x ∈ l.take k, (goodB x && hasB x ⟨n, d⟩) = false) ∧ Own wr b2 #[.int .i64 n, .int .i64 d] 81 ∧ Ext w wr) (fun i _ => l.length - (intOf i).toNat)
    case atStart => exact ⟨0, Nat.zero_le _, rfl, Lib.hid (by simp), hO, hx⟩
    case round =>
      clear hO hx
      obtain ⟨k, hk, rfl, ho, hO, hx⟩ := hrel
      by_cases hlt : k < l.length
      · obtain ⟨b, o, rfl, h0, h1, h2, h3, h4, h5, h6, h7, hbl, hI⟩ := ItvsR.at (hl.mono mono_ItvR hx.ple) k hlt
        have hja : decide (k < l.length) = true := decide_eq_true hlt
        have hgood := fun w => rgood_c l[k] w
        have hi2 := fun (h : goodB l[k] = true) w => hin.out l[k] h w
        have hg1 := fun (hg : (goodB l[k] && hasB l[k] ⟨n, d⟩) = false) => take_all hlt hg ho.out
        have hg0 : (goodB l[k] && hasB l[k] ⟨n, d⟩) = true → Q = true := fun h => by rw [hs2.out]; exact List.any_eq_true.2 ⟨_, List.getElem_mem hlt, h⟩
        unfold itA at hgood hi2
        generalize goodB l[k] = gd at *
        generalize hasB l[k] ⟨n, d⟩ = q at *
        generalize l[k] = x at *
        clear hI
        obtain ⟨⟨p1, p2⟩, ⟨p3, p4⟩, lO, rO, lI, rI⟩ := x
        dsimp only at *
        have hgh := Lib.hid hgood
        have hih := Lib.hid hi2
        have hg0h := Lib.hid hg0
        have hg1h := Lib.hid hg1
        clear hgood hi2 hg0 hg1 hin
        go_wp2_with fail
        refine RetV_at (hgh.out _) ?_
        intro w3 hx3
        replace hO := hO.keep hx3
        replace h0 := hx3.cell1 h0
        replace h1 := hx3.cell1 h1
        replace h2 := hx3.cell1 h2
        replace h3 := hx3.cell1 h3
        replace h4 := hx3.cell1 h4
        replace h5 := hx3.cell1 h5
        replace h6 := hx3.cell1 h6
        replace h7 := hx3.cell1 h7
        replace hx := hx.then hx3
        replace hbl := cell_lt h0
        clear hx3
        obtain ⟨c1, f1⟩ := hO.facts
        have z1 := hO.lt
        have k0 : _ = some (Value.int .i64 n) := c1 0
        have k1 : _ = some (Value.int .i64 d) := c1 1
        clear c1
        cases gd with
        | false =>
          clear h0 h1 h2 h3 h4 h5 h6 h7 f1 k0 k1 z1
          have hg := Lib.hid (hg1h.out (by first | trivial | rfl))
          clear hg0h hg1h
          go_upto_region 7 with (fail)
          (refine wp_region_I 9 (by kernel_rfl) (by kernel_rfl) ?_; simp only [List.toList_toArray, List.take_succ_cons, List.take_zero, List.drop_succ_cons, List.drop_zero])
          iterate 2 (refine wiA rfl (by simp) rfl ?_; (try simp only [List.nil_append, List.cons_append]))
          iterate 6 (refine walkI_no rfl (by simp) rfl rfl rfl ?_ ?_; (focus (simp [undef]; done)); (try simp only [List.nil_append, List.cons_append]))
          (refine wiA rfl (by simp) rfl ?_; (try simp only [List.nil_append, List.cons_append]))
          (refine walkI_nil ?_; simp only [List.nil_append, List.cons_append, fins, Is, forall_eq, Act.put, List.setIfInBounds_toArray, List.set_cons_zero, List.set_cons_succ])
          intro w6 hx6
          replace hO := hO.keep hx6
          replace hx := hx.then hx6
          go_wp2_with fail
          go_roundw
          case rel => exact ⟨k + 1, by omega, by go_num, Lib.hid hg.out, hO, hx⟩
          case measure => simp [intOf]; omega
        | true =>
          have hi3 := Lib.hid (hih.out (by first | trivial | rfl))
          go_upto_region 7 with (fail)
          (refine wp_region_I 9 (by kernel_rfl) (by kernel_rfl) ?_; simp only [List.toList_toArray, List.take_succ_cons, List.take_zero, List.drop_succ_cons, List.drop_zero])
          iterate 2 (refine wiA rfl (by simp) rfl ?_; (try simp only [List.nil_append, List.cons_append]))
          iterate 5 (refine wyA rfl (by simp) rfl rfl rfl ?_; (try simp only [List.nil_append, List.cons_append]))
          (refine walkI_yesis (u := ?_) rfl (by simp) rfl rfl rfl ?_ ?_; rotate_left; (focus (intro A w' hS hA K hK; (simp only [List.map_cons, List.map_nil, knows, Is, Op.operands, Call.operands, List.lookup_cons, List.lookup_nil, Nat.reduceBEq, Bool.false_eq_true, if_false, if_true, Act.eval, Array.getD_eq_getD_getElem?, List.getElem?_toArray, List.getElem?_cons_succ, List.getElem?_cons_zero, Option.getD_some, and_true, true_and, List.append_toArray, List.nil_append, List.cons_append, List.toList_toArray, Array.toList_append, Option.toArray, List.append_nil] at hA); first | (go_simp; refine RetV_at (hi3.out w') ?_; intro w6 hx6; exact hK _ hx6) | (obtain ⟨hSc, hSf, hSs⟩ := hS.cells; go_simp; exact hK _ xN))); (try simp only [List.nil_append, List.cons_append]))
          (refine wiA rfl (by simp) rfl ?_; (try simp only [List.nil_append, List.cons_append]))
          (refine walkI_nil ?_; simp only [List.nil_append, List.cons_append, fins, Is, forall_eq, Act.put, List.setIfInBounds_toArray, List.set_cons_zero, List.set_cons_succ])
          intro w6 hx6
          replace hO := hO.keep hx6
          replace hx := hx.then hx6
          clear h0 h1 h2 h3 h4 h5 h6 h7 f1 k0 k1 z1 hi3
          cases q with
          | true =>
            have hQ := Lib.hid (hg0h.out (by first | trivial | rfl))
            go_wp2_with fail
            go_ret
            exact ⟨ret_bool hQ.out.symm, hx⟩
          | false =>
            have hg := Lib.hid (hg1h.out (by first | trivial | rfl))
            clear hg0h hg1h
            go_wp2_with fail
            go_roundw
            case rel => exact ⟨k + 1, by omega, by go_num, Lib.hid hg.out, hO, hx⟩
            case measure => simp [intOf]; omega
      · have hja : decide (k < l.length) = false := by simpa using hlt
        have hQ : Hid (Q = false) := Lib.hid (by
          have := ho.out
          rw [List.take_of_length_le (by omega)] at this
          rw [hs2.out, List.any_eq_false]
          intro x hx; rw [this x hx]; simp)
        clear hin hl
        go_wp2_with fail
        go_ret
        exact ⟨ret_bool hQ.out.symm, hx⟩
  · have h0 : e = 1 := by rw [← he]; exact ErrIf_f hok
    subst h0
    have hs2 : Hid (Q = false) := Lib.hid (by rw [hs.out]; simp [hok])
    clear hok he hs hl hin
    obtain ⟨n, d⟩ := r
    unfold raA at *
    dsimp only at *
    have hx := Ext.new w (.cells #[.int .i64 n, .int .i64 d] 81)
    have hO := Proofs.YtbpilielamjnoaaGreat.Own.new w #[.int .i64 n, .int .i64 d] 81
    replace hv := Lib.hid hv
    go_enter Tryz.func109, Tryz.ntmps109
    go_upto_region 1 with (fail)
    generalize w.heap.size = b2 at *
    generalize w.alloc _ = W at *
    obtain ⟨c1, f1⟩ := hO.facts
    have z1 := hO.lt
    go_wp2_with fail
    refine RetV_at (hv.out _) ?_
    intro w2 hx2
    go_wp2_with fail
    go_ret
    exact ⟨ret_bool hs2.out.symm, hx.then hx2⟩
theorem any_done {α : Type} {p : α → Bool} {l : List α} (h : ∀ x ∈ l, p x = false) : l.any p = false := by
  rw [List.any_eq_false]; intro x hx; simp [h x hx]
theorem any_hit {α : Type} {p : α → Bool} {l : List α} {x : α} (hx : x ∈ l) (h : p x = true) : l.any p = true := List.any_eq_true.2 ⟨x, hx, h⟩
set_option maxRecDepth 100000 in
set_option maxHeartbeats 4000000 in
theorem means_c {ps : List (List Int)} {rk : Nat → Nat} (ok : ParOk ps rk) (vp : Value) (f : Fm) : ∀ (t : Thing) (cs ds : List Value) (w : World), RowsR (ph w) vp ps → FmR (ph w) cs f → ThingR (ph w) ds t → wholeB f = true →
    Calls Tryz.prog 57 #[vp, .agg cs.toArray, .agg ds.toArray] w (RetV w (.bool (hold ps f t))) := by
  induction f using Fm.ind with
  | h f ih =>
    intro t cs ds w hP hF hD hw
    obtain ⟨a3, c3, a4, c4, rfl, i1, i2, -, hl4, hfi, hfk⟩ := hF.form
    obtain ⟨t1, d1, t2, d2, t3, d3, rfl, l1, -, l3, h1, h2, h3⟩ := hD.form
    have hwk : ∀ x ∈ f.kids, wholeB x = true := by
      rw [wholeB_eq, Bool.and_eq_true, List.all_eq_true] at hw; exact hw.2
    have hform : formed1 f = true := by
      rw [wholeB_eq, Bool.and_eq_true] at hw; exact hw.1
    have HI := Lib.hid (fun x hx t cs ds w a b c => ih x hx t cs ds w a b c (hwk x hx))
    have hok := Lib.hid ok
    clear ih hw hwk ok hF
    unfold fmC
    have e5 : Ext w ((w.alloc (.cells #[.int .i64 f.op, .int .i64 f.n, .slice a3 f.inn.length c3, .slice a4 f.kids.length c4] 29)).alloc (.cells #[.slice t1 t.cls.length d1, .slice t2 t.vals.length d2, .slice t3 t.parts.length d3] 41)) := xE
    have o4 : Own ((w.alloc (.cells #[.int .i64 f.op, .int .i64 f.n, .slice a3 f.inn.length c3, .slice a4 f.kids.length c4] 29)).alloc (.cells #[.slice t1 t.cls.length d1, .slice t2 t.vals.length d2, .slice t3 t.parts.length d3] 41)) w.heap.size #[.int .i64 f.op, .int .i64 f.n, .slice a3 f.inn.length c3, .slice a4 f.kids.length c4] 29 := oE
    have o5 : Own ((w.alloc (.cells #[.int .i64 f.op, .int .i64 f.n, .slice a3 f.inn.length c3, .slice a4 f.kids.length c4] 29)).alloc (.cells #[.slice t1 t.cls.length d1, .slice t2 t.vals.length d2, .slice t3 t.parts.length d3] 41)) (w.heap.size + 1) #[.slice t1 t.cls.length d1, .slice t2 t.vals.length d2, .slice t3 t.parts.length d3] 41 := oE
    go_enter Tryz.func57, Tryz.ntmps57
    go_upto_region 1 with (fail)
    generalize World.alloc _ _ = w5 at *
    generalize hB5 : w.heap.size + 1 = g5 at *
    generalize w.heap.size = g4 at *
    clear hB5
    have cu40 : w5.cell? ⟨g4, 0, none⟩ = some (.int .i64 f.op) := o4.facts.1 0
    have cu41 : w5.cell? ⟨g4, 1, none⟩ = some (.int .i64 f.n) := o4.facts.1 1
    have cu42 : w5.cell? ⟨g4, 2, none⟩ = some (.slice a3 f.inn.length c3) := o4.facts.1 2
    have cu43 : w5.cell? ⟨g4, 3, none⟩ = some (.slice a4 f.kids.length c4) := o4.facts.1 3
    have cu50 : w5.cell? ⟨g5, 0, none⟩ = some (.slice t1 t.cls.length d1) := o5.facts.1 0
    have cu51 : w5.cell? ⟨g5, 1, none⟩ = some (.slice t2 t.vals.length d2) := o5.facts.1 1
    have cu52 : w5.cell? ⟨g5, 2, none⟩ = some (.slice t3 t.parts.length d3) := o5.facts.1 2
    have l4 := o4.lt
    have l5 := o5.lt
    clear o4 o5
    replace hP := hP.mono mono_IntsRow e5.ple
    replace hD := mono_ThingR _ _ _ _ e5.ple hD
    replace hfi := hfi.mono mono_ItvR e5.ple
    replace hfk := hfk.mono mono_FmR e5.ple
    replace h1 := h1.mono mono_IntR e5.ple
    replace h2 := h2.mono mono_ValR e5.ple
    replace h3 := h3.mono mono_ThingR e5.ple
    by_cases q1 : f.op = 1
    · have hv : Hid (hold ps f t = t.cls.any fun x => B (isTx ps x f.n)) := by show _ = _; rw [hold_eq, if_pos q1]
      have b1 : (f.op == 1) = true := by simpa using q1
      clear q1 i1 hform
      generalize hold ps f t = res at *
      go_wp2_with fail
      go_loopw [7] (fun i wr => ∃ k : Nat, k ≤ t.cls.length ∧ i = .int .i64 k ∧ Hid (∀ x ∈ t.cls.take k, B (isTx ps x f.n) = false) ∧ Ext w5 wr) (fun i _ => t.cls.length - (intOf i).toNat)
      case atStart => exact ⟨0, by omega, rfl, Lib.hid (by simp), Ext.rfl' _⟩
      case round =>
        obtain ⟨k, hk, rfl, hno, hx⟩ := hrel
        replace cu40 := hx.cell1 cu40
        replace cu41 := hx.cell1 cu41
        replace cu42 := hx.cell1 cu42
        replace cu43 := hx.cell1 cu43
        replace cu50 := hx.cell1 cu50
        replace cu51 := hx.cell1 cu51
        replace cu52 := hx.cell1 cu52
        replace l4 := cell_lt cu40
        replace l5 := cell_lt cu50
        by_cases hlt : k < t.cls.length
        · have hd1 : decide (k < t.cls.length) = true := decide_eq_true hlt
          obtain ⟨b, o, rfl, h0, i0, hbl⟩ := IntsR.at (h1.mono mono_IntR hx.ple) k hlt
          have hmem : t.cls[k] ∈ t.cls := List.getElem_mem hlt
          have hno2 := @take_all _ (fun x => B (isTx ps x f.n) = false) t.cls k hlt
          have hcl := Lib.hid (fun w' (e : Ext wr w') => ris_c hok.out t.cls[k] f.n vp w' (hP.mono mono_IntsRow (hx.then e).ple) i0)
          obtain ⟨bx, hbx⟩ : ∃ b, Hid (B (isTx ps t.cls[k] f.n) = b) := ⟨_, Lib.hid rfl⟩
          rw [hbx.out] at hcl
          generalize t.cls[k] = x at *
          go_upto_region 6 with (fail)
          (refine wp_region_I 9 (by kernel_rfl) (by kernel_rfl) ?_; simp only [List.toList_toArray, List.take_succ_cons, List.take_zero, List.drop_succ_cons, List.drop_zero])
          iterate 8 (refine wiA rfl (by simp) rfl ?_; (try simp only [List.nil_append, List.cons_append]))
          (refine walkI_is (u := ?_) rfl (by simp) rfl ?_ ?_; rotate_left; (focus (intro A w' hS hA K hK; (simp only [List.map_cons, List.map_nil, knows, Is, Op.operands, Call.operands, List.lookup_cons, List.lookup_nil, Nat.reduceBEq, Bool.false_eq_true, if_false, if_true, Act.eval, Array.getD_eq_getD_getElem?, List.getElem?_toArray, List.getElem?_cons_succ, List.getElem?_cons_zero, Option.getD_some, and_true, true_and, List.append_toArray, List.nil_append, List.cons_append, List.toList_toArray, Array.toList_append, Option.toArray, List.append_nil] at hA); first | (go_simp; refine (hcl.out _ hS).mono ?_; rintro e w9 ⟨rfl, hx9⟩; exact hK _ hx9) | (obtain ⟨hSc, hSf, hSs⟩ := hS.cells; go_simp; exact hK _ xN))); (try simp only [List.nil_append, List.cons_append]))
          (refine walkI_nil ?_; simp only [List.nil_append, List.cons_append, fins, Is, forall_eq, Act.put, List.setIfInBounds_toArray, List.set_cons_zero, List.set_cons_succ])
          intro w9 hx9
          replace hx := hx.then hx9
          clear cu40 cu41 cu42 cu43 cu50 cu51 cu52 l4 l5
          cases bx with
          | true =>
            have hv2 : Hid (res = true) := by
              show _ = _
              rw [hv.out, any_hit hmem hbx.out]
            go_wp2_with fail
            go_ret
            exact ⟨ret_bool hv2.out.symm, e5.then hx⟩
          | false =>
            have hno3 := Lib.hid (hno2 hbx.out hno.out)
            clear hno2 hbx
            go_wp2_with fail
            go_roundw
            case rel => exact ⟨k + 1, by omega, by go_num, hno3, hx⟩
            case measure => simp [intOf]; omega
        · have hd1 : decide (k < t.cls.length) = false := decide_eq_false hlt
          have hv2 : Hid (res = false) := by
            show _ = _
            rw [hv.out, any_done (take_done (Nat.le_of_not_lt hlt) hno.out)]
          clear hno
          go_wp2_with fail
          go_ret
          exact ⟨ret_bool hv2.out.symm, e5.then hx⟩
    have b1 : (f.op == 1) = false := by simpa using q1
    by_cases q2 : f.op = 2
    · have hv : Hid (hold ps f t = (match getVal t.vals f.n with | some r => hasL f.inn r | none => false)) := by show _ = _; rw [hold_eq, if_neg q1, if_pos q2] <;> (cases getVal t.vals f.n <;> rfl)
      have b2 : (f.op == 2) = true := by simpa using q2
      have hval := value_r t f.n _ w5 hD
      cases hg : getVal t.vals f.n with
      | none =>
        rw [hg] at hval hv
        unfold optRat at hval
        dsimp only at hval hv
        clear q1 q2
        go_wp2_with fail
        refine RetV_at hval ?_
        intro w6 hx6
        replace cu42 := hx6.cell1 cu42
        replace l4 := cell_lt cu42
        clear hval
        go_wp2_with fail
        go_ret
        exact ⟨by rw [hv.out]; rfl, xE⟩
      | some r =>
        rw [hg] at hval hv
        unfold optRat at hval
        dsimp only at hval hv
        clear q1 q2
        go_wp2_with fail
        refine RetV_at hval ?_
        intro w6 hx6
        replace cu42 := hx6.cell1 cu42
        replace l4 := cell_lt cu42
        clear hval
        go_wp2_with fail
        refine RetV_at (rhas_c _ f.inn r _ (hfi.mono mono_ItvR (Ext.ple xE))) ?_
        intro w7 hx7
        rw [← hv.out]
        go_wp2_with fail
        go_ret
        exact ⟨rfl, xE⟩
    have b2 : (f.op == 2) = false := by simpa using q2
    have one : f.op = 3 ∨ f.op = 6 → ∃ g0, f.kids = [g0] := by
      intro q
      obtain ⟨op, n, inn, kids⟩ := f
      simp only [Fm.op, Fm.kids] at *
      have hl : kids.length = 1 := by
        rw [formed1_mk] at hform
        rcases q with rfl | rfl
        all_goals
          split at hform
          · cases hform
          · simpa using hform
      exact List.length_eq_one_iff.1 hl
    by_cases q3 : f.op = 3
    · have hv : Hid (hold ps f t = t.parts.any fun x => holdFst ps f.kids x) := by show _ = _; rw [hold_eq, if_neg q1, if_neg q2, if_pos q3]
      have b3' : (f.op == 3) = true := by simpa using q3
      obtain ⟨g0, hk0⟩ := one (.inl q3)
      clear one
      clear q1 q2 q3 i1 hform
      generalize hold ps f t = res at *
      go_wp2_with fail
      go_loopw [10] (fun i wr => ∃ k : Nat, k ≤ t.parts.length ∧ i = .int .i64 k ∧ Hid (∀ x ∈ t.parts.take k, holdFst ps f.kids x = false) ∧ Ext w5 wr) (fun i _ => t.parts.length - (intOf i).toNat)
      case atStart => exact ⟨0, by omega, rfl, Lib.hid (by simp), Ext.rfl' _⟩
      case round =>
        obtain ⟨k, hk, rfl, hno, hx⟩ := hrel
        replace cu40 := hx.cell1 cu40
        replace cu41 := hx.cell1 cu41
        replace cu42 := hx.cell1 cu42
        replace cu43 := hx.cell1 cu43
        replace cu50 := hx.cell1 cu50
        replace cu51 := hx.cell1 cu51
        replace cu52 := hx.cell1 cu52
        replace l4 := cell_lt cu40
        replace l5 := cell_lt cu50
        by_cases hlt : k < t.parts.length
        · have hd1 : decide (k < t.parts.length) = true := decide_eq_true hlt
          obtain ⟨b, o, r1, s1, r2, s2, r3, s3, rfl, y0, y1, y2, hE, hbl⟩ := ThingsR.at (h3.mono mono_ThingR hx.ple) k hlt
          obtain ⟨kb, ko, k3, m3, k4, m4, ek, z0, z1, z2, z3, hEk, zl⟩ := FmsR.at (hfk.mono mono_FmR hx.ple) 0 (by rw [hk0]; simp)
          have hg0 : f.kids[0]'(by rw [hk0]; simp) = g0 := by simp [hk0]
          rw [hg0] at z0 z1 z2 z3 hEk
          simp only [Nat.zero_mul, Nat.add_zero] at z0 z1 z2 z3
          have hkl : f.kids.length = 1 := by rw [hk0]; rfl
          subst ek
          rw [hkl] at cu43
          unfold fmC at hEk
          have hb0 : (0 : Nat) < 1 := by omega
          clear hg0 hkl
          have hmem : t.parts[k] ∈ t.parts := List.getElem_mem hlt
          have hno2 := @take_all _ (fun x => holdFst ps f.kids x = false) t.parts k hlt
          have hhf : holdFst ps f.kids t.parts[k] = hold ps g0 t.parts[k] := by rw [hk0]; rfl
          have hcl := Lib.hid (fun w' (e : Ext wr w') => HI.out g0 (by rw [hk0]; simp) t.parts[k] _ _ w' (hP.mono mono_IntsRow (hx.then e).ple) (mono_FmR _ _ _ _ e.ple hEk) (mono_ThingR _ _ _ _ e.ple hE))
          rw [← hhf] at hcl
          obtain ⟨bx, hbx⟩ : ∃ b, Hid (holdFst ps f.kids t.parts[k] = b) := ⟨_, Lib.hid rfl⟩
          rw [hbx.out] at hcl
          clear hhf
          replace hk0 := Lib.hid hk0
          generalize t.parts[k] = x at *
          go_upto_region 16 with (fail)
          (refine wp_region_I 11 (by kernel_rfl) (by kernel_rfl) ?_; simp only [List.toList_toArray, List.take_succ_cons, List.take_zero, List.drop_succ_cons, List.drop_zero])
          iterate 10 (refine wiA rfl (by simp) rfl ?_; (try simp only [List.nil_append, List.cons_append]))
          (refine walkI_is (u := ?_) rfl (by simp) rfl ?_ ?_; rotate_left; (focus (intro A w' hS hA K hK; (simp only [List.map_cons, List.map_nil, knows, Is, Op.operands, Call.operands, List.lookup_cons, List.lookup_nil, Nat.reduceBEq, Bool.false_eq_true, if_false, if_true, Act.eval, Array.getD_eq_getD_getElem?, List.getElem?_toArray, List.getElem?_cons_succ, List.getElem?_cons_zero, Option.getD_some, and_true, true_and, List.append_toArray, List.nil_append, List.cons_append, List.toList_toArray, Array.toList_append, Option.toArray, List.append_nil] at hA); first | (go_simp; refine (hcl.out _ hS).mono ?_; rintro e w9 ⟨rfl, hx9⟩; exact hK _ hx9) | (obtain ⟨hSc, hSf, hSs⟩ := hS.cells; go_simp; exact hK _ xN))); (try simp only [List.nil_append, List.cons_append]))
          (refine walkI_nil ?_; simp only [List.nil_append, List.cons_append, fins, Is, forall_eq, Act.put, List.setIfInBounds_toArray, List.set_cons_zero, List.set_cons_succ])
          intro w9 hx9
          replace hx := hx.then hx9
          clear cu40 cu41 cu42 cu43 cu50 cu51 cu52 l4 l5
          cases bx with
          | true =>
            have hv2 : Hid (res = true) := by
              show _ = _
              rw [hv.out, any_hit hmem hbx.out]
            go_wp2_with fail
            go_ret
            exact ⟨ret_bool hv2.out.symm, e5.then hx⟩
          | false =>
            have hno3 := Lib.hid (hno2 hbx.out hno.out)
            clear hno2 hbx
            go_wp2_with fail
            go_roundw
            case rel => exact ⟨k + 1, by omega, by go_num, hno3, hx⟩
            case measure => simp [intOf]; omega
        · have hd1 : decide (k < t.parts.length) = false := decide_eq_false hlt
          have hv2 : Hid (res = false) := by
            show _ = _
            rw [hv.out, any_done (take_done (Nat.le_of_not_lt hlt) hno.out)]
          clear hno
          go_wp2_with fail
          go_ret
          exact ⟨ret_bool hv2.out.symm, e5.then hx⟩
    have b3' : (f.op == 3) = false := by simpa using q3
    by_cases q4 : f.op = 4
    · have hv : Hid (hold ps f t = !(f.kids.any fun x => !hold ps x t)) := by
        show _ = _
        rw [hold_eq, if_neg q1, if_neg q2, if_neg q3, if_pos q4, List.not_any_eq_all_not]
        simp
      have b4' : (f.op == 4) = true := by simpa using q4
      clear one
      clear q1 q2 q3 q4 i1 hform
      generalize hold ps f t = res at *
      go_wp2_with fail
      go_loopw [11] (fun i wr => ∃ k : Nat, k ≤ f.kids.length ∧ i = .int .i64 k ∧ Hid (∀ x ∈ f.kids.take k, (!hold ps x t) = false) ∧ Ext w5 wr) (fun i _ => f.kids.length - (intOf i).toNat)
      case atStart => exact ⟨0, by omega, rfl, Lib.hid (by simp), Ext.rfl' _⟩
      case round =>
        obtain ⟨k, hk, rfl, hno, hx⟩ := hrel
        replace cu40 := hx.cell1 cu40
        replace cu41 := hx.cell1 cu41
        replace cu42 := hx.cell1 cu42
        replace cu43 := hx.cell1 cu43
        replace cu50 := hx.cell1 cu50
        replace cu51 := hx.cell1 cu51
        replace cu52 := hx.cell1 cu52
        replace l4 := cell_lt cu40
        replace l5 := cell_lt cu50
        by_cases hlt : k < f.kids.length
        · have hd1 : decide (k < f.kids.length) = true := decide_eq_true hlt
          obtain ⟨kb, ko, k3, m3, k4, m4, rfl, z0, z1, z2, z3, hEk, zl⟩ := FmsR.at (hfk.mono mono_FmR hx.ple) k hlt
          unfold fmC at hEk
          have hmem : f.kids[k] ∈ f.kids := List.getElem_mem hlt
          have hno2 := @take_all _ (fun x => (!hold ps x t) = false) f.kids k hlt
          have hcl := Lib.hid (fun w' (e : Ext wr w') => HI.out f.kids[k] (List.getElem_mem hlt) t _ _ w' (hP.mono mono_IntsRow (hx.then e).ple) (mono_FmR _ _ _ _ e.ple hEk) (mono_ThingR _ _ _ _ (hx.then e).ple hD))
          obtain ⟨bx, hbx⟩ : ∃ b, Hid ((!hold ps f.kids[k] t) = b) := ⟨_, Lib.hid rfl⟩
          have hbn : hold ps f.kids[k] t = !bx := by rw [← hbx.out]; simp
          rw [hbn] at hcl
          clear hbn
          generalize f.kids[k] = x at *
          go_upto_region 23 with (fail)
          (refine wp_region_I 9 (by kernel_rfl) (by kernel_rfl) ?_; simp only [List.toList_toArray, List.take_succ_cons, List.take_zero, List.drop_succ_cons, List.drop_zero])
          iterate 7 (refine wiA rfl (by simp) rfl ?_; (try simp only [List.nil_append, List.cons_append]))
          (refine walkI_is (u := ?_) rfl (by simp) rfl ?_ ?_; rotate_left; (focus (intro A w' hS hA K hK; (simp only [List.map_cons, List.map_nil, knows, Is, Op.operands, Call.operands, List.lookup_cons, List.lookup_nil, Nat.reduceBEq, Bool.false_eq_true, if_false, if_true, Act.eval, Array.getD_eq_getD_getElem?, List.getElem?_toArray, List.getElem?_cons_succ, List.getElem?_cons_zero, Option.getD_some, and_true, true_and, List.append_toArray, List.nil_append, List.cons_append, List.toList_toArray, Array.toList_append, Option.toArray, List.append_nil] at hA); first | (go_simp; refine (hcl.out _ hS).mono ?_; rintro e w9 ⟨rfl, hx9⟩; exact hK _ hx9) | (obtain ⟨hSc, hSf, hSs⟩ := hS.cells; go_simp; exact hK _ xN))); (try simp only [List.nil_append, List.cons_append]))
          (refine wiA rfl (by simp) rfl ?_; (try simp only [List.nil_append, List.cons_append]))
          (refine walkI_nil ?_; simp only [List.nil_append, List.cons_append, fins, Is, forall_eq, Act.put, List.setIfInBounds_toArray, List.set_cons_zero, List.set_cons_succ])
          intro w9 hx9
          replace hx := hx.then hx9
          clear cu40 cu41 cu42 cu43 cu50 cu51 cu52 l4 l5
          cases bx with
          | true =>
            have hv2 : Hid (res = false) := by
              show _ = _
              rw [hv.out, any_hit hmem hbx.out]; rfl
            go_wp2_with fail
            go_ret
            exact ⟨ret_bool hv2.out.symm, e5.then hx⟩
          | false =>
            have hno3 := Lib.hid (hno2 hbx.out hno.out)
            clear hno2 hbx
            go_wp2_with fail
            go_roundw
            case rel => exact ⟨k + 1, by omega, by go_num, hno3, hx⟩
            case measure => simp [intOf]; omega
        · have hd1 : decide (k < f.kids.length) = false := decide_eq_false hlt
          have hv2 : Hid (res = true) := by
            show _ = _
            rw [hv.out, any_done (take_done (Nat.le_of_not_lt hlt) hno.out)]; rfl
          clear hno
          go_wp2_with fail
          go_ret
          exact ⟨ret_bool hv2.out.symm, e5.then hx⟩
    have b4' : (f.op == 4) = false := by simpa using q4
    by_cases q5 : f.op = 5
    · have hv : Hid (hold ps f t = f.kids.any fun x => hold ps x t) := by
        show _ = _
        rw [hold_eq, if_neg q1, if_neg q2, if_neg q3, if_neg q4, if_pos q5]
      have b5' : (f.op == 5) = true := by simpa using q5
      clear one
      clear q1 q2 q3 q4 q5 i1 hform
      generalize hold ps f t = res at *
      go_wp2_with fail
      go_loopw [12] (fun i wr => ∃ k : Nat, k ≤ f.kids.length ∧ i = .int .i64 k ∧ Hid (∀ x ∈ f.kids.take k, hold ps x t = false) ∧ Ext w5 wr) (fun i _ => f.kids.length - (intOf i).toNat)
      case atStart => exact ⟨0, by omega, rfl, Lib.hid (by simp), Ext.rfl' _⟩
      case round =>
        obtain ⟨k, hk, rfl, hno, hx⟩ := hrel
        replace cu40 := hx.cell1 cu40
        replace cu41 := hx.cell1 cu41
        replace cu42 := hx.cell1 cu42
        replace cu43 := hx.cell1 cu43
        replace cu50 := hx.cell1 cu50
        replace cu51 := hx.cell1 cu51
        replace cu52 := hx.cell1 cu52
        replace l4 := cell_lt cu40
        replace l5 := cell_lt cu50
        by_cases hlt : k < f.kids.length
        · have hd1 : decide (k < f.kids.length) = true := decide_eq_true hlt
          obtain ⟨kb, ko, k3, m3, k4, m4, rfl, z0, z1, z2, z3, hEk, zl⟩ := FmsR.at (hfk.mono mono_FmR hx.ple) k hlt
          unfold fmC at hEk
          have hmem : f.kids[k] ∈ f.kids := List.getElem_mem hlt
          have hno2 := @take_all _ (fun x => hold ps x t = false) f.kids k hlt
          have hcl := Lib.hid (fun w' (e : Ext wr w') => HI.out f.kids[k] (List.getElem_mem hlt) t _ _ w' (hP.mono mono_IntsRow (hx.then e).ple) (mono_FmR _ _ _ _ e.ple hEk) (mono_ThingR _ _ _ _ (hx.then e).ple hD))
          obtain ⟨bx, hbx⟩ : ∃ b, Hid (hold ps f.kids[k] t = b) := ⟨_, Lib.hid rfl⟩
          rw [hbx.out] at hcl
          generalize f.kids[k] = x at *
          go_upto_region 30 with (fail)
          (refine wp_region_I 8 (by kernel_rfl) (by kernel_rfl) ?_; simp only [List.toList_toArray, List.take_succ_cons, List.take_zero, List.drop_succ_cons, List.drop_zero])
          iterate 7 (refine wiA rfl (by simp) rfl ?_; (try simp only [List.nil_append, List.cons_append]))
          (refine walkI_is (u := ?_) rfl (by simp) rfl ?_ ?_; rotate_left; (focus (intro A w' hS hA K hK; (simp only [List.map_cons, List.map_nil, knows, Is, Op.operands, Call.operands, List.lookup_cons, List.lookup_nil, Nat.reduceBEq, Bool.false_eq_true, if_false, if_true, Act.eval, Array.getD_eq_getD_getElem?, List.getElem?_toArray, List.getElem?_cons_succ, List.getElem?_cons_zero, Option.getD_some, and_true, true_and, List.append_toArray, List.nil_append, List.cons_append, List.toList_toArray, Array.toList_append, Option.toArray, List.append_nil] at hA); first | (go_simp; refine (hcl.out _ hS).mono ?_; rintro e w9 ⟨rfl, hx9⟩; exact hK _ hx9) | (obtain ⟨hSc, hSf, hSs⟩ := hS.cells; go_simp; exact hK _ xN))); (try simp only [List.nil_append, List.cons_append]))
          (refine walkI_nil ?_; simp only [List.nil_append, List.cons_append, fins, Is, forall_eq, Act.put, List.setIfInBounds_toArray, List.set_cons_zero, List.set_cons_succ])
          intro w9 hx9
          replace hx := hx.then hx9
          clear cu40 cu41 cu42 cu43 cu50 cu51 cu52 l4 l5
          cases bx with
          | true =>
            have hv2 : Hid (res = true) := by
              show _ = _
              rw [hv.out, any_hit hmem hbx.out]
            go_wp2_with fail
            go_ret
            exact ⟨ret_bool hv2.out.symm, e5.then hx⟩
          | false =>
            have hno3 := Lib.hid (hno2 hbx.out hno.out)
            clear hno2 hbx
            go_wp2_with fail
            go_roundw
            case rel => exact ⟨k + 1, by omega, by go_num, hno3, hx⟩
            case measure => simp [intOf]; omega
        · have hd1 : decide (k < f.kids.length) = false := decide_eq_false hlt
          have hv2 : Hid (res = false) := by
            show _ = _
            rw [hv.out, any_done (take_done (Nat.le_of_not_lt hlt) hno.out)]
          clear hno
          go_wp2_with fail
          go_ret
          exact ⟨ret_bool hv2.out.symm, e5.then hx⟩
    have b5' : (f.op == 5) = false := by simpa using q5
    by_cases q6 : f.op = 6
    · have hx := Ext.rfl' w5
      obtain ⟨g0, hk0⟩ := one (.inr q6)
      have hv : Hid (hold ps f t = !hold ps g0 t) := by
        show _ = _
        rw [hold_eq, if_neg q1, if_neg q2, if_neg q3, if_neg q4, if_neg q5, if_pos q6, hk0]; rfl
      have b6' : (f.op == 6) = true := by simpa using q6
      clear one
      obtain ⟨kb, ko, k3, m3, k4, m4, ek, z0, z1, z2, z3, hEk, zl⟩ := FmsR.at (hfk.mono mono_FmR hx.ple) 0 (by rw [hk0]; simp)
      have hg0 : f.kids[0]'(by rw [hk0]; simp) = g0 := by simp [hk0]
      rw [hg0] at z0 z1 z2 z3 hEk
      simp only [Nat.zero_mul, Nat.add_zero] at z0 z1 z2 z3
      have hkl : f.kids.length = 1 := by rw [hk0]; rfl
      subst ek
      rw [hkl] at cu43
      unfold fmC at hEk
      have hb0 : (0 : Nat) < 1 := by omega
      clear hg0 hkl
      have hcl := Lib.hid (fun w' (e : Ext w5 w') => HI.out g0 (by rw [hk0]; simp) t _ _ w' (hP.mono mono_IntsRow e.ple) (mono_FmR _ _ _ _ e.ple hEk) (mono_ThingR _ _ _ _ e.ple hD))
      obtain ⟨bx, hbx⟩ : ∃ b, Hid (hold ps g0 t = b) := ⟨_, Lib.hid rfl⟩
      rw [hbx.out] at hcl
      rw [hbx.out] at hv
      replace hk0 := Lib.hid hk0
      clear q1 q2 q3 q4 q5 q6 i1 hform hx
      go_upto_region 34 with (fail)
      (refine wp_region_I 9 (by kernel_rfl) (by kernel_rfl) ?_; simp only [List.toList_toArray, List.take_succ_cons, List.take_zero, List.drop_succ_cons, List.drop_zero])
      iterate 6 (refine wiA rfl (by simp) rfl ?_; (try simp only [List.nil_append, List.cons_append]))
      (refine walkI_is (u := ?_) rfl (by simp) rfl ?_ ?_; rotate_left; (focus (intro A w' hS hA K hK; (simp only [List.map_cons, List.map_nil, knows, Is, Op.operands, Call.operands, List.lookup_cons, List.lookup_nil, Nat.reduceBEq, Bool.false_eq_true, if_false, if_true, Act.eval, Array.getD_eq_getD_getElem?, List.getElem?_toArray, List.getElem?_cons_succ, List.getElem?_cons_zero, Option.getD_some, and_true, true_and, List.append_toArray, List.nil_append, List.cons_append, List.toList_toArray, Array.toList_append, Option.toArray, List.append_nil] at hA); first | (go_simp; refine (hcl.out _ hS).mono ?_; rintro e w9 ⟨rfl, hx9⟩; exact hK _ hx9) | (obtain ⟨hSc, hSf, hSs⟩ := hS.cells; go_simp; exact hK _ xN))); (try simp only [List.nil_append, List.cons_append]))
      iterate 2 (refine wiA rfl (by simp) rfl ?_; (try simp only [List.nil_append, List.cons_append]))
      (refine walkI_nil ?_; simp only [List.nil_append, List.cons_append, fins, Is, forall_eq, Act.put, List.setIfInBounds_toArray, List.set_cons_zero, List.set_cons_succ])
      intro w9 hx9
      go_wp2_with fail
      go_ret
      exact ⟨ret_bool hv.out.symm, e5.then hx9⟩
    have b6' : (f.op == 6) = false := by simpa using q6
    have hv : Hid (hold ps f t = true) := by
      show _ = _
      rw [hold_eq, if_neg q1, if_neg q2, if_neg q3, if_neg q4, if_neg q5, if_neg q6]
    clear q1 q2 q3 q4 q5 q6
    go_wp2_with fail
    go_ret
    exact ⟨ret_bool hv.out.symm, e5⟩
end Go.Proofs.YtbpilielamjnoaaGreat
