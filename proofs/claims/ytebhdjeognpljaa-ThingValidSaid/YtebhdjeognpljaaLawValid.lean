/- ThingValid: the walk of the law. -/
import Derived.Test.YtebhdjeognpljaaThings
import Derived.Test.YtebhdjeognpljaaRefValid
import Derived.Test.YtebhdjeognpljaaLives
namespace Go.Proofs.Ytebhdjeognpljaa
open Go.RowKit
set_option linter.unusedSimpArgs false
set_option linter.unusedVariables false
theorem RetV_at {P : Program} {f : FuncId} {args : Array Value} {w : World} {v : Value} {K : Ending → World → Prop} (h : Calls P f args w (RetV w v)) (hK : ∀ w', Ext w w' → K (.returned v) w') : Calls P f args w K :=
  h.mono fun e w' ⟨h1, h2⟩ => by subst h1; exact hK w' h2
set_option maxRecDepth 100000 in
set_option maxHeartbeats 2000000 in
theorem validLaw_c (vl vm : Value) (l m : List Int) (at_ how by_ : Int) (w : World) (hl : IntsR (ph w) vl l) (hm : IntsR (ph w) vm m) (hll : l.length ≤ 140737488355328) (hml : m.length ≤ 140737488355328) (hat : I64 at_) (hhow : I64 how) (hby : I64 by_) :
    Calls Try.prog 3 #[vl, vm, .int .i64 at_, .int .i64 how, .int .i64 by_] w (RetV w (.bool true)) := by
  go_enter Try.func3, Try.ntmps3
  go_wp2_with fail
  refine (things_c _ _ l m at_ how by_ _ (hl.mono mono_IntR (Ext.ple (by repeat (first | (with_reducible assumption) | (with_reducible exact Ext.rfl' _) | (with_reducible exact Ext.new _ _) | (with_reducible refine Ext.alloc' ?_ _) | (with_reducible refine Ext.drew' ?_) | (with_reducible refine Ext.drewN' ?_ _) | (with_reducible refine Ext.set' ?_ ?_ _; rotate_left; (focus (first | omega | (simp; done) | (simp; omega)))) | (with_reducible refine Ext.then (b := ?_) ?_ ?_; rotate_left; rotate_left; (with_reducible assumption)))))) (hm.mono mono_IntR (Ext.ple (by repeat (first | (with_reducible assumption) | (with_reducible exact Ext.rfl' _) | (with_reducible exact Ext.new _ _) | (with_reducible refine Ext.alloc' ?_ _) | (with_reducible refine Ext.drew' ?_) | (with_reducible refine Ext.drewN' ?_ _) | (with_reducible refine Ext.set' ?_ ?_ _; rotate_left; (focus (first | omega | (simp; done) | (simp; omega)))) | (with_reducible refine Ext.then (b := ?_) ?_ ?_; rotate_left; rotate_left; (with_reducible assumption)))))) hll hml hat hhow hby).mono ?_
  rintro e w1 ⟨H', v, xs, rfl, hO, hub, hxl, hbk, hb1⟩
  have hR := hO.rep mono_ThingR (hub.trans (up_ple (noH_le _) hb1))
  have hb : Ext w w1 := (by repeat (first | (with_reducible assumption) | (with_reducible exact Ext.rfl' _) | (with_reducible exact Ext.new _ _) | (with_reducible refine Ext.alloc' ?_ _) | (with_reducible refine Ext.drew' ?_) | (with_reducible refine Ext.drewN' ?_ _) | (with_reducible refine Ext.set' ?_ ?_ _; rotate_left; (focus (first | omega | (simp; done) | (simp; omega)))) | (with_reducible refine Ext.then (b := ?_) ?_ ?_; rotate_left; rotate_left; (with_reducible assumption))))
  clear hxl
  obtain ⟨a, c, rfl, hxb, hR⟩ := hR.form
  clear hO hub hb1 hl hm
  go_wp2_with fail
  go_loopw [12] (fun i wr => ∃ k : Nat, k ≤ xs.length ∧ i = .int .i64 k ∧ Ext w1 wr) (fun i _ => xs.length - (intOf i).toNat)
  case atStart => exact ⟨0, by omega, rfl, (by repeat (first | (with_reducible assumption) | (with_reducible exact Ext.rfl' _) | (with_reducible exact Ext.new _ _) | (with_reducible refine Ext.alloc' ?_ _) | (with_reducible refine Ext.drew' ?_) | (with_reducible refine Ext.drewN' ?_ _) | (with_reducible refine Ext.set' ?_ ?_ _; rotate_left; (focus (first | omega | (simp; done) | (simp; omega)))) | (with_reducible refine Ext.then (b := ?_) ?_ ?_; rotate_left; rotate_left; (with_reducible assumption))))⟩
  case round =>
    obtain ⟨k, hk, rfl, hwr⟩ := hrel
    by_cases hlt : k < xs.length
    · obtain ⟨b, o, b1, d1, b2, d2, b3, d3, rfl, h0, h1, h2, hE, hbl⟩ := ThingsR.at (hR.mono mono_ThingR hwr.ple) k hlt
      have hB := hbk _ (List.getElem_mem hlt)
      have hsz := (xs[k]).size_le_bulk
      have hdp := (xs[k]).deep_le_size
      generalize xs[k] = t at *
      clear hR hbk
      replace hE := Lib.hid hE
      go_wp2_with fail
      (refine wp_region_I 37 (by kernel_rfl) (by kernel_rfl) ?_; simp only [List.toList_toArray, List.take_succ_cons, List.take_zero, List.drop_succ_cons, List.drop_zero])
      (repeat (first | (refine walkI_no rfl (by simp) rfl rfl rfl ?_ ?_; (focus (simp [undef]; done)); (try simp only [List.nil_append, List.cons_append])) | (refine walkI_is (u := ?_) rfl (by simp) rfl ?_ ?_; rotate_left; (focus (intro A w' hS hA K hK; (simp only [List.map_cons, List.map_nil, knows, Is, Op.operands, Call.operands, List.lookup_cons, List.lookup_nil, Nat.reduceBEq, Bool.false_eq_true, if_false, if_true, Act.eval, Array.getD_eq_getD_getElem?, List.getElem?_toArray, List.getElem?_cons_succ, List.getElem?_cons_zero, Option.getD_some, and_true, true_and, List.append_toArray, List.nil_append, List.cons_append, List.toList_toArray, Array.toList_append] at hA); first | (go_at_call 9; refine RetV_at (valid_c t _ _ (mono_ThingR _ _ _ _ hS.ple hE.out) (by omega)) ?_; intro w'' hbx; exact hK _ hbx) | (go_simp; go_at_call 9; refine RetV_at (valid_c t _ _ (mono_ThingR _ _ _ _ hS.ple hE.out) (by omega)) ?_; intro w'' hbx; exact hK _ hbx) | (go_simp; go_at_call 10; refine RetV_at (valid_r t _ _ (mono_ThingR _ _ _ _ hS.ple hE.out) (by omega)) ?_; intro w'' hbx; exact hK _ hbx) | (go_simp; go_at_call 11; refine RetV_at (size_c t _ _ (mono_ThingR _ _ _ _ hS.ple hE.out) (by omega)) ?_; intro w'' hbx; exact hK _ hbx) | (go_simp; go_at_call 12; refine RetV_at (size_r t _ _ (mono_ThingR _ _ _ _ hS.ple hE.out) (by omega)) ?_; intro w'' hbx; exact hK _ hbx) | (go_simp; go_at_call 13; refine RetV_at (deep_c t _ _ (mono_ThingR _ _ _ _ hS.ple hE.out) (by omega)) ?_; intro w'' hbx; exact hK _ hbx) | (go_simp; go_at_call 14; refine RetV_at (deep_r t _ _ (mono_ThingR _ _ _ _ hS.ple hE.out) (by omega)) ?_; intro w'' hbx; exact hK _ hbx) | (obtain ⟨hSc, hSf, hSs⟩ := hS.cells; go_simp; exact hK _ (by repeat (first | (with_reducible assumption) | (with_reducible exact Ext.rfl' _) | (with_reducible exact Ext.new _ _) | (with_reducible refine Ext.alloc' ?_ _) | (with_reducible refine Ext.drew' ?_) | (with_reducible refine Ext.drewN' ?_ _) | (with_reducible refine Ext.set' ?_ ?_ _; rotate_left; (focus (first | omega | (simp; done) | (simp; omega)))) | (with_reducible refine Ext.then (b := ?_) ?_ ?_; rotate_left; rotate_left; (with_reducible assumption))))))); (try simp only [List.nil_append, List.cons_append])) | (refine walkI_yesis (u := ?_) rfl (by simp) rfl rfl rfl ?_ ?_; rotate_left; (focus (intro A w' hS hA K hK; (simp only [List.map_cons, List.map_nil, knows, Is, Op.operands, Call.operands, List.lookup_cons, List.lookup_nil, Nat.reduceBEq, Bool.false_eq_true, if_false, if_true, Act.eval, Array.getD_eq_getD_getElem?, List.getElem?_toArray, List.getElem?_cons_succ, List.getElem?_cons_zero, Option.getD_some, and_true, true_and, List.append_toArray, List.nil_append, List.cons_append, List.toList_toArray, Array.toList_append] at hA); first | (go_at_call 9; refine RetV_at (valid_c t _ _ (mono_ThingR _ _ _ _ hS.ple hE.out) (by omega)) ?_; intro w'' hbx; exact hK _ hbx) | (go_simp; go_at_call 9; refine RetV_at (valid_c t _ _ (mono_ThingR _ _ _ _ hS.ple hE.out) (by omega)) ?_; intro w'' hbx; exact hK _ hbx) | (go_simp; go_at_call 10; refine RetV_at (valid_r t _ _ (mono_ThingR _ _ _ _ hS.ple hE.out) (by omega)) ?_; intro w'' hbx; exact hK _ hbx) | (go_simp; go_at_call 11; refine RetV_at (size_c t _ _ (mono_ThingR _ _ _ _ hS.ple hE.out) (by omega)) ?_; intro w'' hbx; exact hK _ hbx) | (go_simp; go_at_call 12; refine RetV_at (size_r t _ _ (mono_ThingR _ _ _ _ hS.ple hE.out) (by omega)) ?_; intro w'' hbx; exact hK _ hbx) | (go_simp; go_at_call 13; refine RetV_at (deep_c t _ _ (mono_ThingR _ _ _ _ hS.ple hE.out) (by omega)) ?_; intro w'' hbx; exact hK _ hbx) | (go_simp; go_at_call 14; refine RetV_at (deep_r t _ _ (mono_ThingR _ _ _ _ hS.ple hE.out) (by omega)) ?_; intro w'' hbx; exact hK _ hbx) | (obtain ⟨hSc, hSf, hSs⟩ := hS.cells; go_simp; exact hK _ (by repeat (first | (with_reducible assumption) | (with_reducible exact Ext.rfl' _) | (with_reducible exact Ext.new _ _) | (with_reducible refine Ext.alloc' ?_ _) | (with_reducible refine Ext.drew' ?_) | (with_reducible refine Ext.drewN' ?_ _) | (with_reducible refine Ext.set' ?_ ?_ _; rotate_left; (focus (first | omega | (simp; done) | (simp; omega)))) | (with_reducible refine Ext.then (b := ?_) ?_ ?_; rotate_left; rotate_left; (with_reducible assumption))))))); (try simp only [List.nil_append, List.cons_append]))))
      (refine walkI_nil ?_; simp only [List.nil_append, List.cons_append, fins, Is, forall_eq, Act.put, List.setIfInBounds_toArray, List.set_cons_zero, List.set_cons_succ])
      intro w2 hb2
      replace hE : Hid (ThingR (ph w2) _ t) := mono_ThingR _ _ _ _ hb2.ple hE.out
      replace h0 := hb2.cell1 h0
      replace h1 := hb2.cell1 h1
      replace h2 := hb2.cell1 h2
      have hw2 : Ext w1 w2 := (by repeat (first | (with_reducible assumption) | (with_reducible exact Ext.rfl' _) | (with_reducible exact Ext.new _ _) | (with_reducible refine Ext.alloc' ?_ _) | (with_reducible refine Ext.drew' ?_) | (with_reducible refine Ext.drewN' ?_ _) | (with_reducible refine Ext.set' ?_ ?_ _; rotate_left; (focus (first | omega | (simp; done) | (simp; omega)))) | (with_reducible refine Ext.then (b := ?_) ?_ ?_; rotate_left; rotate_left; (with_reducible assumption))))
      clear hwr hbl
      go_wp2_with fail
      go_loopw [13] (fun i wr => ∃ j : Int, -1 ≤ j ∧ j ≤ 34 ∧ i = .int .i64 j ∧ Ext w2 wr) (fun i _ => (34 - intOf i).toNat)
      case atStart => exact ⟨-1, by omega, by omega, rfl, (by repeat (first | (with_reducible assumption) | (with_reducible exact Ext.rfl' _) | (with_reducible exact Ext.new _ _) | (with_reducible refine Ext.alloc' ?_ _) | (with_reducible refine Ext.drew' ?_) | (with_reducible refine Ext.drewN' ?_ _) | (with_reducible refine Ext.set' ?_ ?_ _; rotate_left; (focus (first | omega | (simp; done) | (simp; omega)))) | (with_reducible refine Ext.then (b := ?_) ?_ ?_; rotate_left; rotate_left; (with_reducible assumption))))⟩
      case round =>
        obtain ⟨j, hj0, hj1, rfl, hx⟩ := hrel
        by_cases hj : j < 34
        · replace h0 := hx.cell1 h0
          replace h1 := hx.cell1 h1
          replace h2 := hx.cell1 h2
          have hbl := cell_lt h0
          go_wp2_with fail
          refine RetV_at (value_c t j _ _ (mono_ThingR _ _ _ _ (Ext.ple (by repeat (first | (with_reducible assumption) | (with_reducible exact Ext.rfl' _) | (with_reducible exact Ext.new _ _) | (with_reducible refine Ext.alloc' ?_ _) | (with_reducible refine Ext.drew' ?_) | (with_reducible refine Ext.drewN' ?_ _) | (with_reducible refine Ext.set' ?_ ?_ _; rotate_left; (focus (first | omega | (simp; done) | (simp; omega)))) | (with_reducible refine Ext.then (b := ?_) ?_ ?_; rotate_left; rotate_left; (with_reducible assumption))))) hE.out)) ?_
          intro w3 hb3
          replace h0 := hb3.cell1 h0
          replace h1 := hb3.cell1 h1
          replace h2 := hb3.cell1 h2
          clear hbl
          have hbl := cell_lt h0
          have hgv : ∃ (r : Rat2) (f : Bool), optRat (getVal t.vals j) = .tuple #[.agg #[.int .i64 r.num, .int .i64 r.den], .bool f] := by
            cases getVal t.vals j with
            | none => exact ⟨⟨0, 0⟩, false, rfl⟩
            | some r => exact ⟨r, true, rfl⟩
          obtain ⟨r, f, hgv⟩ := hgv
          rw [hgv]
          replace hgv := Lib.hid hgv
          go_wp2_with fail
          refine RetV_at (value_r t j _ _ (mono_ThingR _ _ _ _ (Ext.ple (by repeat (first | (with_reducible assumption) | (with_reducible exact Ext.rfl' _) | (with_reducible exact Ext.new _ _) | (with_reducible refine Ext.alloc' ?_ _) | (with_reducible refine Ext.drew' ?_) | (with_reducible refine Ext.drewN' ?_ _) | (with_reducible refine Ext.set' ?_ ?_ _; rotate_left; (focus (first | omega | (simp; done) | (simp; omega)))) | (with_reducible refine Ext.then (b := ?_) ?_ ?_; rotate_left; rotate_left; (with_reducible assumption))))) hE.out)) ?_
          intro w4 hb4
          rw [hgv.out]
          have ho : Own w4 w3.heap.size #[.int .i64 r.num, .int .i64 r.den] 32 := Own.keep (Own.new _ _ _) hb4
          have hx4 : Ext w2 w4 := (by repeat (first | (with_reducible assumption) | (with_reducible exact Ext.rfl' _) | (with_reducible exact Ext.new _ _) | (with_reducible refine Ext.alloc' ?_ _) | (with_reducible refine Ext.drew' ?_) | (with_reducible refine Ext.drewN' ?_ _) | (with_reducible refine Ext.set' ?_ ?_ _; rotate_left; (focus (first | omega | (simp; done) | (simp; omega)))) | (with_reducible refine Ext.then (b := ?_) ?_ ?_; rotate_left; rotate_left; (with_reducible assumption))))
          obtain ⟨q1, q2⟩ := ho.facts
          have q3 := ho.lt
          clear hb3 hb4 h0 h1 h2 hbl hx
          go_wp2_with fail
          go_roundw
          case rel => exact ⟨j + 1, by omega, by omega, by go_num, (by repeat (first | (with_reducible assumption) | (with_reducible exact Ext.rfl' _) | (with_reducible exact Ext.new _ _) | (with_reducible refine Ext.alloc' ?_ _) | (with_reducible refine Ext.drew' ?_) | (with_reducible refine Ext.drewN' ?_ _) | (with_reducible refine Ext.set' ?_ ?_ _; rotate_left; (focus (first | omega | (simp; done) | (simp; omega)))) | (with_reducible refine Ext.then (b := ?_) ?_ ?_; rotate_left; rotate_left; (with_reducible assumption))))⟩
          case measure => simp [intOf]; omega
        · go_wp2_with fail
          go_roundw
          case rel => exact ⟨k + 1, by omega, by go_num, (by repeat (first | (with_reducible assumption) | (with_reducible exact Ext.rfl' _) | (with_reducible exact Ext.new _ _) | (with_reducible refine Ext.alloc' ?_ _) | (with_reducible refine Ext.drew' ?_) | (with_reducible refine Ext.drewN' ?_ _) | (with_reducible refine Ext.set' ?_ ?_ _; rotate_left; (focus (first | omega | (simp; done) | (simp; omega)))) | (with_reducible refine Ext.then (b := ?_) ?_ ?_; rotate_left; rotate_left; (with_reducible assumption))))⟩
          case measure => simp [intOf]; omega
    · clear hR
      go_wp2_with fail
      refine RetV_at (lives_c _) ?_
      intro w3 hb3
      go_wp2_with fail
      go_ret
      exact ⟨rfl, (by repeat (first | (with_reducible assumption) | (with_reducible exact Ext.rfl' _) | (with_reducible exact Ext.new _ _) | (with_reducible refine Ext.alloc' ?_ _) | (with_reducible refine Ext.drew' ?_) | (with_reducible refine Ext.drewN' ?_ _) | (with_reducible refine Ext.set' ?_ ?_ _; rotate_left; (focus (first | omega | (simp; done) | (simp; omega)))) | (with_reducible refine Ext.then (b := ?_) ?_ ?_; rotate_left; rotate_left; (with_reducible assumption))))⟩
end Go.Proofs.Ytebhdjeognpljaa
