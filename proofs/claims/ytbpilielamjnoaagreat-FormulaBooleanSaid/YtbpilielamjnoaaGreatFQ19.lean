/- package formula: plain laws of Push: what it gives is formed, means the same, and negates only classes, values and parts.; FormulaMeaning: world, negated, the law.; the law FormulaMeaning: the walk.; From a walk to a row's post.; From a walk to a row's post, where the arguments may lie in memory. -/
import Derived.Test.YtbpilielamjnoaaGreatRows
import Derived.ProofKit
import Derived.OpenShut
import Derived.Carry
import Derived.SizedLaws
import Derived.Test.YtbpilielamjnoaaGreatFQ00
import Derived.Test.YtbpilielamjnoaaGreatFQ13
import Derived.Test.YtbpilielamjnoaaGreatFQ15
import Derived.Test.YtbpilielamjnoaaGreatFQ18
namespace Go.Proofs.YtbpilielamjnoaaGreat
open Go.RowKit Go.Shelf
set_option linter.unusedSimpArgs false
set_option linter.unusedVariables false
theorem formed_op {f : Fm} (h : formed1 f = true) : 0 ≤ f.op ∧ f.op ≤ 6 := by
  obtain ⟨op, n, inn, ks⟩ := f
  rw [formed1_mk] at h
  show 0 ≤ op ∧ op ≤ 6
  split at h
  · cases h
  · split at h
    · omega
    · split at h
      · omega
      · split at h
        · omega
        · split at h
          · omega
          · rw [Bool.or_eq_true, decide_eq_true_eq, decide_eq_true_eq] at h; omega
theorem pushNF_one (g : Fm) : pushNF [g] = pushN g := rfl
theorem pushPF_one (g : Fm) : pushPF [g] = pushP g := rfl
theorem whole_not {cl : Int} {g : Fm} (h : wholeN cl g = true) : wholeN cl (.mk 6 0 [] [g]) = true := by
  rw [wholeN_eq]
  show ((formed1 (.mk 6 0 [] [g]) && _) && [g].all (wholeN cl)) = true
  rw [List.all_cons, h]; rfl
theorem push_whole {cl : Int} (f : Fm) : wholeN cl f = true → wholeN cl (pushP f) = true ∧ wholeN cl (pushN f) = true := by
  induction f using Fm.ind with
  | h f ih =>
    intro h
    have hf := wholeN_formed h
    have e := f.eta
    have h' := h
    rw [e] at h'
    have hmap : wholeN cl (.mk f.op f.n f.inn (f.kids.map pushP)) = true := wholeN_mk' h' (by simp) fun g hg => by
      obtain ⟨x, hx, rfl⟩ := List.mem_map.1 hg
      exact (ih x hx (wholeN_k h hx)).1
    have hmapN : ∀ op : Int, f.op = 4 ∨ f.op = 5 → (op = 4 ∨ op = 5) → wholeN cl (.mk op f.n f.inn (f.kids.map pushN)) = true := fun op h1 h2 => by
      rw [formedI hf (by omega), formedN hf (by omega) (by omega)]
      refine whole_ao (by omega) fun g hg => ?_
      obtain ⟨x, hx, rfl⟩ := List.mem_map.1 hg
      exact (ih x hx (wholeN_k h hx)).2
    constructor
    · rw [pushP_eq]
      split
      · rename_i h6
        obtain ⟨g, hg⟩ := formed_one hf (.inr h6)
        rw [hg, pushNF_one]
        exact (ih g (by rw [hg]; simp) (wholeN_k h (by rw [hg]; simp))).2
      · exact hmap
    · rw [pushN_eq]
      split
      · exact wholeN_never cl
      · split
        · rename_i h0 h6
          obtain ⟨g, hg⟩ := formed_one hf (.inr h6)
          rw [hg, pushPF_one]
          exact (ih g (by rw [hg]; simp) (wholeN_k h (by rw [hg]; simp))).1
        · split
          · exact wholeN_no cl
          · split
            · rename_i h4; exact hmapN 5 (.inl h4) (.inr rfl)
            · split
              · rename_i h5; exact hmapN 4 (.inr h5) (.inl rfl)
              · exact whole_not hmap
theorem all_not (q : Fm → Bool) (l : List Fm) : (l.all fun g => !q g) = !l.any q := by
  rw [Bool.eq_iff_iff]; simp
theorem any_not (q : Fm → Bool) (l : List Fm) : (l.any fun g => !q g) = !l.all q := by
  rw [Bool.eq_iff_iff]; simp
theorem push_hold {ps : List (List Int)} {cl : Int} (f : Fm) : wholeN cl f = true → ∀ t, hold ps (pushP f) t = hold ps f t ∧ hold ps (pushN f) t = !hold ps f t := by
  induction f using Fm.ind with
  | h f ih =>
    intro h t
    have hf := wholeN_formed h
    have e := f.eta
    have hmap : ∀ t, hold ps (.mk f.op f.n f.inn (f.kids.map pushP)) t = hold ps f t := fun t => by
      rw [hold_map (fun g hg t => (ih g hg (wholeN_k h hg) t).1) t, ← e]
    constructor
    · rw [pushP_eq]
      split
      · rename_i h6
        obtain ⟨g, hg⟩ := formed_one hf (.inr h6)
        rw [hg, pushNF_one, (ih g (by rw [hg]; simp) (wholeN_k h (by rw [hg]; simp)) t).2, hold_6 h6 hg]
      · exact hmap t
    · rw [pushN_eq]
      split
      · rename_i h0; rw [hold_never, hold_true h0]; rfl
      · split
        · rename_i h0 h6
          obtain ⟨g, hg⟩ := formed_one hf (.inr h6)
          rw [hg, pushPF_one, (ih g (by rw [hg]; simp) (wholeN_k h (by rw [hg]; simp)) t).1, hold_6 h6 hg, Bool.not_not]
        · split
          · rename_i h5
            rw [hold_true (f := noF) rfl, hold_neverB (f := f) (by simpa [neverB] using h5)]; rfl
          · split
            · rename_i h4
              rw [hold_5 (f := .mk 5 f.n f.inn (f.kids.map pushN)) rfl, hold_4 h4]
              show ((f.kids.map pushN).any fun g => hold ps g t) = _
              rw [List.any_map, ← any_not, Bool.eq_iff_iff, List.any_eq_true, List.any_eq_true]
              exact ⟨fun ⟨x, hx, k⟩ => ⟨x, hx, by rw [← (ih x hx (wholeN_k h hx) t).2]; exact k⟩, fun ⟨x, hx, k⟩ => ⟨x, hx, by show hold ps (pushN x) t = true; rw [(ih x hx (wholeN_k h hx) t).2]; exact k⟩⟩
            · split
              · rename_i h5
                rw [hold_4 (f := .mk 4 f.n f.inn (f.kids.map pushN)) rfl, hold_5 h5]
                show ((f.kids.map pushN).all fun g => hold ps g t) = _
                rw [List.all_map, ← all_not, Bool.eq_iff_iff, List.all_eq_true, List.all_eq_true]
                exact ⟨fun k x hx => by rw [← (ih x hx (wholeN_k h hx) t).2]; exact k x hx, fun k x hx => by show hold ps (pushN x) t = true; rw [(ih x hx (wholeN_k h hx) t).2]; exact k x hx⟩
              · rw [hold_6 (f := .mk 6 0 [] [.mk f.op f.n f.inn (f.kids.map pushP)]) rfl rfl, hmap t]
mutual
/-- negations have only classes, values and parts as kids -/
def negB : Fm → Bool
  | .mk op _ _ kids => negBs op kids
def negBs (op : Int) : List Fm → Bool
  | [] => true
  | g :: l => (!(decide (op = 6) && !decide (g.op = 1) && !decide (g.op = 2) && !decide (g.op = 3))) && negB g && negBs op l
end
theorem negB_eq (f : Fm) : negB f = negBs f.op f.kids := by cases f; rfl
theorem negBs_iff (op : Int) : ∀ l : List Fm, negBs op l = true ↔ ∀ g ∈ l, (op = 6 → g.op = 1 ∨ g.op = 2 ∨ g.op = 3) ∧ negB g = true
  | [] => by simp [negBs]
  | x :: l => by
    rw [negBs, Bool.and_eq_true, Bool.and_eq_true, negBs_iff op l]
    have h : (!(decide (op = 6) && !decide (x.op = 1) && !decide (x.op = 2) && !decide (x.op = 3))) = true ↔ (op = 6 → x.op = 1 ∨ x.op = 2 ∨ x.op = 3) := by
      by_cases h1 : op = 6 <;> by_cases h2 : x.op = 1 <;> by_cases h3 : x.op = 2 <;> by_cases h4 : x.op = 3 <;> simp [h1, h2, h3, h4]
    rw [h]
    simp only [List.mem_cons, forall_eq_or_imp]
theorem push_neg {cl : Int} (f : Fm) : wholeN cl f = true → negB (pushP f) = true ∧ negB (pushN f) = true := by
  induction f using Fm.ind with
  | h f ih =>
    intro h
    have hf := wholeN_formed h
    have ho := formed_op hf
    have hmap : f.op ≠ 6 → negB (.mk f.op f.n f.inn (f.kids.map pushP)) = true := fun h6 => by
      rw [negB_eq, negBs_iff]
      intro g hg
      obtain ⟨x, hx, rfl⟩ := List.mem_map.1 hg
      exact ⟨fun e => absurd e h6, (ih x hx (wholeN_k h hx)).1⟩
    have hmapN : ∀ op : Int, op ≠ 6 → negB (.mk op f.n f.inn (f.kids.map pushN)) = true := fun op h6 => by
      rw [negB_eq, negBs_iff]
      intro g hg
      obtain ⟨x, hx, rfl⟩ := List.mem_map.1 hg
      exact ⟨fun e => absurd e h6, (ih x hx (wholeN_k h hx)).2⟩
    constructor
    · rw [pushP_eq]
      split
      · rename_i h6
        obtain ⟨g, hg⟩ := formed_one hf (.inr h6)
        rw [hg, pushNF_one]
        exact (ih g (by rw [hg]; simp) (wholeN_k h (by rw [hg]; simp))).2
      · rename_i h6; exact hmap h6
    · rw [pushN_eq]
      split
      · rfl
      · split
        · rename_i h0 h6
          obtain ⟨g, hg⟩ := formed_one hf (.inr h6)
          rw [hg, pushPF_one]
          exact (ih g (by rw [hg]; simp) (wholeN_k h (by rw [hg]; simp))).1
        · split
          · rfl
          · split
            · exact hmapN 5 (by decide)
            · split
              · exact hmapN 4 (by decide)
              · rename_i h0 h6 hn h4 h5
                rw [negB_eq, negBs_iff]
                intro g hg
                have : g = .mk f.op f.n f.inn (f.kids.map pushP) := by simpa [Fm.kids] using hg
                subst this
                exact ⟨fun _ => by show f.op = 1 ∨ f.op = 2 ∨ f.op = 3; omega, hmap h6⟩
theorem simp_valid {f : Fm} {cl : Int} (hv : validF f = 0) (hw : wholeN cl f = true) : validF (simpF f) = 0 ∧ wholeN cl (simpF f) = true := by
  obtain ⟨h1, h2, -⟩ := validF_0 hv
  have h3 := simp_size f
  have h4 := simp_deep f
  have h5 := simp_whole f hw
  refine ⟨?_, h5⟩
  unfold validF
  rw [if_neg (by omega), if_pos (wholeN_B h5)]
end Go.Proofs.YtbpilielamjnoaaGreat
namespace Go.Proofs.YtbpilielamjnoaaGreat
open Go.RowKit Go.Shelf
set_option linter.unusedSimpArgs false
set_option linter.unusedVariables false
def WorldQ (w : World) (e : Ending) (w' : World) : Prop := ∃ B v ps rk, e = .returned (.tuple #[.pointer (some ⟨B, 0, none⟩), v]) ∧ Ext w w' ∧ RowsR (ph w') v ps ∧ ParOk ps rk ∧ (ps.length : Int) ≤ 6 ∧ TaxR w' B ps
set_option maxHeartbeats 1000000 in
theorem world7_c (l : List Int) (vl : Value) (w : World) (hr : IntsR (ph w) vl l) : Calls Tryz.prog 18 #[vl] w (WorldQ w) := by
  have hr0 := hr
  obtain ⟨xa, xc, rfl, -, -⟩ := hr.form
  go_enter Tryz.func18, Tryz.ntmps18
  go_wp2_with fail
  refine (parents_c l _ 6 w hr0 (by omega) (by omega)).mono ?_
  rintro e w1 ⟨vp, ps, rk, rfl, hps, ok, hpm, hx1⟩
  obtain ⟨pa, pc, rfl, -, -⟩ := hps.form
  go_wp2_with fail
  refine (newTx_c ok _ w1 hps).mono ?_
  rintro e w2 ⟨B, rfl, hx2, hT⟩
  go_wp2_with fail
  refine bodyPost_ret (v := .tuple #[.pointer (some ⟨B, 0, none⟩), .slice pa ps.length pc]) (by simp [results, Tryz.results18, go_sem]) rfl ?_
  exact ⟨B, _, ps, rk, rfl, hx1.then hx2, hps.mono mono_IntsRow hx2.ple, ok, hpm, hT⟩
def negK (op : Int) (g : Fm) : Prop := (op = 6 → g.op = 1 ∨ g.op = 2 ∨ g.op = 3) ∧ negB g = true
set_option maxRecDepth 100000 in
set_option maxHeartbeats 4000000 in
theorem negated_c (f : Fm) : ∀ (cs : List Value) (w : World), FmR (ph w) cs f → Calls Tryz.prog 29 #[.agg cs.toArray] w (RetV w (.bool (negB f))) := by
  induction f using Fm.ind with
  | h f ih =>
    intro cs w hr
    have hr0 := hr
    obtain ⟨a3, c3, a4, c4, rfl, -, -, -, hkl, -, hfk⟩ := hr.form
    have HI := Lib.hid ih; clear ih
    unfold fmC
    have o1 := Own.new w #[.int .i64 f.op, .int .i64 f.n, .slice a3 f.inn.length c3, .slice a4 f.kids.length c4] 29
    have hx1 := Ext.new w (.cells #[.int .i64 f.op, .int .i64 f.n, .slice a3 f.inn.length c3, .slice a4 f.kids.length c4] 29)
    go_enter Tryz.func29, Tryz.ntmps29
    go_upto_region 1 with (fail)
    generalize w.alloc _ = W at *
    generalize w.heap.size = g1 at *
    go_wp2_with fail
    go_loopw [3] (fun i wr => ∃ k : Nat, k ≤ f.kids.length ∧ i = .int .i64 k ∧ Hid (∀ g ∈ f.kids.take k, negK f.op g) ∧ Ext w wr ∧ Own wr g1 #[.int .i64 f.op, .int .i64 f.n, .slice a3 f.inn.length c3, .slice a4 f.kids.length c4] 29) (fun i _ => f.kids.length - (intOf i).toNat)
    case atStart => exact ⟨0, by omega, rfl, Lib.hid (by simp), hx1, o1⟩
    case round =>
      clear o1 hx1
      obtain ⟨k, hk, rfl, hall, hx, o1⟩ := hrel
      have u0 : wr.cell? ⟨g1, 0, none⟩ = some (.int .i64 f.op) := o1.facts.1 0
      have u3 : wr.cell? ⟨g1, 3, none⟩ = some (.slice a4 f.kids.length c4) := o1.facts.1 3
      have ul := o1.lt
      by_cases hlt : k < f.kids.length
      · obtain ⟨kb, ko, k3, m3, k4, m4, ek, z0, z1, z2, z3, hE, zl⟩ := FmsR.atH hfk hx.ple k hlt
        cases ek
        have hc := fun W' (e : Ext wr W') => HI.out f.kids[k] (List.getElem_mem hlt) _ W' (mono_FmR _ _ _ _ (hx.then e).ple hE)
        have hmem := Lib.hid (List.getElem_mem hlt)
        have hxe : Hid (∃ x, f.kids[k] = x) := ⟨_, rfl⟩
        obtain ⟨x, hxe⟩ := hxe.out
        rw [hxe] at hc z0 z1 z2 z3
        replace hmem : Hid (x ∈ f.kids) := by show x ∈ f.kids; rw [← hxe]; exact hmem.out
        replace hxe := Lib.hid hxe
        unfold fmC at hc
        replace hc := Lib.hid hc
        clear hE
        by_cases h6 : f.op = 6
        · have b6 : (f.op == 6) = true := by simpa using h6
          by_cases h1 : x.op = 1
          · have c1 : (x.op != 1) = false := by simpa using h1
            have hk1 : f.op = 6 → x.op = 1 ∨ x.op = 2 ∨ x.op = 3 := fun _ => .inl h1
            clear h1 h6
            go_wp2_with fail
            refine RetV_at (hc.out _ (Ext.rfl' _)) ?_
            intro w5 hx5
            cases hq : negB x with
            | true =>
              have hok : negK f.op x := ⟨hk1, hq⟩
              have htk : Hid (∀ g ∈ f.kids.take (k + 1), negK f.op g) := by
                show ∀ g ∈ f.kids.take (k + 1), negK f.op g
                rw [List.take_succ_eq_append_getElem hlt]
                intro g hg
                rcases List.mem_append.1 hg with h | h
                · exact hall.out g h
                · have h2 := List.mem_singleton.1 h
                  rw [hxe.out] at h2
                  rw [h2]; exact hok
              clear hok hall hc
              go_wp2_with fail
              go_roundw
              case rel => exact ⟨k + 1, by omega, by go_num, htk, hx.then hx5, o1.keep hx5⟩
              case measure => simp [intOf]; omega
            | false =>
              have hres : Hid (negB f = false) := by
                show _ = _
                rw [negB_eq, ← Bool.not_eq_true, negBs_iff]
                intro h
                have := (h x hmem.out).2
                rw [hq] at this; cases this
              clear hall hc
              go_wp2_with fail
              go_ret
              exact ⟨ret_bool hres.out.symm, hx.then hx5⟩
          have c1 : (x.op != 1) = true := by simpa using h1
          by_cases h2 : x.op = 2
          · have c2 : (x.op != 2) = false := by simpa using h2
            have hk1 : f.op = 6 → x.op = 1 ∨ x.op = 2 ∨ x.op = 3 := fun _ => .inr (.inl h2)
            clear h1 h2 h6
            go_wp2_with fail
            refine RetV_at (hc.out _ (Ext.rfl' _)) ?_
            intro w5 hx5
            cases hq : negB x with
            | true =>
              have hok : negK f.op x := ⟨hk1, hq⟩
              have htk : Hid (∀ g ∈ f.kids.take (k + 1), negK f.op g) := by
                show ∀ g ∈ f.kids.take (k + 1), negK f.op g
                rw [List.take_succ_eq_append_getElem hlt]
                intro g hg
                rcases List.mem_append.1 hg with h | h
                · exact hall.out g h
                · have h2 := List.mem_singleton.1 h
                  rw [hxe.out] at h2
                  rw [h2]; exact hok
              clear hok hall hc
              go_wp2_with fail
              go_roundw
              case rel => exact ⟨k + 1, by omega, by go_num, htk, hx.then hx5, o1.keep hx5⟩
              case measure => simp [intOf]; omega
            | false =>
              have hres : Hid (negB f = false) := by
                show _ = _
                rw [negB_eq, ← Bool.not_eq_true, negBs_iff]
                intro h
                have := (h x hmem.out).2
                rw [hq] at this; cases this
              clear hall hc
              go_wp2_with fail
              go_ret
              exact ⟨ret_bool hres.out.symm, hx.then hx5⟩
          have c2 : (x.op != 2) = true := by simpa using h2
          by_cases h3 : x.op = 3
          · have c3' : (x.op != 3) = false := by simpa using h3
            have hk1 : f.op = 6 → x.op = 1 ∨ x.op = 2 ∨ x.op = 3 := fun _ => .inr (.inr h3)
            clear h1 h2 h3 h6
            go_wp2_with fail
            refine RetV_at (hc.out _ (Ext.rfl' _)) ?_
            intro w5 hx5
            cases hq : negB x with
            | true =>
              have hok : negK f.op x := ⟨hk1, hq⟩
              have htk : Hid (∀ g ∈ f.kids.take (k + 1), negK f.op g) := by
                show ∀ g ∈ f.kids.take (k + 1), negK f.op g
                rw [List.take_succ_eq_append_getElem hlt]
                intro g hg
                rcases List.mem_append.1 hg with h | h
                · exact hall.out g h
                · have h2 := List.mem_singleton.1 h
                  rw [hxe.out] at h2
                  rw [h2]; exact hok
              clear hok hall hc
              go_wp2_with fail
              go_roundw
              case rel => exact ⟨k + 1, by omega, by go_num, htk, hx.then hx5, o1.keep hx5⟩
              case measure => simp [intOf]; omega
            | false =>
              have hres : Hid (negB f = false) := by
                show _ = _
                rw [negB_eq, ← Bool.not_eq_true, negBs_iff]
                intro h
                have := (h x hmem.out).2
                rw [hq] at this; cases this
              clear hall hc
              go_wp2_with fail
              go_ret
              exact ⟨ret_bool hres.out.symm, hx.then hx5⟩
          have c3' : (x.op != 3) = true := by simpa using h3
          have hres : Hid (negB f = false) := by
            show _ = _
            rw [negB_eq, ← Bool.not_eq_true, negBs_iff]
            intro h
            rcases (h x hmem.out).1 h6 with e | e | e <;> contradiction
          clear h1 h2 h3 h6 hc
          go_wp2_with fail
          go_ret
          exact ⟨ret_bool hres.out.symm, hx⟩
        · have b6 : (f.op == 6) = false := by simpa using h6
          have hk1 : f.op = 6 → x.op = 1 ∨ x.op = 2 ∨ x.op = 3 := fun h => absurd h h6
          clear h6
          go_wp2_with fail
          refine RetV_at (hc.out _ (Ext.rfl' _)) ?_
          intro w5 hx5
          cases hq : negB x with
          | true =>
            have hok : negK f.op x := ⟨hk1, hq⟩
            have htk : Hid (∀ g ∈ f.kids.take (k + 1), negK f.op g) := by
              show ∀ g ∈ f.kids.take (k + 1), negK f.op g
              rw [List.take_succ_eq_append_getElem hlt]
              intro g hg
              rcases List.mem_append.1 hg with h | h
              · exact hall.out g h
              · have h2 := List.mem_singleton.1 h
                rw [hxe.out] at h2
                rw [h2]; exact hok
            clear hok hall hc
            go_wp2_with fail
            go_roundw
            case rel => exact ⟨k + 1, by omega, by go_num, htk, hx.then hx5, o1.keep hx5⟩
            case measure => simp [intOf]; omega
          | false =>
            have hres : Hid (negB f = false) := by
              show _ = _
              rw [negB_eq, ← Bool.not_eq_true, negBs_iff]
              intro h
              have := (h x hmem.out).2
              rw [hq] at this; cases this
            clear hall hc
            go_wp2_with fail
            go_ret
            exact ⟨ret_bool hres.out.symm, hx.then hx5⟩
      · obtain rfl : k = f.kids.length := by omega
        have hres : Hid (negB f = true) := by
          show _ = _
          rw [negB_eq, negBs_iff]
          intro g hg
          have := hall.out g (by rw [List.take_length]; exact hg)
          exact this
        clear hall
        go_wp2_with fail
        go_ret
        exact ⟨ret_bool hres.out.symm, hx⟩
end Go.Proofs.YtbpilielamjnoaaGreat
namespace Go.Proofs.YtbpilielamjnoaaGreat
open Go.RowKit Go.Shelf
set_option linter.unusedSimpArgs false
set_option linter.unusedVariables false
theorem okT_valid4 {cl : Int} {t : Thing} (h : OkT cl 4 t) : validV t = 0 := by
  obtain ⟨h1, h2, h3, h4⟩ := h
  have h3' : t.size ≤ 64 := h3
  unfold validV
  rw [if_pos ⟨by omega, by omega⟩]
  exact if_pos h1
/-- a thing of the generator -/
def ThingQ (w : World) (cl : Int) (e : Ending) (w' : World) : Prop := ∃ t b1 d1 b2 d2 b3 d3, e = .returned (.agg #[.slice b1 t.cls.length d1, .slice b2 t.vals.length d2, .slice b3 t.parts.length d3]) ∧ Ext w w' ∧
  ThingR (ph w') [.slice b1 t.cls.length d1, .slice b2 t.vals.length d2, .slice b3 t.parts.length d3] t ∧ validV t = 0 ∧ t.clsLt cl ∧ t.bulk ≤ 1000000
theorem thing4_c (l : List Int) (vl : Value) (cl : Int) (w : World) (hlen : l.length ≤ 140737488355328) (hl : IntsR (ph w) vl l) (hc0 : 0 ≤ cl) (hc1 : cl ≤ 64) :
    Calls Tryz.prog 20 #[vl, .int .i64 cl, .int .i64 4] w (ThingQ w cl) := by
  refine (someT_c l vl cl 4 w hlen (by omega) (by omega) hl hc0 hc1).mono ?_
  rintro e w4 ⟨ds, rfl, ⟨t, hD, htb, hok⟩, hx4⟩
  replace hD : ThingR (ph w4) ds t := mono_ThingR _ _ _ _ (fun k o hk => by
    unfold up at hk
    split at hk
    · cases hk
    · exact hk) hD
  obtain ⟨b1, d1, b2, d2, b3, d3, rfl, -⟩ := hD.form
  exact ⟨t, b1, d1, b2, d2, b3, d3, rfl, hx4, hD, okT_valid4 hok, hok.2.1, by omega⟩
/-- a valid formula of the generator -/
def FmQ (w : World) (cl : Int) (sz dp : Nat) (e : Ending) (w' : World) : Prop := ∃ f a3 c3 a4 c4, e = .returned (fmV f a3 c3 a4 c4) ∧ Ext w w' ∧ FmR (ph w') (fmC f a3 c3 a4 c4) f ∧ wholeN cl f = true ∧ f.size ≤ sz ∧ f.deep ≤ dp ∧ validF f = 0
theorem some07_q (l : List Int) (vl : Value) (cl lf : Int) (d : Nat) (D : Int) (w : World) (hD : (d : Int) + 1 = D) (hr : IntsR (ph w) vl l) (hc0 : 0 < cl) (hc1 : cl ≤ 64) (hd : d ≤ 7) (h0 : 0 ≤ lf) (h1 : lf ≤ 30) :
    Calls Tryz.prog 19 #[vl, .int .i64 cl, .int .i64 lf, .int .i64 D] w (FmQ w cl (3 * lf.toNat + 1) (d + 1)) := by
  subst hD
  refine (some07_n l vl cl lf d w (fun _ _ h => h) hr hc0 hc1 hd h0 (by omega)).mono ?_
  rintro e w1 ⟨f, a3, c3, a4, c4, rfl, hF, hw, ⟨hz, hdp⟩, hx1⟩
  have hsz : f.size ≤ 3 * lf.toNat + 1 := by unfold SzP at hz; omega
  exact ⟨f, a3, c3, a4, c4, rfl, hx1, mono_FmR _ _ _ _ (up_ple (noH_le _) hx1) hF, hw, hsz, by omega, validF_of (by omega) (by omega) (wholeN_B hw)⟩
set_option maxRecDepth 100000 in
set_option maxHeartbeats 8000000 in
theorem formulaMeaningLaw (vl vm vk : Value) (l m k : List Int) (w : World) (hl : IntsR (ph w) vl l) (hm : IntsR (ph w) vm m) (hk : IntsR (ph w) vk k) (_ : l.length ≤ 140737488355328) (hml : m.length ≤ 140737488355328) (_ : k.length ≤ 140737488355328) :
    Calls Tryz.prog 6 #[vl, vm, vk] w (RetV w (.bool true)) := by
  have hl0 := hl
  have hm0 := hm
  have hk0 := hk
  obtain ⟨xa, xc, rfl, -, -⟩ := hl.form
  obtain ⟨ya, yc, rfl, -, -⟩ := hm.form
  obtain ⟨za, zc, rfl, -, -⟩ := hk.form
  clear hl hm hk
  go_enter Tryz.func6, Tryz.ntmps6
  go_wp2_with fail
  refine (world7_c k _ w hk0).mono ?_
  rintro e w1 ⟨B, v, ps, rk, rfl, hx, hps, ok, hp6, hT⟩
  obtain ⟨pa, pc, rfl, -, -⟩ := hps.form
  have hn0 := ok.pos
  have hn := ok.le
  clear hps ok hk0
  have hs := some07_q l _ (ps.length : Int) 16 5 6 w1 rfl (hl0.mono mono_IntR hx.ple) (by omega) (by omega) (by omega) (by omega) (by omega)
  go_wp2_with fail
  refine hs.mono ?_
  rintro e w2 ⟨f, a3, c3, a4, c4, rfl, hx2, hF, hw, -, -, hv⟩
  have hb := valid_bulk hv
  replace hx := hx.then hx2
  replace hT := hT.keep hx2
  clear hs hx2 hl0
  have e2 := Ext.new w2 (.cells #[.int .i64 (f).op, .int .i64 (f).n, .slice a3 (f).inn.length c3, .slice a4 (f).kids.length c4] 29)
  have o9 := Proofs.YtbpilielamjnoaaGreat.Own.new w2 #[.int .i64 (f).op, .int .i64 (f).n, .slice a3 (f).inn.length c3, .slice a4 (f).kids.length c4] 29
  replace hF := mono_FmR _ _ _ _ e2.ple hF
  replace hx := hx.then e2
  replace hT := hT.keep e2
  go_upto_region 5 with (fail)
  generalize w2.alloc _ = w3 at *
  generalize w2.heap.size = g9 at *
  clear e2
  have hth := thing4_c m _ (ps.length : Int) w3 hml (hm0.mono mono_IntR hx.ple) (by omega) (by omega)
  go_wp2_with fail
  refine hth.mono ?_
  rintro e w4 ⟨t, b1, d1, b2, d2, b3, d3, rfl, hx4, hD, ht0, htn, htb⟩
  have e4 := Ext.new w4 (.cells #[.slice b1 t.cls.length d1, .slice b2 t.vals.length d2, .slice b3 t.parts.length d3] 41)
  have o10 := Own.new w4 #[.slice b1 t.cls.length d1, .slice b2 t.vals.length d2, .slice b3 t.parts.length d3] 41
  replace hx4 := hx4.then e4
  replace hF := mono_FmR _ _ _ _ hx4.ple hF
  replace hD := mono_ThingR _ _ _ _ e4.ple hD
  replace hT := hT.keep hx4
  replace o9 := o9.keep hx4
  replace hx := hx.then hx4
  clear hth hm0
  go_upto_region 6 with (fail)
  generalize w4.alloc _ = w5 at *
  generalize w4.heap.size = g10 at *
  clear e4 hx4
  have u0 : (w5).cell? ⟨g9, 0, none⟩ = some (.int .i64 (f).op) := (o9).facts.1 0
  have u1 : (w5).cell? ⟨g9, 1, none⟩ = some (.int .i64 (f).n) := (o9).facts.1 1
  have u2 : (w5).cell? ⟨g9, 2, none⟩ = some (.slice a3 (f).inn.length c3) := (o9).facts.1 2
  have u3 : (w5).cell? ⟨g9, 3, none⟩ = some (.slice a4 (f).kids.length c4) := (o9).facts.1 3
  have ul := (o9).lt
  have y0 : (w5).cell? ⟨g10, 0, none⟩ = some (.slice b1 t.cls.length d1) := (o10).facts.1 0
  have y1 : (w5).cell? ⟨g10, 1, none⟩ = some (.slice b2 t.vals.length d2) := (o10).facts.1 1
  have y2 : (w5).cell? ⟨g10, 2, none⟩ = some (.slice b3 t.parts.length d3) := (o10).facts.1 2
  have yl := (o10).lt
  have hh := fholds_c hn B f t _ _ w5 hT hF hD hv hw ht0 htn htb
  obtain ⟨hsv, hsw⟩ := simp_valid hv hw
  have hsh := simp_hold (ps := ps) f hw t
  have hpw := (push_whole f hw).1
  have hph := (push_hold (ps := ps) f hw t).1
  have hpn := (push_neg f hw).1
  obtain ⟨HF, hHF⟩ : ∃ b, hold ps f t = b := ⟨_, rfl⟩
  rw [hHF] at hh hsh hph
  have hbb : (HF == HF) = true := by simp
  have hbn : (HF != HF) = false := by simp
  have n0 : ((0 : Int) != 0) = false := rfl
  have n1 : ((4 : Int) != 0) = true := rfl
  have n2 : ((4 : Int) != 4) = false := rfl
  have n3 : ((0 : Int) == 0) = true := rfl
  clear hHF
  go_wp2_with fail
  refine hh.mono ?_
  rintro e w6 ⟨rfl, hx6⟩
  replace hF := mono_FmR _ _ _ _ hx6.ple hF
  replace hD := mono_ThingR _ _ _ _ hx6.ple hD
  replace hT := hT.keep hx6
  replace o9 := o9.keep hx6
  replace o10 := o10.keep hx6
  replace hx := hx.then hx6
  clear hh hx6 u0 u1 u2 u3 ul y0 y1 y2 yl
  have u0 : (w6).cell? ⟨g9, 0, none⟩ = some (.int .i64 (f).op) := (o9).facts.1 0
  have u1 : (w6).cell? ⟨g9, 1, none⟩ = some (.int .i64 (f).n) := (o9).facts.1 1
  have u2 : (w6).cell? ⟨g9, 2, none⟩ = some (.slice a3 (f).inn.length c3) := (o9).facts.1 2
  have u3 : (w6).cell? ⟨g9, 3, none⟩ = some (.slice a4 (f).kids.length c4) := (o9).facts.1 3
  have ul := (o9).lt
  have hpu := fpush_c f _ w6 hF (by omega)
  have hsi := fun W => fsimple_c f (fmC f a3 c3 a4 c4) W
  rw [show simpleE f = (simpF f, 0) by unfold simpleE; rw [if_pos hv]] at hsi
  have hcase : (pushE f = (pushP f, 0) ∧ validF (pushP f) = 0) ∨ pushE f = (noF, 4) := by
    unfold pushE
    rw [if_pos hv]
    by_cases h : validF (pushP f) = 0
    · exact .inl ⟨by rw [if_pos h], h⟩
    · exact .inr (by rw [if_neg h])
  go_wp2_with fail
  refine hpu.mono ?_
  rintro e w7 ⟨p3, q3, p4, q4, rfl, hx7, hP⟩
  generalize simpF f = sf at *
  generalize pushP f = pf at *
  generalize hpe : pushE f = pe at *
  clear hpe
  obtain ⟨p, z⟩ := pe
  dsimp only at hP hcase ⊢
  have e7 := Ext.new w7 (.cells #[.int .i64 (p).op, .int .i64 (p).n, .slice p3 (p).inn.length q3, .slice p4 (p).kids.length q4] 29)
  have o13 := Proofs.YtbpilielamjnoaaGreat.Own.new w7 #[.int .i64 (p).op, .int .i64 (p).n, .slice p3 (p).inn.length q3, .slice p4 (p).kids.length q4] 29
  replace hx7 := hx7.then e7
  replace hF := mono_FmR _ _ _ _ hx7.ple hF
  replace hP := mono_FmR _ _ _ _ e7.ple hP
  replace hD := mono_ThingR _ _ _ _ hx7.ple hD
  replace hT := hT.keep hx7
  replace o9 := o9.keep hx7
  replace o10 := o10.keep hx7
  replace hx := hx.then hx7
  clear hpu u0 u1 u2 u3 ul
  go_upto_region 8 with (fail)
  generalize w7.alloc _ = w8 at *
  generalize w7.heap.size = g13 at *
  clear e7 hx7
  have u0 : (w8).cell? ⟨g9, 0, none⟩ = some (.int .i64 (f).op) := (o9).facts.1 0
  have u1 : (w8).cell? ⟨g9, 1, none⟩ = some (.int .i64 (f).n) := (o9).facts.1 1
  have u2 : (w8).cell? ⟨g9, 2, none⟩ = some (.slice a3 (f).inn.length c3) := (o9).facts.1 2
  have u3 : (w8).cell? ⟨g9, 3, none⟩ = some (.slice a4 (f).kids.length c4) := (o9).facts.1 3
  have ul := (o9).lt
  go_wp2_with fail
  refine (hsi w8 hF (by omega)).mono ?_
  rintro e w9 ⟨r3, s3, r4, s4, rfl, hx9, hS⟩
  dsimp only at hS ⊢
  have e9 := Ext.new w9 (.cells #[.int .i64 (sf).op, .int .i64 (sf).n, .slice r3 (sf).inn.length s3, .slice r4 (sf).kids.length s4] 29)
  have o15 := Proofs.YtbpilielamjnoaaGreat.Own.new w9 #[.int .i64 (sf).op, .int .i64 (sf).n, .slice r3 (sf).inn.length s3, .slice r4 (sf).kids.length s4] 29
  replace hx9 := hx9.then e9
  replace hS := mono_FmR _ _ _ _ e9.ple hS
  replace hP := mono_FmR _ _ _ _ hx9.ple hP
  replace hD := mono_ThingR _ _ _ _ hx9.ple hD
  replace hT := hT.keep hx9
  replace o13 := o13.keep hx9
  replace o10 := o10.keep hx9
  replace hx := hx.then hx9
  clear hsi u0 u1 u2 u3 ul hF o9
  go_upto_region 9 with (fail)
  generalize w9.alloc _ = w10 at *
  generalize w9.heap.size = g15 at *
  clear e9 hx9
  have hh := fholds_c hn B sf t _ _ w10 hT hS hD hsv hsw ht0 htn htb
  rw [hsh] at hh
  rcases hcase with ⟨he, hpv⟩ | he
  · simp only [Prod.mk.injEq] at he
    obtain ⟨rfl, rfl⟩ := he
    have u0 : (w10).cell? ⟨g15, 0, none⟩ = some (.int .i64 (sf).op) := (o15).facts.1 0
    have u1 : (w10).cell? ⟨g15, 1, none⟩ = some (.int .i64 (sf).n) := (o15).facts.1 1
    have u2 : (w10).cell? ⟨g15, 2, none⟩ = some (.slice r3 (sf).inn.length s3) := (o15).facts.1 2
    have u3 : (w10).cell? ⟨g15, 3, none⟩ = some (.slice r4 (sf).kids.length s4) := (o15).facts.1 3
    have ul := (o15).lt
    have y0 : (w10).cell? ⟨g10, 0, none⟩ = some (.slice b1 t.cls.length d1) := (o10).facts.1 0
    have y1 : (w10).cell? ⟨g10, 1, none⟩ = some (.slice b2 t.vals.length d2) := (o10).facts.1 1
    have y2 : (w10).cell? ⟨g10, 2, none⟩ = some (.slice b3 t.parts.length d3) := (o10).facts.1 2
    have yl := (o10).lt
    go_wp2_with fail
    refine hh.mono ?_
    rintro e w11 ⟨rfl, hx11⟩
    replace hP := mono_FmR _ _ _ _ hx11.ple hP
    replace hD := mono_ThingR _ _ _ _ hx11.ple hD
    replace hT := hT.keep hx11
    replace o13 := o13.keep hx11
    replace o10 := o10.keep hx11
    replace hx := hx.then hx11
    clear hh hx11 u0 u1 u2 u3 ul y0 y1 y2 yl o15 hS
    have u0 : (w11).cell? ⟨g13, 0, none⟩ = some (.int .i64 (p).op) := (o13).facts.1 0
    have u1 : (w11).cell? ⟨g13, 1, none⟩ = some (.int .i64 (p).n) := (o13).facts.1 1
    have u2 : (w11).cell? ⟨g13, 2, none⟩ = some (.slice p3 (p).inn.length q3) := (o13).facts.1 2
    have u3 : (w11).cell? ⟨g13, 3, none⟩ = some (.slice p4 (p).kids.length q4) := (o13).facts.1 3
    have ul := (o13).lt
    have y0 : (w11).cell? ⟨g10, 0, none⟩ = some (.slice b1 t.cls.length d1) := (o10).facts.1 0
    have y1 : (w11).cell? ⟨g10, 1, none⟩ = some (.slice b2 t.vals.length d2) := (o10).facts.1 1
    have y2 : (w11).cell? ⟨g10, 2, none⟩ = some (.slice b3 t.parts.length d3) := (o10).facts.1 2
    have yl := (o10).lt
    have hh := fholds_c hn B p t _ _ w11 hT hP hD hpv hpw ht0 htn htb
    rw [hph] at hh
    go_wp2_with fail
    refine hh.mono ?_
    rintro e w12 ⟨rfl, hx12⟩
    replace hP := mono_FmR _ _ _ _ hx12.ple hP
    replace o13 := o13.keep hx12
    replace hx := hx.then hx12
    clear hh hx12 u0 u1 u2 u3 ul y0 y1 y2 yl o10 hD hT
    have u0 : (w12).cell? ⟨g13, 0, none⟩ = some (.int .i64 (p).op) := (o13).facts.1 0
    have u1 : (w12).cell? ⟨g13, 1, none⟩ = some (.int .i64 (p).n) := (o13).facts.1 1
    have u2 : (w12).cell? ⟨g13, 2, none⟩ = some (.slice p3 (p).inn.length q3) := (o13).facts.1 2
    have u3 : (w12).cell? ⟨g13, 3, none⟩ = some (.slice p4 (p).kids.length q4) := (o13).facts.1 3
    have ul := (o13).lt
    have hng := negated_c p _ w12 hP
    rw [hpn] at hng
    go_wp2_with fail
    refine RetV_at hng ?_
    intro w13 hx13
    go_wp2_with fail
    refine RetV_at (lives07_c _) ?_
    intro w14 hx14
    go_wp2_with fail
    go_ret
    exact ⟨rfl, (hx.then hx13).then hx14⟩
  · simp only [Prod.mk.injEq] at he
    obtain ⟨rfl, rfl⟩ := he
    have u0 : (w10).cell? ⟨g15, 0, none⟩ = some (.int .i64 (sf).op) := (o15).facts.1 0
    have u1 : (w10).cell? ⟨g15, 1, none⟩ = some (.int .i64 (sf).n) := (o15).facts.1 1
    have u2 : (w10).cell? ⟨g15, 2, none⟩ = some (.slice r3 (sf).inn.length s3) := (o15).facts.1 2
    have u3 : (w10).cell? ⟨g15, 3, none⟩ = some (.slice r4 (sf).kids.length s4) := (o15).facts.1 3
    have ul := (o15).lt
    have y0 : (w10).cell? ⟨g10, 0, none⟩ = some (.slice b1 t.cls.length d1) := (o10).facts.1 0
    have y1 : (w10).cell? ⟨g10, 1, none⟩ = some (.slice b2 t.vals.length d2) := (o10).facts.1 1
    have y2 : (w10).cell? ⟨g10, 2, none⟩ = some (.slice b3 t.parts.length d3) := (o10).facts.1 2
    have yl := (o10).lt
    go_wp2_with fail
    refine hh.mono ?_
    rintro e w11 ⟨rfl, hx11⟩
    replace hx := hx.then hx11
    clear hh hx11 u0 u1 u2 u3 ul y0 y1 y2 yl o15 hS
    go_wp2_with fail
    refine RetV_at (lives07_c _) ?_
    intro w14 hx14
    go_wp2_with fail
    go_ret
    exact ⟨rfl, hx.then hx14⟩
end Go.Proofs.YtbpilielamjnoaaGreat
namespace Go.Proofs.YtbpilielamjnoaaGreat
open Go.ChangeShapes Go.WideShapes Go.ChangeAt Go.RowKit
set_option linter.unusedVariables false
/-- the row's post, where the call makes at most new blocks and nothing is asked again -/
theorem post_of_ext {H : Type} {enc : TypeId × Value → H} {P : Program} {f : Func} {s : ChangeSpec} {apart fresh handsOn : Bool} {W W' : World} {args : Array Value} {v : Value} {ds gs : List (DataW H)} {before pa pv : List MemPlace}
    (hW : DataW.Whole enc P f.params.toList s.vars apart W args.toList ds gs before)
    (hres : ∀ (b : Nat) (sp : Nat → Bool) (hd : Bool), DataW.TrodAll enc P W' b sp hd f.resultTypes.toList (v.resultList f.resultTypes.size) (s.fn H (ds ++ gs)).results [])
    (hargs : ∀ sp : Nat → Bool, (∀ p ∈ before, sp p.block = true) → DataW.TrodAll enc P W' 0 sp true f.params.toList args.toList (s.fn H (ds ++ gs)).args pa)
    (hvars : ∀ sp : Nat → Bool, (∀ p ∈ before, sp p.block = true) → DataW.TrodVars enc P W' sp s.vars (s.fn H (ds ++ gs)).vars pv)
    (hps : before = pa ++ pv) (he : Ext W W') : s.post enc P f apart fresh handsOn false W args v W' := by
  have hold : ∀ p ∈ before, (fun b => decide (b < W.heap.size)) p.block = true := fun p hp => by simpa using hW.lt p hp
  exact ⟨ds, gs, before, [], pa, pv, hW, hres _ _ _, hargs _ hold, hvars _ hold, he.frame _, fun h => by cases h⟩
theorem wf_i64 {a : Int} (h : (Lit.int .i64 a).wf = true) : I64 a := by
  simpa [Lit.wf, IntKind.min, IntKind.max, IntKind.signed, IntKind.bits, I64] using h
end Go.Proofs.YtbpilielamjnoaaGreat
namespace Go.Proofs.YtbpilielamjnoaaGreat
open Go.ChangeShapes Go.WideShapes Go.ChangeAt Go.RowKit
set_option linter.unusedVariables false
section
variable {H : Type} {enc : TypeId × Value → H} {P : Program}
theorem trodAll_back (hl : laidOutB P = true) {W W' : World} (hb : Ext W W') : ∀ {ts : List TypeId} {vs : List Value} {ds : List (DataW H)} {ps : List MemPlace}, (∀ t ∈ ts, P.readableRec t = true ∧ t < P.types.size) →
    DataW.TrodAll enc P W 0 (fun _ => true) true ts vs ds ps → (∀ x ∈ ps, x.block < W.heap.size) → DataW.TrodAll enc P W' 0 (fun b => decide (b < W.heap.size)) true ts vs ds ps
  | [], [], [], ps, _, h, _ => h
  | t :: ts, v :: vs, d :: ds, ps, hr, h, hlt => by
    obtain ⟨p, q, h1, h2, rfl⟩ := h
    exact ⟨p, q, Below.trod hl (hr t (by simp)).1 (hr t (by simp)).2 h1 hb (fun x hx => hlt x (by simp [hx])), trodAll_back hl hb (fun t ht => hr t (by simp [ht])) h2 (fun x hx => hlt x (by simp [hx])), rfl⟩
  | [], _ :: _, _, _, _, h, _ => h.elim
  | [], [], _ :: _, _, _, h, _ => h.elim
  | _ :: _, [], _, _, _, h, _ => h.elim
  | _ :: _, _ :: _, [], _, _, h, _ => h.elim
/-- the post of a law: true comes back, and the arguments read as before -/
theorem post_law {f : Func} {s : ChangeSpec} {apart fresh handsOn : Bool} {W W' : World} {args : Array Value} {v : Value} {ds gs : List (DataW H)} {before : List MemPlace}
    (hW : DataW.Whole enc P f.params.toList s.vars apart W args.toList ds gs before) (hv : s.vars = [])
    (hres : ∀ (b : Nat) (sp : Nat → Bool) (hd : Bool), DataW.TrodAll enc P W' b sp hd f.resultTypes.toList (v.resultList f.resultTypes.size) (s.fn H (ds ++ gs)).results [])
    (hargs : (s.fn H (ds ++ gs)).args = ds) (hvs : (s.fn H (ds ++ gs)).vars = []) (hl : laidOutB P = true) (hr : ∀ t ∈ f.params.toList, P.readableRec t = true ∧ t < P.types.size) (he : Ext W W') : s.post enc P f apart fresh handsOn false W args v W' := by
  have hold : ∀ p ∈ before, p.block < W.heap.size := fun p hp => hW.lt p hp
  have hW' := hW
  obtain ⟨p, q, hA, hV, rfl, -, -⟩ := hW
  rw [hv] at hV
  obtain ⟨rfl, rfl⟩ : gs = [] ∧ q = [] := by
    cases gs with
    | nil => exact ⟨rfl, hV⟩
    | cons _ _ => exact hV.elim
  refine ⟨ds, [], p ++ [], [], p, [], hW', hres _ _ _, ?_, ?_, he.frame _, fun h => by cases h⟩
  · rw [hargs]; exact trodAll_back hl he hr hA fun x hx => hold x (by simp [hx])
  · rw [hv, hvs]; rfl
theorem wf_i64m {n : Int} (h : (Lit.int .i64 n).wf = true) : I64 n := wf_i64 h
/-- a []int that came in -/
theorem openI {t e : TypeId} {v : Value} {d : DataW H} {p : List MemPlace} {W : World} {base : Nat} (ht : P.underlying t = some (.slice e)) (he : P.underlying e = some (.int .i64)) (hc : P.cellsOf e = 1) (hby : P.bytesOf e = 8)
    (hval : Value.okWide P W .any base t v) (h : DataW.Trod enc P W 0 (fun _ => true) true t v d p) {ts : List TypeId} {ds : List (DataW H)} (hsz : (DataW.weightsEach P ts ds).all (· ≤ reachBytes) = true) (j : Nat) (hj : ts[j]? = some t) (hd : ds[j]? = some d) :
    ∃ l : List Int, IntsR (ph W) v l ∧ l.length ≤ 17592186043904 := by
  obtain ⟨a0, len, cap, rfl⟩ := okWide_slice ht hval
  obtain ⟨fuel, hf⟩ := h
  rcases open_ints ht he hc hf with ⟨hcs, hx⟩ | ⟨a, len', cap', zs, hcs, _, hl, hm, hz, hx, hcell, hwz⟩
  · simp [Value.cells] at hcs
    obtain ⟨rfl, rfl, rfl⟩ := hcs
    exact ⟨[], SliceRep.nil _ _ _, by simp⟩
  · simp [Value.cells] at hcs
    obtain ⟨rfl, rfl, rfl⟩ := hcs
    simp only [Prod.mk.injEq] at hx
    obtain ⟨rfl, -⟩ := hx
    simp only [if_true] at hz
    have hreach : len * 8 ≤ 140737488351232 := by
      have := sized_slice hsz (j := j) hj hd ht
      rw [hby] at this
      simp only [lits, List.length_map, List.length_take, List.length_drop, reachBytes] at this
      omega
    have hlen : (zs.take len).length = len := by rw [List.length_take]; omega
    refine ⟨zs.take len, ⟨some a, cap, by rw [hlen], by omega, hm, ?_⟩, by omega⟩
    by_cases h0 : len = 0
    · left; rw [h0]; rfl
    · right
      obtain ⟨b, off, spot⟩ := a
      have hspot : spot = none := by simpa [Addr.add] using World.cell?_spot (hcell 0 (by omega))
      subst hspot
      refine ⟨b, off, rfl, RowRep.of fun i hi => ?_⟩
      rw [hlen] at hi
      have h1 := hcell i (by omega)
      have h2 : zs.getD i 0 = (zs.take len)[i]'(by omega) := by
        rw [List.getElem_take]; simp [List.getD, show i < zs.length by omega]
      refine ⟨[.int .i64 ((zs.take len)[i]'(by omega))], rfl, fun j hj => ?_, rfl, wf_i64m (hwz _ ?_)⟩
      · obtain rfl : j = 0 := by omega
        rw [addo, cell_ph, h2] at h1
        simpa using h1
      · rw [List.getElem_take]; exact List.getElem_mem _
theorem wf_u8 {n : Int} (h : (Lit.int .u8 n).wf = true) : 0 ≤ n ∧ n < 256 := by
  have := bounds_u8 h; omega
/-- a []byte that came in -/
theorem openB {t e : TypeId} {v : Value} {d : DataW H} {p : List MemPlace} {W : World} {base : Nat} (ht : P.underlying t = some (.slice e)) (he : P.underlying e = some (.int .u8)) (hc : P.cellsOf e = 1) (hby : P.bytesOf e = 1)
    (hval : Value.okWide P W .any base t v) (h : DataW.Trod enc P W 0 (fun _ => true) true t v d p) {ts : List TypeId} {ds : List (DataW H)} (hsz : (DataW.weightsEach P ts ds).all (· ≤ reachBytes) = true) (j : Nat) (hj : ts[j]? = some t) (hd : ds[j]? = some d) :
    ∃ l : List UInt8, BytesR (ph W) v l ∧ l.length ≤ 140737488351232 := by
  obtain ⟨a0, len, cap, rfl⟩ := okWide_slice ht hval
  obtain ⟨fuel, hf⟩ := h
  rcases open_ints ht he hc hf with ⟨hcs, hx⟩ | ⟨a, len', cap', zs, hcs, _, hl, hm, hz, hx, hcell, hwz⟩
  · simp [Value.cells] at hcs
    obtain ⟨rfl, rfl, rfl⟩ := hcs
    exact ⟨[], SliceRep.nil _ _ _, by simp⟩
  · simp [Value.cells] at hcs
    obtain ⟨rfl, rfl, rfl⟩ := hcs
    simp only [Prod.mk.injEq] at hx
    obtain ⟨rfl, -⟩ := hx
    simp only [if_true] at hz
    have hreach : len * 1 ≤ 140737488351232 := by
      have := sized_slice hsz (j := j) hj hd ht
      rw [hby] at this
      simp only [lits, List.length_map, List.length_take, List.length_drop, reachBytes] at this
      omega
    have hlen : ((zs.take len).map fun n => UInt8.ofNat n.toNat).length = len := by rw [List.length_map, List.length_take]; omega
    refine ⟨(zs.take len).map fun n => UInt8.ofNat n.toNat, ⟨some a, cap, by rw [hlen], by omega, hm, ?_⟩, by omega⟩
    by_cases h0 : len = 0
    · left; rw [h0]; rfl
    · right
      obtain ⟨b, off, spot⟩ := a
      have hspot : spot = none := by simpa [Addr.add] using World.cell?_spot (hcell 0 (by omega))
      subst hspot
      refine ⟨b, off, rfl, RowRep.of fun i hi => ?_⟩
      rw [hlen] at hi
      have h1 := hcell i (by omega)
      have h2 : zs.getD i 0 = zs[i]'(by omega) := by simp [List.getD, show i < zs.length by omega]
      have h3 := wf_u8 (hwz (zs[i]'(by omega)) (List.getElem_mem _))
      refine ⟨[.int .u8 (zs[i]'(by omega))], rfl, fun j hj => ?_, ?_⟩
      · obtain rfl : j = 0 := by omega
        rw [addo, cell_ph, h2] at h1
        simpa using h1
      · simp only [ByteR, List.getElem_map, List.getElem_take, List.cons.injEq, and_true]
        refine val_int ?_
        have h4 : (zs[i]'(by omega)).toNat < 256 := by omega
        rw [UInt8.toNat_ofNat_of_lt' (by simpa using h4)]
        omega
end
end Go.Proofs.YtbpilielamjnoaaGreat
