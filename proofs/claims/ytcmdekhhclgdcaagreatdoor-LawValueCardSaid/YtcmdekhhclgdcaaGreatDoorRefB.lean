/- package priorartref01: Has. Package priorartref14: Valid.; package priorartref14: Valid. -/
import Derived.Test.YtcmdekhhclgdcaaGreatDoorCalE
namespace Go.Proofs.YtcmdekhhclgdcaaGreatDoor
open Go.RowKit Go.Shelf
set_option linter.unusedSimpArgs false
set_option linter.unusedVariables false
set_option maxHeartbeats 1000000 in
theorem has_c (xs : List Int) (n : Int) (v : Value) (w : World) (hr : IntsR (ph w) v xs) : Calls Tryz.prog 99 #[v, .int .i64 n] w (RetP w (.bool (decide (n ∈ xs)))) := by
  obtain ⟨a, c, rfl, hlen, hr⟩ := hr.form
  go_enter Tryz.func99, Tryz.ntmps99
  go_wp2_with fail
  go_loopw [5] (fun i wr => ∃ k : Nat, k ≤ xs.length ∧ i = .int .i64 k ∧ Hid (∀ x ∈ xs.take k, x ≠ n) ∧ wr = w) (fun i _ => xs.length - (intOf i).toNat)
  case atStart => exact ⟨0, by omega, rfl, Lib.hid (by simp), rfl⟩
  case round =>
    obtain ⟨k, hk, rfl, hno, rfl⟩ := hrel
    by_cases hlt : k < xs.length
    · obtain ⟨gb, go, rfl, gc, gi, gl⟩ := IntsR.at hr k hlt
      have hyes : xs[k] = n → Hid (n ∈ xs) := fun h => Lib.hid (h ▸ List.getElem_mem hlt)
      have hno' : xs[k] ≠ n → Hid (∀ x ∈ xs.take (k + 1), x ≠ n) := fun h => Lib.hid (take_all (p := fun x => x ≠ n) hlt h hno.out)
      clear hno
      generalize xs[k] = x at *
      by_cases h : x = n
      · have hb : (x == n) = true := by rw [beq_iff_eq]; exact h
        have hm := hyes h
        clear hyes hno' h
        go_wp2_with fail
        go_ret
        exact ⟨ret_bool (by simp; exact hm.out), rfl⟩
      · have hb : (x == n) = false := by rw [beq_eq_false_iff_ne]; exact h
        have hm := hno' h
        clear hyes hno' h
        go_wp2_with fail
        go_roundw
        case rel => exact ⟨k + 1, by omega, rfl, hm, trivial⟩
        case measure => simp [intOf]; omega
    · have hm : Hid (n ∉ xs) := by
        show _
        intro hmem
        exact take_done (p := fun x => x ≠ n) (by omega) hno.out n hmem rfl
      clear hno
      go_wp2_with fail
      go_ret
      exact ⟨ret_bool (by simp; exact hm.out), rfl⟩
end Go.Proofs.YtcmdekhhclgdcaaGreatDoor
namespace Go.Proofs.YtcmdekhhclgdcaaGreatDoor
open Go.RowKit Go.Shelf
set_option linter.unusedSimpArgs false
set_option linter.unusedVariables false
theorem later_num {y m d y' m' d' : Int} (h1 : 1 ≤ d) (h2 : d ≤ 31) (h3 : 1 ≤ d') (h4 : d' ≤ 31) : laterB (y, m, d) (y', m', d') = decide (100 * m' + d' < 100 * m + d) := by
  unfold laterB
  rw [Bool.eq_iff_iff]
  simp
  omega
set_option maxRecDepth 100000 in
set_option maxHeartbeats 4000000 in
theorem rcalValid_c (c : Cal) (v : Value) (w : World) (hr : CalR (ph w) v c) : Calls Tryz.prog 45 #[v] w (RetV w (.int .i64 (calE c))) := by
  obtain ⟨ws, hs⟩ := c
  obtain ⟨a, b, rfl, hW, hH⟩ := hr
  obtain ⟨wa, wc, rfl, wlen, hW⟩ := hW.form
  obtain ⟨ha, hc, rfl, hlen, hH⟩ := hH.form
  dsimp only at hW hH wlen hlen ⊢
  by_cases h1 : 64 < hs.length
  · have hE : Hid (calE (ws, hs) = 4) := if_pos h1
    go_enter Tryz.func45, Tryz.ntmps45
    go_wp2_with fail
    go_ret
    exact ⟨ret_int hE.out.symm, (by repeat (first | (with_reducible assumption) | (with_reducible exact Ext.rfl' _) | (with_reducible exact Ext.new _ _) | (with_reducible refine Ext.alloc' ?_ _) | (with_reducible refine Ext.drew' ?_) | (with_reducible refine Ext.drewN' ?_ _) | (with_reducible refine Ext.set' ?_ ?_ _; rotate_left; (focus (first | omega | (simp; done) | (simp; omega)))) | (with_reducible refine Ext.then (b := ?_) ?_ ?_; rotate_left; rotate_left; (with_reducible assumption))))⟩
  · by_cases h2 : 6 < ws.length
    · have hE : Hid (calE (ws, hs) = 1) := by show _ = _; unfold calE; rw [if_neg h1, if_pos h2]
      go_enter Tryz.func45, Tryz.ntmps45
      go_wp2_with fail
      go_ret
      exact ⟨ret_int hE.out.symm, (by repeat (first | (with_reducible assumption) | (with_reducible exact Ext.rfl' _) | (with_reducible exact Ext.new _ _) | (with_reducible refine Ext.alloc' ?_ _) | (with_reducible refine Ext.drew' ?_) | (with_reducible refine Ext.drewN' ?_ _) | (with_reducible refine Ext.set' ?_ ?_ _; rotate_left; (focus (first | omega | (simp; done) | (simp; omega)))) | (with_reducible refine Ext.then (b := ?_) ?_ ?_; rotate_left; rotate_left; (with_reducible assumption))))⟩
    · have hE : Hid (calE (ws, hs) = ErrIf (WOk ws ∧ HOk hs) 1) := by show _ = _; unfold calE; rw [if_neg h1, if_neg h2]
      go_enter Tryz.func45, Tryz.ntmps45
      go_wp2_with fail
      have hO := Own.new w #[.slice wa ws.length wc, .slice ha hs.length hc] 53
      have hx := Ext.new w (.cells #[.slice wa ws.length wc, .slice ha hs.length hc] 53)
      generalize w.alloc _ = W at *
      have hW' := hW.mono mono_IntR hx.ple
      have hH' := hH.mono mono_DateR hx.ple
      have h6 : (ws.length : Int) ≤ 6 := by omega
      have h64 : (hs.length : Int) ≤ 64 := by omega
      clear h1 h2
      go_loopw [3] (fun i wr => ∃ k : Nat, k ≤ ws.length ∧ i = .int .i64 k ∧ Hid (∀ j, j < k → ¬ wBad ws j) ∧ Ext W wr) (fun i _ => 10 - (intOf i).toNat)
      case atStart => exact ⟨0, by omega, rfl, Lib.hid (by intro j h; omega), Ext.rfl' _⟩
      case round =>
        obtain ⟨k, hk, rfl, hno, hxr⟩ := hrel
        obtain ⟨oc, of⟩ := (hO.keep hxr).facts
        have ol := (hO.keep hxr).lt
        by_cases hlt : k < ws.length
        · obtain ⟨gb, go, rfl, gc, gi, gl⟩ := IntsR.at (hW'.mono mono_IntR hxr.ple) k hlt
          have hg : ws.getD k 0 = ws[k] := by simp [hlt]
          by_cases hlo : ws[k] < 0
          · have hE2 : Hid (calE (ws, hs) = 1) := by show _ = _; rw [hE.out, ErrIf_f]; exact fun ⟨h, _⟩ => h k hlt (.inl (by rw [hg]; omega))
            have b1 : decide (ws[k] < 0) = true := by simpa using hlo
            clear hE hno
            generalize ws[k] = x at *
            clear hlo hg
            · skip
              go_wp2_with fail
              (refine wp_region_I 32 (by kernel_rfl) (by kernel_rfl) ?_; simp only [List.toList_toArray, List.take_succ_cons, List.take_zero, List.drop_succ_cons, List.drop_zero])
              (repeat (first | (refine walkI_no rfl (by simp) rfl rfl rfl ?_ ?_; (focus (simp [undef]; done)); (try simp only [List.nil_append, List.cons_append])) | (refine walkI_is (u := ?_) rfl (by simp) rfl ?_ ?_; rotate_left; (focus (intro A w' hS hA K hK; (simp only [List.map_cons, List.map_nil, knows, Is, Op.operands, Call.operands, List.lookup_cons, List.lookup_nil, Nat.reduceBEq, Bool.false_eq_true, if_false, if_true, Act.eval, Array.getD_eq_getD_getElem?, List.getElem?_toArray, List.getElem?_cons_succ, List.getElem?_cons_zero, Option.getD_some, and_true, true_and, List.append_toArray, List.nil_append, List.cons_append, List.toList_toArray, Array.toList_append, Option.toArray, List.append_nil] at hA); first | fail | (obtain ⟨hSc, hSf, hSs⟩ := hS.cells; go_simp; exact hK _ (by repeat (first | (with_reducible assumption) | (with_reducible exact Ext.rfl' _) | (with_reducible exact Ext.new _ _) | (with_reducible refine Ext.alloc' ?_ _) | (with_reducible refine Ext.drew' ?_) | (with_reducible refine Ext.drewN' ?_ _) | (with_reducible refine Ext.set' ?_ ?_ _; rotate_left; (focus (first | omega | (simp; done) | (simp; omega)))) | (with_reducible refine Ext.then (b := ?_) ?_ ?_; rotate_left; rotate_left; (with_reducible assumption))))))); (try simp only [List.nil_append, List.cons_append])) | (refine walkI_yesis (u := ?_) rfl (by simp) rfl rfl rfl ?_ ?_; rotate_left; (focus (intro A w' hS hA K hK; (simp only [List.map_cons, List.map_nil, knows, Is, Op.operands, Call.operands, List.lookup_cons, List.lookup_nil, Nat.reduceBEq, Bool.false_eq_true, if_false, if_true, Act.eval, Array.getD_eq_getD_getElem?, List.getElem?_toArray, List.getElem?_cons_succ, List.getElem?_cons_zero, Option.getD_some, and_true, true_and, List.append_toArray, List.nil_append, List.cons_append, List.toList_toArray, Array.toList_append, Option.toArray, List.append_nil] at hA); first | fail | (obtain ⟨hSc, hSf, hSs⟩ := hS.cells; go_simp; exact hK _ (by repeat (first | (with_reducible assumption) | (with_reducible exact Ext.rfl' _) | (with_reducible exact Ext.new _ _) | (with_reducible refine Ext.alloc' ?_ _) | (with_reducible refine Ext.drew' ?_) | (with_reducible refine Ext.drewN' ?_ _) | (with_reducible refine Ext.set' ?_ ?_ _; rotate_left; (focus (first | omega | (simp; done) | (simp; omega)))) | (with_reducible refine Ext.then (b := ?_) ?_ ?_; rotate_left; rotate_left; (with_reducible assumption))))))); (try simp only [List.nil_append, List.cons_append]))))
              (refine walkI_nil ?_; simp only [List.nil_append, List.cons_append, fins, Is, forall_eq, Act.put, List.setIfInBounds_toArray, List.set_cons_zero, List.set_cons_succ])
              rintro w5 hx5
              have hx6 : Ext w w5 := (hx.then hxr).then hx5
              go_wp2_with fail
              go_ret
              exact ⟨ret_int hE2.out.symm, hx6⟩
          · by_cases hhi : 6 < ws[k]
            · have hE2 : Hid (calE (ws, hs) = 1) := by show _ = _; rw [hE.out, ErrIf_f]; exact fun ⟨h, _⟩ => h k hlt (.inl (by rw [hg]; omega))
              have b1 : decide (ws[k] < 0) = false := by simpa using hlo
              have b2 : decide (6 < ws[k]) = true := by simpa using hhi
              clear hE hno
              generalize ws[k] = x at *
              clear hlo hhi hg
              go_wp2_with fail
              (refine wp_region_I 32 (by kernel_rfl) (by kernel_rfl) ?_; simp only [List.toList_toArray, List.take_succ_cons, List.take_zero, List.drop_succ_cons, List.drop_zero])
              (repeat (first | (refine walkI_no rfl (by simp) rfl rfl rfl ?_ ?_; (focus (simp [undef]; done)); (try simp only [List.nil_append, List.cons_append])) | (refine walkI_is (u := ?_) rfl (by simp) rfl ?_ ?_; rotate_left; (focus (intro A w' hS hA K hK; (simp only [List.map_cons, List.map_nil, knows, Is, Op.operands, Call.operands, List.lookup_cons, List.lookup_nil, Nat.reduceBEq, Bool.false_eq_true, if_false, if_true, Act.eval, Array.getD_eq_getD_getElem?, List.getElem?_toArray, List.getElem?_cons_succ, List.getElem?_cons_zero, Option.getD_some, and_true, true_and, List.append_toArray, List.nil_append, List.cons_append, List.toList_toArray, Array.toList_append, Option.toArray, List.append_nil] at hA); first | fail | (obtain ⟨hSc, hSf, hSs⟩ := hS.cells; go_simp; exact hK _ (by repeat (first | (with_reducible assumption) | (with_reducible exact Ext.rfl' _) | (with_reducible exact Ext.new _ _) | (with_reducible refine Ext.alloc' ?_ _) | (with_reducible refine Ext.drew' ?_) | (with_reducible refine Ext.drewN' ?_ _) | (with_reducible refine Ext.set' ?_ ?_ _; rotate_left; (focus (first | omega | (simp; done) | (simp; omega)))) | (with_reducible refine Ext.then (b := ?_) ?_ ?_; rotate_left; rotate_left; (with_reducible assumption))))))); (try simp only [List.nil_append, List.cons_append])) | (refine walkI_yesis (u := ?_) rfl (by simp) rfl rfl rfl ?_ ?_; rotate_left; (focus (intro A w' hS hA K hK; (simp only [List.map_cons, List.map_nil, knows, Is, Op.operands, Call.operands, List.lookup_cons, List.lookup_nil, Nat.reduceBEq, Bool.false_eq_true, if_false, if_true, Act.eval, Array.getD_eq_getD_getElem?, List.getElem?_toArray, List.getElem?_cons_succ, List.getElem?_cons_zero, Option.getD_some, and_true, true_and, List.append_toArray, List.nil_append, List.cons_append, List.toList_toArray, Array.toList_append, Option.toArray, List.append_nil] at hA); first | fail | (obtain ⟨hSc, hSf, hSs⟩ := hS.cells; go_simp; exact hK _ (by repeat (first | (with_reducible assumption) | (with_reducible exact Ext.rfl' _) | (with_reducible exact Ext.new _ _) | (with_reducible refine Ext.alloc' ?_ _) | (with_reducible refine Ext.drew' ?_) | (with_reducible refine Ext.drewN' ?_ _) | (with_reducible refine Ext.set' ?_ ?_ _; rotate_left; (focus (first | omega | (simp; done) | (simp; omega)))) | (with_reducible refine Ext.then (b := ?_) ?_ ?_; rotate_left; rotate_left; (with_reducible assumption))))))); (try simp only [List.nil_append, List.cons_append]))))
              (refine walkI_nil ?_; simp only [List.nil_append, List.cons_append, fins, Is, forall_eq, Act.put, List.setIfInBounds_toArray, List.set_cons_zero, List.set_cons_succ])
              rintro w5 hx5
              have hx6 : Ext w w5 := (hx.then hxr).then hx5
              go_wp2_with fail
              go_ret
              exact ⟨ret_int hE2.out.symm, hx6⟩
            · have b1 : decide (ws[k] < 0) = false := by simpa using hlo
              have b2 : decide (6 < ws[k]) = false := by simpa using hhi
              have hin : 0 ≤ ws[k] ∧ ws[k] ≤ 6 := by omega
              by_cases h0 : k = 0
              · subst h0
                have hno2 : Hid (∀ j, j < 0 + 1 → ¬ wBad ws j) := by
                  intro j hj hbb
                  obtain rfl : j = 0 := by omega
                  rcases hbb with hbb | ⟨hbb, -⟩
                  · rw [hg] at hbb; exact hbb hin
                  · omega
                clear hno
                generalize ws[0] = x at *
                simp only [Nat.add_zero] at gc
                clear hin hg hlo hhi
                · skip
                  go_wp2_with fail
                  (refine wp_region_I 32 (by kernel_rfl) (by kernel_rfl) ?_; simp only [List.toList_toArray, List.take_succ_cons, List.take_zero, List.drop_succ_cons, List.drop_zero])
                  (repeat (first | (refine walkI_no rfl (by simp) rfl rfl rfl ?_ ?_; (focus (simp [undef]; done)); (try simp only [List.nil_append, List.cons_append])) | (refine walkI_is (u := ?_) rfl (by simp) rfl ?_ ?_; rotate_left; (focus (intro A w' hS hA K hK; (simp only [List.map_cons, List.map_nil, knows, Is, Op.operands, Call.operands, List.lookup_cons, List.lookup_nil, Nat.reduceBEq, Bool.false_eq_true, if_false, if_true, Act.eval, Array.getD_eq_getD_getElem?, List.getElem?_toArray, List.getElem?_cons_succ, List.getElem?_cons_zero, Option.getD_some, and_true, true_and, List.append_toArray, List.nil_append, List.cons_append, List.toList_toArray, Array.toList_append, Option.toArray, List.append_nil] at hA); first | fail | (obtain ⟨hSc, hSf, hSs⟩ := hS.cells; go_simp; exact hK _ (by repeat (first | (with_reducible assumption) | (with_reducible exact Ext.rfl' _) | (with_reducible exact Ext.new _ _) | (with_reducible refine Ext.alloc' ?_ _) | (with_reducible refine Ext.drew' ?_) | (with_reducible refine Ext.drewN' ?_ _) | (with_reducible refine Ext.set' ?_ ?_ _; rotate_left; (focus (first | omega | (simp; done) | (simp; omega)))) | (with_reducible refine Ext.then (b := ?_) ?_ ?_; rotate_left; rotate_left; (with_reducible assumption))))))); (try simp only [List.nil_append, List.cons_append])) | (refine walkI_yesis (u := ?_) rfl (by simp) rfl rfl rfl ?_ ?_; rotate_left; (focus (intro A w' hS hA K hK; (simp only [List.map_cons, List.map_nil, knows, Is, Op.operands, Call.operands, List.lookup_cons, List.lookup_nil, Nat.reduceBEq, Bool.false_eq_true, if_false, if_true, Act.eval, Array.getD_eq_getD_getElem?, List.getElem?_toArray, List.getElem?_cons_succ, List.getElem?_cons_zero, Option.getD_some, and_true, true_and, List.append_toArray, List.nil_append, List.cons_append, List.toList_toArray, Array.toList_append, Option.toArray, List.append_nil] at hA); first | fail | (obtain ⟨hSc, hSf, hSs⟩ := hS.cells; go_simp; exact hK _ (by repeat (first | (with_reducible assumption) | (with_reducible exact Ext.rfl' _) | (with_reducible exact Ext.new _ _) | (with_reducible refine Ext.alloc' ?_ _) | (with_reducible refine Ext.drew' ?_) | (with_reducible refine Ext.drewN' ?_ _) | (with_reducible refine Ext.set' ?_ ?_ _; rotate_left; (focus (first | omega | (simp; done) | (simp; omega)))) | (with_reducible refine Ext.then (b := ?_) ?_ ?_; rotate_left; rotate_left; (with_reducible assumption))))))); (try simp only [List.nil_append, List.cons_append]))))
                  (refine walkI_nil ?_; simp only [List.nil_append, List.cons_append, fins, Is, forall_eq, Act.put, List.setIfInBounds_toArray, List.set_cons_zero, List.set_cons_succ])
                  rintro w5 hx5
                  have hx6 : Ext w w5 := (hx.then hxr).then hx5
                  go_wp2_with fail
                  go_roundw
                  case rel => exact ⟨0 + 1, by omega, rfl, hno2, hxr.then hx5⟩
                  case measure => simp [intOf]
              · obtain ⟨gb', go', e2, gc', gi', gl'⟩ := IntsR.at (hW'.mono mono_IntR hxr.ple) (k - 1) (by omega)
                cases e2
                have hg' : ws.getD (k - 1) 0 = ws[k - 1] := by simp [show k - 1 < ws.length by omega]
                have hq0 : decide (0 < k) = true := by simp; omega
                have hkc : ((k : Int) - 1) = ((k - 1 : Nat) : Int) := by omega
                have hkw : IntKind.i64.wrap ((k - 1 : Nat) : Int) = ((k - 1 : Nat) : Int) := by rw [IntKind.wrap_i64]; omega
                have hk1 : k - 1 < ws.length := by omega
                by_cases hle : ws[k] ≤ ws[k - 1]
                · have hE2 : Hid (calE (ws, hs) = 1) := by show _ = _; rw [hE.out, ErrIf_f]; exact fun ⟨h, _⟩ => h k hlt (.inr ⟨by omega, by rw [hg, hg']; exact hle⟩)
                  clear hE hno
                  generalize ws[k] = x at *
                  generalize ws[k - 1] = y at *
                  clear hin hg hg' hlo hhi
                  · skip
                    go_wp2_with fail
                    (refine wp_region_I 32 (by kernel_rfl) (by kernel_rfl) ?_; simp only [List.toList_toArray, List.take_succ_cons, List.take_zero, List.drop_succ_cons, List.drop_zero])
                    (repeat (first | (refine walkI_no rfl (by simp) rfl rfl rfl ?_ ?_; (focus (simp [undef]; done)); (try simp only [List.nil_append, List.cons_append])) | (refine walkI_is (u := ?_) rfl (by simp) rfl ?_ ?_; rotate_left; (focus (intro A w' hS hA K hK; (simp only [List.map_cons, List.map_nil, knows, Is, Op.operands, Call.operands, List.lookup_cons, List.lookup_nil, Nat.reduceBEq, Bool.false_eq_true, if_false, if_true, Act.eval, Array.getD_eq_getD_getElem?, List.getElem?_toArray, List.getElem?_cons_succ, List.getElem?_cons_zero, Option.getD_some, and_true, true_and, List.append_toArray, List.nil_append, List.cons_append, List.toList_toArray, Array.toList_append, Option.toArray, List.append_nil] at hA); first | fail | (obtain ⟨hSc, hSf, hSs⟩ := hS.cells; go_simp; exact hK _ (by repeat (first | (with_reducible assumption) | (with_reducible exact Ext.rfl' _) | (with_reducible exact Ext.new _ _) | (with_reducible refine Ext.alloc' ?_ _) | (with_reducible refine Ext.drew' ?_) | (with_reducible refine Ext.drewN' ?_ _) | (with_reducible refine Ext.set' ?_ ?_ _; rotate_left; (focus (first | omega | (simp; done) | (simp; omega)))) | (with_reducible refine Ext.then (b := ?_) ?_ ?_; rotate_left; rotate_left; (with_reducible assumption))))))); (try simp only [List.nil_append, List.cons_append])) | (refine walkI_yesis (u := ?_) rfl (by simp) rfl rfl rfl ?_ ?_; rotate_left; (focus (intro A w' hS hA K hK; (simp only [List.map_cons, List.map_nil, knows, Is, Op.operands, Call.operands, List.lookup_cons, List.lookup_nil, Nat.reduceBEq, Bool.false_eq_true, if_false, if_true, Act.eval, Array.getD_eq_getD_getElem?, List.getElem?_toArray, List.getElem?_cons_succ, List.getElem?_cons_zero, Option.getD_some, and_true, true_and, List.append_toArray, List.nil_append, List.cons_append, List.toList_toArray, Array.toList_append, Option.toArray, List.append_nil] at hA); first | fail | (obtain ⟨hSc, hSf, hSs⟩ := hS.cells; go_simp; exact hK _ (by repeat (first | (with_reducible assumption) | (with_reducible exact Ext.rfl' _) | (with_reducible exact Ext.new _ _) | (with_reducible refine Ext.alloc' ?_ _) | (with_reducible refine Ext.drew' ?_) | (with_reducible refine Ext.drewN' ?_ _) | (with_reducible refine Ext.set' ?_ ?_ _; rotate_left; (focus (first | omega | (simp; done) | (simp; omega)))) | (with_reducible refine Ext.then (b := ?_) ?_ ?_; rotate_left; rotate_left; (with_reducible assumption))))))); (try simp only [List.nil_append, List.cons_append]))))
                    (refine walkI_nil ?_; simp only [List.nil_append, List.cons_append, fins, Is, forall_eq, Act.put, List.setIfInBounds_toArray, List.set_cons_zero, List.set_cons_succ])
                    rintro w5 hx5
                    have hx6 : Ext w w5 := (hx.then hxr).then hx5
                    go_wp2_with fail
                    go_ret
                    exact ⟨ret_int hE2.out.symm, hx6⟩
                · have hno2 : Hid (∀ j, j < k + 1 → ¬ wBad ws j) := by
                    intro j hj hbb
                    by_cases hjk : j = k
                    · subst hjk
                      rcases hbb with hbb | ⟨-, hbb⟩
                      · rw [hg] at hbb; exact hbb hin
                      · rw [hg, hg'] at hbb; exact hle hbb
                    · exact hno.out j (by omega) hbb
                  clear hno
                  generalize ws[k] = x at *
                  generalize ws[k - 1] = y at *
                  clear hin hg hg' hlo hhi
                  · skip
                    go_wp2_with fail
                    (refine wp_region_I 32 (by kernel_rfl) (by kernel_rfl) ?_; simp only [List.toList_toArray, List.take_succ_cons, List.take_zero, List.drop_succ_cons, List.drop_zero])
                    (repeat (first | (refine walkI_no rfl (by simp) rfl rfl rfl ?_ ?_; (focus (simp [undef]; done)); (try simp only [List.nil_append, List.cons_append])) | (refine walkI_is (u := ?_) rfl (by simp) rfl ?_ ?_; rotate_left; (focus (intro A w' hS hA K hK; (simp only [List.map_cons, List.map_nil, knows, Is, Op.operands, Call.operands, List.lookup_cons, List.lookup_nil, Nat.reduceBEq, Bool.false_eq_true, if_false, if_true, Act.eval, Array.getD_eq_getD_getElem?, List.getElem?_toArray, List.getElem?_cons_succ, List.getElem?_cons_zero, Option.getD_some, and_true, true_and, List.append_toArray, List.nil_append, List.cons_append, List.toList_toArray, Array.toList_append, Option.toArray, List.append_nil] at hA); first | fail | (obtain ⟨hSc, hSf, hSs⟩ := hS.cells; go_simp; exact hK _ (by repeat (first | (with_reducible assumption) | (with_reducible exact Ext.rfl' _) | (with_reducible exact Ext.new _ _) | (with_reducible refine Ext.alloc' ?_ _) | (with_reducible refine Ext.drew' ?_) | (with_reducible refine Ext.drewN' ?_ _) | (with_reducible refine Ext.set' ?_ ?_ _; rotate_left; (focus (first | omega | (simp; done) | (simp; omega)))) | (with_reducible refine Ext.then (b := ?_) ?_ ?_; rotate_left; rotate_left; (with_reducible assumption))))))); (try simp only [List.nil_append, List.cons_append])) | (refine walkI_yesis (u := ?_) rfl (by simp) rfl rfl rfl ?_ ?_; rotate_left; (focus (intro A w' hS hA K hK; (simp only [List.map_cons, List.map_nil, knows, Is, Op.operands, Call.operands, List.lookup_cons, List.lookup_nil, Nat.reduceBEq, Bool.false_eq_true, if_false, if_true, Act.eval, Array.getD_eq_getD_getElem?, List.getElem?_toArray, List.getElem?_cons_succ, List.getElem?_cons_zero, Option.getD_some, and_true, true_and, List.append_toArray, List.nil_append, List.cons_append, List.toList_toArray, Array.toList_append, Option.toArray, List.append_nil] at hA); first | fail | (obtain ⟨hSc, hSf, hSs⟩ := hS.cells; go_simp; exact hK _ (by repeat (first | (with_reducible assumption) | (with_reducible exact Ext.rfl' _) | (with_reducible exact Ext.new _ _) | (with_reducible refine Ext.alloc' ?_ _) | (with_reducible refine Ext.drew' ?_) | (with_reducible refine Ext.drewN' ?_ _) | (with_reducible refine Ext.set' ?_ ?_ _; rotate_left; (focus (first | omega | (simp; done) | (simp; omega)))) | (with_reducible refine Ext.then (b := ?_) ?_ ?_; rotate_left; rotate_left; (with_reducible assumption))))))); (try simp only [List.nil_append, List.cons_append]))))
                    (refine walkI_nil ?_; simp only [List.nil_append, List.cons_append, fins, Is, forall_eq, Act.put, List.setIfInBounds_toArray, List.set_cons_zero, List.set_cons_succ])
                    rintro w5 hx5
                    have hx6 : Ext w w5 := (hx.then hxr).then hx5
                    go_wp2_with fail
                    go_roundw
                    case rel => exact ⟨k + 1, by omega, rfl, hno2, hxr.then hx5⟩
                    case measure => simp [intOf]; omega
        · have hWO : Hid (WOk ws) := by show WOk ws; intro j hj; exact hno.out j (by omega)
          clear hno
          generalize wr = W0 at *
          go_wp2_with fail
          go_loopw [4, 5] (fun l i wr => ∃ (q : Nat) (z : Int), q ≤ hs.length ∧ i = .int .i64 q ∧ l = .int .i64 z ∧ Hid (∀ j, j < q → ¬ hBad hs j) ∧ Hid ((q = 0 → z = 0) ∧ (0 < q → z = 100 * (hs.getD (q - 1) (0, 0, 0)).2.1 + (hs.getD (q - 1) (0, 0, 0)).2.2)) ∧ 0 ≤ z ∧ z ≤ 1300 ∧ Ext W0 wr) (fun _ i _ => 70 - (intOf i).toNat)
          case atStart => exact ⟨0, 0, by omega, rfl, rfl, Lib.hid (by intro j h; omega), Lib.hid ⟨fun _ => rfl, fun h => by omega⟩, by omega, by omega, Ext.rfl' _⟩
          case round =>
            obtain ⟨q, z, hq, rfl, rfl, hno, hz, hz0, hz1, hxq⟩ := hrel
            have hxW : Ext W wr := hxr.then hxq
            obtain ⟨oc1, of1⟩ := (hO.keep hxW).facts
            have ol1 := (hO.keep hxW).lt
            by_cases hltq : q < hs.length
            · obtain ⟨gb, go, rfl, gc0, gc1, gc2, gl, gi0, gi1, gi2⟩ := DatesR.at (hH'.mono mono_DateR hxW.ple) q hltq
              have hg : hs.getD q (0, 0, 0) = hs[q] := by simp [hltq]
              have hl := fun m w => rlength_c 2000 m w (by omega) (by omega)
              generalize hs[q] = x at *
              obtain ⟨y, m, d⟩ := x
              dsimp only at gc0 gc1 gc2 gi0 gi1 gi2
              have hx1 : Ext W0 (wr.alloc (.cells #[.int .i64 y, .int .i64 m, .int .i64 d] 81)) := (by repeat (first | (with_reducible assumption) | (with_reducible exact Ext.rfl' _) | (with_reducible exact Ext.new _ _) | (with_reducible refine Ext.alloc' ?_ _) | (with_reducible refine Ext.drew' ?_) | (with_reducible refine Ext.drewN' ?_ _) | (with_reducible refine Ext.set' ?_ ?_ _; rotate_left; (focus (first | omega | (simp; done) | (simp; omega)))) | (with_reducible refine Ext.then (b := ?_) ?_ ?_; rotate_left; rotate_left; (with_reducible assumption))))
              have hx2 : Ext w (wr.alloc (.cells #[.int .i64 y, .int .i64 m, .int .i64 d] 81)) := (hx.then hxr).then hx1
              by_cases hm : 1 ≤ m ∧ m ≤ 12
              · have hlv := hl m
                simp only [show lenV 2000 m = (lenM 2000 m, 0) from if_pos hm] at hlv
                have hlb := lenM_bd 2000 m
                obtain ⟨L, hL⟩ : ∃ L, lenM 2000 m = L := ⟨_, rfl⟩
                rw [hL] at hlv hlb
                dsimp only [two] at hlv
                by_cases hy : y = 0
                · by_cases hd1 : d < 1
                  · have hE2 : Hid (calE (ws, hs) = 1) := by show _ = _; rw [hE.out, ErrIf_f]; exact fun ⟨_, h⟩ => h q hltq (.inr (.inr (.inl (by rw [hg]; dsimp only; omega))))
                    subst hy
                    clear hE hno hz hm hL hg hl
                    go_wp2_with fail
                    refine RetP_at (hlv _) ?_
                    go_wp2_with fail
                    go_ret
                    exact ⟨ret_int hE2.out.symm, hx2⟩
                  · by_cases hd2 : L < d
                    · have hE2 : Hid (calE (ws, hs) = 1) := by show _ = _; rw [hE.out, ErrIf_f]; exact fun ⟨_, h⟩ => h q hltq (.inr (.inr (.inl (by rw [hg]; dsimp only; omega))))
                      subst hy
                      clear hE hno hz hm hL hg hl
                      go_wp2_with fail
                      refine RetP_at (hlv _) ?_
                      go_wp2_with fail
                      go_ret
                      exact ⟨ret_int hE2.out.symm, hx2⟩
                    · have hd : 1 ≤ d ∧ d ≤ L := by omega
                      have hkey : (0 < q ∧ laterB (y, m, d) (hs.getD (q - 1) (0, 0, 0)) = false) ↔ 100 * m + d ≤ z := by
                        by_cases h0 : q = 0
                        · have := hz.out.1 h0
                          constructor
                          · intro h; omega
                          · intro h; omega
                        · have hzz := hz.out.2 (by omega)
                          have hprev := hno.out (q - 1) (by omega)
                          unfold hBad at hprev
                          generalize hs.getD (q - 1) (0, 0, 0) = pv at *
                          obtain ⟨y', m', d'⟩ := pv
                          dsimp only at hprev hzz
                          have hlb2 := lenM_bd 2000 m'
                          have hd' : 1 ≤ d' ∧ d' ≤ lenM 2000 m' := Classical.byContradiction fun hn => hprev (.inr (.inr (.inl hn)))
                          rw [later_num (by omega) (by omega) (by omega) (by omega), hzz, decide_eq_false_iff_not]
                          omega
                      have w1' : IntKind.i64.wrap (100 * m) = 100 * m := by rw [IntKind.wrap_i64]; omega
                      have w2' : IntKind.i64.wrap (100 * m + d) = 100 * m + d := by rw [IntKind.wrap_i64]; omega
                      by_cases hle : 100 * m + d ≤ z
                      · have hE2 : Hid (calE (ws, hs) = 1) := by show _ = _; rw [hE.out, ErrIf_f]; exact fun ⟨_, h⟩ => h q hltq (.inr (.inr (.inr (by rw [hg]; exact hkey.2 hle))))
                        subst hy
                        clear hE hno hz hm hL hg hl hkey
                        go_wp2_with fail
                        refine RetP_at (hlv _) ?_
                        go_wp2_with fail
                        go_ret
                        exact ⟨ret_int hE2.out.symm, hx2⟩
                      · have hno2 : Hid (∀ j, j < q + 1 → ¬ hBad hs j) := by
                          intro j hj hbb
                          by_cases hjq : j = q
                          · subst hjq
                            rcases hbb with hbb | hbb | hbb | hbb
                            · rw [hg] at hbb; exact hbb hm
                            · rw [hg] at hbb; exact hbb hy
                            · rw [hg] at hbb; dsimp only at hbb; rw [hL] at hbb; exact hbb hd
                            · rw [hg] at hbb; exact hle (hkey.1 hbb)
                          · exact hno.out j (by omega) hbb
                        have hz2 : Hid ((q + 1 = 0 → 100 * m + d = 0) ∧ (0 < q + 1 → 100 * m + d = 100 * (hs.getD (q + 1 - 1) (0, 0, 0)).2.1 + (hs.getD (q + 1 - 1) (0, 0, 0)).2.2)) := by
                          refine ⟨fun h => by omega, fun _ => ?_⟩
                          rw [show q + 1 - 1 = q by omega, hg]
                        have hb1 : 0 ≤ 100 * m + d := by omega
                        have hb2 : 100 * m + d ≤ 1300 := by omega
                        subst hy
                        clear hno hz hm hL hg hl hkey
                        go_wp2_with fail
                        refine RetP_at (hlv _) ?_
                        go_wp2_with fail
                        go_roundw
                        case rel => exact ⟨q + 1, 100 * m + d, by omega, rfl, rfl, hno2, hz2, hb1, hb2, hx1⟩
                        case measure => simp [intOf]; omega
                · have hE2 : Hid (calE (ws, hs) = 1) := by show _ = _; rw [hE.out, ErrIf_f]; exact fun ⟨_, h⟩ => h q hltq (.inr (.inl (by rw [hg]; exact hy)))
                  have hy2 : (y != 0) = true := by rw [bne_iff_ne]; exact hy
                  clear hE hno hz hm hL hg hl hy
                  go_wp2_with fail
                  refine RetP_at (hlv _) ?_
                  go_wp2_with fail
                  go_ret
                  exact ⟨ret_int hE2.out.symm, hx2⟩
              · have hE2 : Hid (calE (ws, hs) = 1) := by show _ = _; rw [hE.out, ErrIf_f]; exact fun ⟨_, h⟩ => h q hltq (.inl (by rw [hg]; exact hm))
                have hlv := hl m
                simp only [show lenV 2000 m = (0, 1) from if_neg hm] at hlv
                dsimp only [two] at hlv
                clear hE hno hz hm hg hl
                go_wp2_with fail
                refine RetP_at (hlv _) ?_
                go_wp2_with fail
                go_ret
                exact ⟨ret_int hE2.out.symm, hx2⟩
            · have hE2 : Hid (calE (ws, hs) = 0) := by show _ = _; rw [hE.out, ErrIf_t]; exact ⟨hWO.out, fun j hj => hno.out j (by omega)⟩
              clear hE hno hz
              go_wp2_with fail
              go_ret
              exact ⟨ret_int hE2.out.symm, (hx.then hxr).then hxq⟩
end Go.Proofs.YtcmdekhhclgdcaaGreatDoor
