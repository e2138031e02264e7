/- package priorartref14: Check.; package priorartref14: Open.; package priorartref14: Next. -/
import Derived.Test.YtcmdekhhclgdcaaGreatDoorRefB
namespace Go.Proofs.YtcmdekhhclgdcaaGreatDoor
open Go.RowKit Go.Shelf
set_option linter.unusedSimpArgs false
set_option linter.unusedVariables false
set_option maxHeartbeats 1000000 in
theorem rcheck_c (c : Cal) (office day : Int) (v : Value) (w : World) (hr : CalR (ph w) v c) : Calls Tryz.prog 54 #[v, .int .i64 office, .int .i64 day] w (RetV w (.int .i64 (checkE c office day))) := by
  have hvc := fun w hr => rcalValid_c c v w hr
  have hE : Hid (checkE c office day = if calE c ≠ 0 then calE c else if ¬ (0 ≤ office ∧ office ≤ 11) then 1 else if ¬ (0 ≤ day ∧ day ≤ 131072) then 5 else 0) := rfl
  obtain ⟨a, b, rfl, hW, hH⟩ := id hr
  obtain ⟨wa, wc, rfl, wlen, -⟩ := hW.form
  obtain ⟨ha, hc, rfl, hlen, -⟩ := hH.form
  generalize calE c = ce at *
  by_cases h0 : ce = 0
  · subst h0
    have hE0 : Hid (checkE c office day = if ¬ (0 ≤ office ∧ office ≤ 11) then 1 else if ¬ (0 ≤ day ∧ day ≤ 131072) then 5 else 0) := by show _ = _; rw [hE.out]; simp only [ne_eq, not_true, if_false]
    clear hE
    by_cases h1 : office < 0
    · have hE2 : Hid (checkE c office day = 1) := by show _ = _; rw [hE0.out, if_pos (by omega)]
      clear hE0
      go_enter Tryz.func54, Tryz.ntmps54
      go_wp2_with fail
      refine RetV_at (hvc _ (hr.mono (Ext.ple (by repeat (first | (with_reducible assumption) | (with_reducible exact Ext.rfl' _) | (with_reducible exact Ext.new _ _) | (with_reducible refine Ext.alloc' ?_ _) | (with_reducible refine Ext.drew' ?_) | (with_reducible refine Ext.drewN' ?_ _) | (with_reducible refine Ext.set' ?_ ?_ _; rotate_left; (focus (first | omega | (simp; done) | (simp; omega)))) | (with_reducible refine Ext.then (b := ?_) ?_ ?_; rotate_left; rotate_left; (with_reducible assumption))))))) ?_
      intro w2 hx2
      have hx : Ext w w2 := (by repeat (first | (with_reducible assumption) | (with_reducible exact Ext.rfl' _) | (with_reducible exact Ext.new _ _) | (with_reducible refine Ext.alloc' ?_ _) | (with_reducible refine Ext.drew' ?_) | (with_reducible refine Ext.drewN' ?_ _) | (with_reducible refine Ext.set' ?_ ?_ _; rotate_left; (focus (first | omega | (simp; done) | (simp; omega)))) | (with_reducible refine Ext.then (b := ?_) ?_ ?_; rotate_left; rotate_left; (with_reducible assumption))))
      go_wp2_with fail
      go_ret
      exact ⟨ret_int hE2.out.symm, hx⟩
    · by_cases h2 : 11 < office
      · have hE2 : Hid (checkE c office day = 1) := by show _ = _; rw [hE0.out, if_pos (by omega)]
        clear hE0
        go_enter Tryz.func54, Tryz.ntmps54
        go_wp2_with fail
        refine RetV_at (hvc _ (hr.mono (Ext.ple (by repeat (first | (with_reducible assumption) | (with_reducible exact Ext.rfl' _) | (with_reducible exact Ext.new _ _) | (with_reducible refine Ext.alloc' ?_ _) | (with_reducible refine Ext.drew' ?_) | (with_reducible refine Ext.drewN' ?_ _) | (with_reducible refine Ext.set' ?_ ?_ _; rotate_left; (focus (first | omega | (simp; done) | (simp; omega)))) | (with_reducible refine Ext.then (b := ?_) ?_ ?_; rotate_left; rotate_left; (with_reducible assumption))))))) ?_
        intro w2 hx2
        have hx : Ext w w2 := (by repeat (first | (with_reducible assumption) | (with_reducible exact Ext.rfl' _) | (with_reducible exact Ext.new _ _) | (with_reducible refine Ext.alloc' ?_ _) | (with_reducible refine Ext.drew' ?_) | (with_reducible refine Ext.drewN' ?_ _) | (with_reducible refine Ext.set' ?_ ?_ _; rotate_left; (focus (first | omega | (simp; done) | (simp; omega)))) | (with_reducible refine Ext.then (b := ?_) ?_ ?_; rotate_left; rotate_left; (with_reducible assumption))))
        go_wp2_with fail
        go_ret
        exact ⟨ret_int hE2.out.symm, hx⟩
      · by_cases h3 : day < 0
        · have hE2 : Hid (checkE c office day = 5) := by show _ = _; rw [hE0.out, if_neg (by omega), if_pos (by omega)]
          clear hE0
          go_enter Tryz.func54, Tryz.ntmps54
          go_wp2_with fail
          refine RetV_at (hvc _ (hr.mono (Ext.ple (by repeat (first | (with_reducible assumption) | (with_reducible exact Ext.rfl' _) | (with_reducible exact Ext.new _ _) | (with_reducible refine Ext.alloc' ?_ _) | (with_reducible refine Ext.drew' ?_) | (with_reducible refine Ext.drewN' ?_ _) | (with_reducible refine Ext.set' ?_ ?_ _; rotate_left; (focus (first | omega | (simp; done) | (simp; omega)))) | (with_reducible refine Ext.then (b := ?_) ?_ ?_; rotate_left; rotate_left; (with_reducible assumption))))))) ?_
          intro w2 hx2
          have hx : Ext w w2 := (by repeat (first | (with_reducible assumption) | (with_reducible exact Ext.rfl' _) | (with_reducible exact Ext.new _ _) | (with_reducible refine Ext.alloc' ?_ _) | (with_reducible refine Ext.drew' ?_) | (with_reducible refine Ext.drewN' ?_ _) | (with_reducible refine Ext.set' ?_ ?_ _; rotate_left; (focus (first | omega | (simp; done) | (simp; omega)))) | (with_reducible refine Ext.then (b := ?_) ?_ ?_; rotate_left; rotate_left; (with_reducible assumption))))
          go_wp2_with fail
          go_ret
          exact ⟨ret_int hE2.out.symm, hx⟩
        · by_cases h4 : 131072 < day
          · have hE2 : Hid (checkE c office day = 5) := by show _ = _; rw [hE0.out, if_neg (by omega), if_pos (by omega)]
            clear hE0
            go_enter Tryz.func54, Tryz.ntmps54
            go_wp2_with fail
            refine RetV_at (hvc _ (hr.mono (Ext.ple (by repeat (first | (with_reducible assumption) | (with_reducible exact Ext.rfl' _) | (with_reducible exact Ext.new _ _) | (with_reducible refine Ext.alloc' ?_ _) | (with_reducible refine Ext.drew' ?_) | (with_reducible refine Ext.drewN' ?_ _) | (with_reducible refine Ext.set' ?_ ?_ _; rotate_left; (focus (first | omega | (simp; done) | (simp; omega)))) | (with_reducible refine Ext.then (b := ?_) ?_ ?_; rotate_left; rotate_left; (with_reducible assumption))))))) ?_
            intro w2 hx2
            have hx : Ext w w2 := (by repeat (first | (with_reducible assumption) | (with_reducible exact Ext.rfl' _) | (with_reducible exact Ext.new _ _) | (with_reducible refine Ext.alloc' ?_ _) | (with_reducible refine Ext.drew' ?_) | (with_reducible refine Ext.drewN' ?_ _) | (with_reducible refine Ext.set' ?_ ?_ _; rotate_left; (focus (first | omega | (simp; done) | (simp; omega)))) | (with_reducible refine Ext.then (b := ?_) ?_ ?_; rotate_left; rotate_left; (with_reducible assumption))))
            go_wp2_with fail
            go_ret
            exact ⟨ret_int hE2.out.symm, hx⟩
          · have hE2 : Hid (checkE c office day = 0) := by show _ = _; rw [hE0.out, if_neg (by omega), if_neg (by omega)]
            clear hE0
            go_enter Tryz.func54, Tryz.ntmps54
            go_wp2_with fail
            refine RetV_at (hvc _ (hr.mono (Ext.ple (by repeat (first | (with_reducible assumption) | (with_reducible exact Ext.rfl' _) | (with_reducible exact Ext.new _ _) | (with_reducible refine Ext.alloc' ?_ _) | (with_reducible refine Ext.drew' ?_) | (with_reducible refine Ext.drewN' ?_ _) | (with_reducible refine Ext.set' ?_ ?_ _; rotate_left; (focus (first | omega | (simp; done) | (simp; omega)))) | (with_reducible refine Ext.then (b := ?_) ?_ ?_; rotate_left; rotate_left; (with_reducible assumption))))))) ?_
            intro w2 hx2
            have hx : Ext w w2 := (by repeat (first | (with_reducible assumption) | (with_reducible exact Ext.rfl' _) | (with_reducible exact Ext.new _ _) | (with_reducible refine Ext.alloc' ?_ _) | (with_reducible refine Ext.drew' ?_) | (with_reducible refine Ext.drewN' ?_ _) | (with_reducible refine Ext.set' ?_ ?_ _; rotate_left; (focus (first | omega | (simp; done) | (simp; omega)))) | (with_reducible refine Ext.then (b := ?_) ?_ ?_; rotate_left; rotate_left; (with_reducible assumption))))
            go_wp2_with fail
            go_ret
            exact ⟨ret_int hE2.out.symm, hx⟩
  · have hE2 : Hid (checkE c office day = ce) := by show _ = _; rw [hE.out]; rw [if_pos h0]
    have hb : (ce != 0) = true := by rw [bne_iff_ne]; exact h0
    clear hE h0
    go_enter Tryz.func54, Tryz.ntmps54
    go_wp2_with fail
    refine RetV_at (hvc _ (hr.mono (Ext.ple (by repeat (first | (with_reducible assumption) | (with_reducible exact Ext.rfl' _) | (with_reducible exact Ext.new _ _) | (with_reducible refine Ext.alloc' ?_ _) | (with_reducible refine Ext.drew' ?_) | (with_reducible refine Ext.drewN' ?_ _) | (with_reducible refine Ext.set' ?_ ?_ _; rotate_left; (focus (first | omega | (simp; done) | (simp; omega)))) | (with_reducible refine Ext.then (b := ?_) ?_ ?_; rotate_left; rotate_left; (with_reducible assumption))))))) ?_
    intro w2 hx2
    have hx : Ext w w2 := (by repeat (first | (with_reducible assumption) | (with_reducible exact Ext.rfl' _) | (with_reducible exact Ext.new _ _) | (with_reducible refine Ext.alloc' ?_ _) | (with_reducible refine Ext.drew' ?_) | (with_reducible refine Ext.drewN' ?_ _) | (with_reducible refine Ext.set' ?_ ?_ _; rotate_left; (focus (first | omega | (simp; done) | (simp; omega)))) | (with_reducible refine Ext.then (b := ?_) ?_ ?_; rotate_left; rotate_left; (with_reducible assumption))))
    go_wp2_with fail
    go_ret
    exact ⟨ret_int hE2.out.symm, hx⟩
end Go.Proofs.YtcmdekhhclgdcaaGreatDoor
namespace Go.Proofs.YtcmdekhhclgdcaaGreatDoor
open Go.RowKit Go.Shelf
set_option linter.unusedSimpArgs false
set_option linter.unusedVariables false
set_option maxRecDepth 100000 in
set_option maxHeartbeats 2000000 in
theorem ropen_c (c : Cal) (xs : List Ac) (office day : Int) (v va : Value) (w : World) (hr : CalR (ph w) v c) (hA : ActsR (ph w) va xs) (h0 : 0 ≤ day) (h1 : day ≤ 131072) :
    Calls Tryz.prog 76 #[v, .int .i64 office, va, .int .i64 day] w (RetV w (.bool (opB c xs office day))) := by
  obtain ⟨ws, hs⟩ := c
  obtain ⟨a, b, rfl, hW, hH⟩ := hr
  obtain ⟨xa, xc, rfl, xlen, hA⟩ := hA.form
  have hhas := fun w hW => has_c ws (day % 7) a w hW
  obtain ⟨wa, wc, rfl, wlen, hW⟩ := hW.form
  obtain ⟨ha, hc, rfl, hlen, hH⟩ := hH.form
  dsimp only at hH hlen wlen hW
  have ho : Hid (opB (ws, hs) xs office day = (!(decide (day % 7 ∈ ws)) && (!(hs.any (hitB (dateV day))) && !(xs.any (shutB office day))))) := rfl
  have hDE : dateE day = (dateV day, 0) := if_pos ⟨h0, h1⟩
  have hdc := fun w => rdate_c day w
  unfold DateP at hdc
  simp only [hDE] at hdc
  generalize dateV day = dv at *
  clear hDE
  have hm7 : day.tmod 7 = day % 7 := tmod_eq h0 (by omega)
  cases e1 : decide (day % 7 ∈ ws) with
  | true =>
    rw [e1] at ho
    simp only [e1] at hhas
    clear e1
    go_enter Tryz.func76, Tryz.ntmps76
    go_wp2_with fail
    refine RetP_at (hhas _ (hW.mono mono_IntR (Ext.ple (by repeat (first | (with_reducible assumption) | (with_reducible exact Ext.rfl' _) | (with_reducible exact Ext.new _ _) | (with_reducible refine Ext.alloc' ?_ _) | (with_reducible refine Ext.drew' ?_) | (with_reducible refine Ext.drewN' ?_ _) | (with_reducible refine Ext.set' ?_ ?_ _; rotate_left; (focus (first | omega | (simp; done) | (simp; omega)))) | (with_reducible refine Ext.then (b := ?_) ?_ ?_; rotate_left; rotate_left; (with_reducible assumption))))))) ?_
    go_wp2_with fail
    go_ret
    exact ⟨ret_bool (by rw [ho.out]; rfl), (by repeat (first | (with_reducible assumption) | (with_reducible exact Ext.rfl' _) | (with_reducible exact Ext.new _ _) | (with_reducible refine Ext.alloc' ?_ _) | (with_reducible refine Ext.drew' ?_) | (with_reducible refine Ext.drewN' ?_ _) | (with_reducible refine Ext.set' ?_ ?_ _; rotate_left; (focus (first | omega | (simp; done) | (simp; omega)))) | (with_reducible refine Ext.then (b := ?_) ?_ ?_; rotate_left; rotate_left; (with_reducible assumption))))⟩
  | false =>
    rw [e1] at ho
    simp only [e1] at hhas
    clear e1
    go_enter Tryz.func76, Tryz.ntmps76
    go_wp2_with fail
    refine RetP_at (hhas _ (hW.mono mono_IntR (Ext.ple (by repeat (first | (with_reducible assumption) | (with_reducible exact Ext.rfl' _) | (with_reducible exact Ext.new _ _) | (with_reducible refine Ext.alloc' ?_ _) | (with_reducible refine Ext.drew' ?_) | (with_reducible refine Ext.drewN' ?_ _) | (with_reducible refine Ext.set' ?_ ?_ _; rotate_left; (focus (first | omega | (simp; done) | (simp; omega)))) | (with_reducible refine Ext.then (b := ?_) ?_ ?_; rotate_left; rotate_left; (with_reducible assumption))))))) ?_
    go_wp2_with fail
    refine (hdc _).mono ?_
    rintro e w2 ⟨rfl, hx2⟩
    dsimp only
    go_wp2_with fail
    have hD := Own.new w2 #[.int .i64 dv.1, .int .i64 dv.2.1, .int .i64 dv.2.2] 81
    have hO := ((Own.new w #[.slice wa ws.length wc, .slice ha hs.length hc] 53).keep hx2).alloc (.cells #[.int .i64 dv.1, .int .i64 dv.2.1, .int .i64 dv.2.2] 81)
    have hx : Ext w (w2.alloc (.cells #[.int .i64 dv.1, .int .i64 dv.2.1, .int .i64 dv.2.2] 81)) := (by repeat (first | (with_reducible assumption) | (with_reducible exact Ext.rfl' _) | (with_reducible exact Ext.new _ _) | (with_reducible refine Ext.alloc' ?_ _) | (with_reducible refine Ext.drew' ?_) | (with_reducible refine Ext.drewN' ?_ _) | (with_reducible refine Ext.set' ?_ ?_ _; rotate_left; (focus (first | omega | (simp; done) | (simp; omega)))) | (with_reducible refine Ext.then (b := ?_) ?_ ?_; rotate_left; rotate_left; (with_reducible assumption))))
    generalize w2.alloc _ = W at *
    have hH' := hH.mono mono_DateR hx.ple
    go_loopw [12] (fun i wr => ∃ k : Nat, k ≤ hs.length ∧ i = .int .i64 k ∧ Hid (∀ x ∈ hs.take k, hitB dv x = false) ∧ Ext W wr) (fun i _ => hs.length - (intOf i).toNat)
    case atStart => exact ⟨0, by omega, rfl, Lib.hid (by simp), Ext.rfl' _⟩
    case round =>
      obtain ⟨k, hk, rfl, hno, hxr⟩ := hrel
      obtain ⟨oc, of⟩ := (hO.keep hxr).facts
      have ol := (hO.keep hxr).lt
      obtain ⟨dc, df⟩ := (hD.keep hxr).facts
      have dl := (hD.keep hxr).lt
      by_cases hlt : k < hs.length
      · obtain ⟨gb, go, rfl, gc0, gc1, gc2, gl, -, -, -⟩ := DatesR.at (hH'.mono mono_DateR hxr.ple) k hlt
        have hyes : hitB dv hs[k] = true → hs.any (hitB dv) = true := fun h => List.any_eq_true.2 ⟨_, List.getElem_mem hlt, h⟩
        have hno' : hitB dv hs[k] = false → Hid (∀ x ∈ hs.take (k + 1), hitB dv x = false) := fun h => Lib.hid (take_all (p := fun x => hitB dv x = false) hlt h hno.out)
        generalize hs[k] = x at *
        obtain ⟨y, m, e⟩ := x
        dsimp only at gc0 gc1 gc2
        by_cases hm : m = dv.2.1
        · have bm : (m == dv.2.1) = true := by rw [beq_iff_eq]; exact hm
          by_cases he : e = dv.2.2
          · have hr := Lib.hid (hyes (by simp [hitB, hm, he]))
            have be : (e == dv.2.2) = true := by rw [beq_iff_eq]; exact he
            clear hyes hno' hno hm he
            go_wp2_with fail
            (refine wp_region_I 20 (by kernel_rfl) (by kernel_rfl) ?_; simp only [List.toList_toArray, List.take_succ_cons, List.take_zero, List.drop_succ_cons, List.drop_zero])
            (repeat (first | (refine walkI_no rfl (by simp) rfl rfl rfl ?_ ?_; (focus (simp [undef]; done)); (try simp only [List.nil_append, List.cons_append])) | (refine walkI_is (u := ?_) rfl (by simp) rfl ?_ ?_; rotate_left; (focus (intro A w' hS hA K hK; (simp only [List.map_cons, List.map_nil, knows, Is, Op.operands, Call.operands, List.lookup_cons, List.lookup_nil, Nat.reduceBEq, Bool.false_eq_true, if_false, if_true, Act.eval, Array.getD_eq_getD_getElem?, List.getElem?_toArray, List.getElem?_cons_succ, List.getElem?_cons_zero, Option.getD_some, and_true, true_and, List.append_toArray, List.nil_append, List.cons_append, List.toList_toArray, Array.toList_append, Option.toArray, List.append_nil] at hA); first | fail | (obtain ⟨hSc, hSf, hSs⟩ := hS.cells; go_simp; exact hK _ (by repeat (first | (with_reducible assumption) | (with_reducible exact Ext.rfl' _) | (with_reducible exact Ext.new _ _) | (with_reducible refine Ext.alloc' ?_ _) | (with_reducible refine Ext.drew' ?_) | (with_reducible refine Ext.drewN' ?_ _) | (with_reducible refine Ext.set' ?_ ?_ _; rotate_left; (focus (first | omega | (simp; done) | (simp; omega)))) | (with_reducible refine Ext.then (b := ?_) ?_ ?_; rotate_left; rotate_left; (with_reducible assumption))))))); (try simp only [List.nil_append, List.cons_append])) | (refine walkI_yesis (u := ?_) rfl (by simp) rfl rfl rfl ?_ ?_; rotate_left; (focus (intro A w' hS hA K hK; (simp only [List.map_cons, List.map_nil, knows, Is, Op.operands, Call.operands, List.lookup_cons, List.lookup_nil, Nat.reduceBEq, Bool.false_eq_true, if_false, if_true, Act.eval, Array.getD_eq_getD_getElem?, List.getElem?_toArray, List.getElem?_cons_succ, List.getElem?_cons_zero, Option.getD_some, and_true, true_and, List.append_toArray, List.nil_append, List.cons_append, List.toList_toArray, Array.toList_append, Option.toArray, List.append_nil] at hA); first | fail | (obtain ⟨hSc, hSf, hSs⟩ := hS.cells; go_simp; exact hK _ (by repeat (first | (with_reducible assumption) | (with_reducible exact Ext.rfl' _) | (with_reducible exact Ext.new _ _) | (with_reducible refine Ext.alloc' ?_ _) | (with_reducible refine Ext.drew' ?_) | (with_reducible refine Ext.drewN' ?_ _) | (with_reducible refine Ext.set' ?_ ?_ _; rotate_left; (focus (first | omega | (simp; done) | (simp; omega)))) | (with_reducible refine Ext.then (b := ?_) ?_ ?_; rotate_left; rotate_left; (with_reducible assumption))))))); (try simp only [List.nil_append, List.cons_append]))))
            (refine walkI_nil ?_; simp only [List.nil_append, List.cons_append, fins, Is, forall_eq, Act.put, List.setIfInBounds_toArray, List.set_cons_zero, List.set_cons_succ])
            rintro w5 hx5
            have hx6 := (hx.then hxr).then hx5
            go_wp2_with fail
            go_ret
            exact ⟨ret_bool (by rw [ho.out, hr.out]; rfl), hx6⟩
          · have hr := hno' (by simp [hitB, hm, he])
            have be : (e == dv.2.2) = false := by rw [beq_eq_false_iff_ne]; exact he
            clear hyes hno' hno hm he
            go_wp2_with fail
            (refine wp_region_I 20 (by kernel_rfl) (by kernel_rfl) ?_; simp only [List.toList_toArray, List.take_succ_cons, List.take_zero, List.drop_succ_cons, List.drop_zero])
            (repeat (first | (refine walkI_no rfl (by simp) rfl rfl rfl ?_ ?_; (focus (simp [undef]; done)); (try simp only [List.nil_append, List.cons_append])) | (refine walkI_is (u := ?_) rfl (by simp) rfl ?_ ?_; rotate_left; (focus (intro A w' hS hA K hK; (simp only [List.map_cons, List.map_nil, knows, Is, Op.operands, Call.operands, List.lookup_cons, List.lookup_nil, Nat.reduceBEq, Bool.false_eq_true, if_false, if_true, Act.eval, Array.getD_eq_getD_getElem?, List.getElem?_toArray, List.getElem?_cons_succ, List.getElem?_cons_zero, Option.getD_some, and_true, true_and, List.append_toArray, List.nil_append, List.cons_append, List.toList_toArray, Array.toList_append, Option.toArray, List.append_nil] at hA); first | fail | (obtain ⟨hSc, hSf, hSs⟩ := hS.cells; go_simp; exact hK _ (by repeat (first | (with_reducible assumption) | (with_reducible exact Ext.rfl' _) | (with_reducible exact Ext.new _ _) | (with_reducible refine Ext.alloc' ?_ _) | (with_reducible refine Ext.drew' ?_) | (with_reducible refine Ext.drewN' ?_ _) | (with_reducible refine Ext.set' ?_ ?_ _; rotate_left; (focus (first | omega | (simp; done) | (simp; omega)))) | (with_reducible refine Ext.then (b := ?_) ?_ ?_; rotate_left; rotate_left; (with_reducible assumption))))))); (try simp only [List.nil_append, List.cons_append])) | (refine walkI_yesis (u := ?_) rfl (by simp) rfl rfl rfl ?_ ?_; rotate_left; (focus (intro A w' hS hA K hK; (simp only [List.map_cons, List.map_nil, knows, Is, Op.operands, Call.operands, List.lookup_cons, List.lookup_nil, Nat.reduceBEq, Bool.false_eq_true, if_false, if_true, Act.eval, Array.getD_eq_getD_getElem?, List.getElem?_toArray, List.getElem?_cons_succ, List.getElem?_cons_zero, Option.getD_some, and_true, true_and, List.append_toArray, List.nil_append, List.cons_append, List.toList_toArray, Array.toList_append, Option.toArray, List.append_nil] at hA); first | fail | (obtain ⟨hSc, hSf, hSs⟩ := hS.cells; go_simp; exact hK _ (by repeat (first | (with_reducible assumption) | (with_reducible exact Ext.rfl' _) | (with_reducible exact Ext.new _ _) | (with_reducible refine Ext.alloc' ?_ _) | (with_reducible refine Ext.drew' ?_) | (with_reducible refine Ext.drewN' ?_ _) | (with_reducible refine Ext.set' ?_ ?_ _; rotate_left; (focus (first | omega | (simp; done) | (simp; omega)))) | (with_reducible refine Ext.then (b := ?_) ?_ ?_; rotate_left; rotate_left; (with_reducible assumption))))))); (try simp only [List.nil_append, List.cons_append]))))
            (refine walkI_nil ?_; simp only [List.nil_append, List.cons_append, fins, Is, forall_eq, Act.put, List.setIfInBounds_toArray, List.set_cons_zero, List.set_cons_succ])
            rintro w5 hx5
            go_wp2_with fail
            go_roundw
            case rel => exact ⟨k + 1, by omega, rfl, hr, hxr.then hx5⟩
            case measure => simp [intOf]; omega
        · have hr := hno' (by simp [hitB, hm])
          have bm : (m == dv.2.1) = false := by rw [beq_eq_false_iff_ne]; exact hm
          clear hyes hno' hno hm
          go_wp2_with fail
          (refine wp_region_I 20 (by kernel_rfl) (by kernel_rfl) ?_; simp only [List.toList_toArray, List.take_succ_cons, List.take_zero, List.drop_succ_cons, List.drop_zero])
          (repeat (first | (refine walkI_no rfl (by simp) rfl rfl rfl ?_ ?_; (focus (simp [undef]; done)); (try simp only [List.nil_append, List.cons_append])) | (refine walkI_is (u := ?_) rfl (by simp) rfl ?_ ?_; rotate_left; (focus (intro A w' hS hA K hK; (simp only [List.map_cons, List.map_nil, knows, Is, Op.operands, Call.operands, List.lookup_cons, List.lookup_nil, Nat.reduceBEq, Bool.false_eq_true, if_false, if_true, Act.eval, Array.getD_eq_getD_getElem?, List.getElem?_toArray, List.getElem?_cons_succ, List.getElem?_cons_zero, Option.getD_some, and_true, true_and, List.append_toArray, List.nil_append, List.cons_append, List.toList_toArray, Array.toList_append, Option.toArray, List.append_nil] at hA); first | fail | (obtain ⟨hSc, hSf, hSs⟩ := hS.cells; go_simp; exact hK _ (by repeat (first | (with_reducible assumption) | (with_reducible exact Ext.rfl' _) | (with_reducible exact Ext.new _ _) | (with_reducible refine Ext.alloc' ?_ _) | (with_reducible refine Ext.drew' ?_) | (with_reducible refine Ext.drewN' ?_ _) | (with_reducible refine Ext.set' ?_ ?_ _; rotate_left; (focus (first | omega | (simp; done) | (simp; omega)))) | (with_reducible refine Ext.then (b := ?_) ?_ ?_; rotate_left; rotate_left; (with_reducible assumption))))))); (try simp only [List.nil_append, List.cons_append])) | (refine walkI_yesis (u := ?_) rfl (by simp) rfl rfl rfl ?_ ?_; rotate_left; (focus (intro A w' hS hA K hK; (simp only [List.map_cons, List.map_nil, knows, Is, Op.operands, Call.operands, List.lookup_cons, List.lookup_nil, Nat.reduceBEq, Bool.false_eq_true, if_false, if_true, Act.eval, Array.getD_eq_getD_getElem?, List.getElem?_toArray, List.getElem?_cons_succ, List.getElem?_cons_zero, Option.getD_some, and_true, true_and, List.append_toArray, List.nil_append, List.cons_append, List.toList_toArray, Array.toList_append, Option.toArray, List.append_nil] at hA); first | fail | (obtain ⟨hSc, hSf, hSs⟩ := hS.cells; go_simp; exact hK _ (by repeat (first | (with_reducible assumption) | (with_reducible exact Ext.rfl' _) | (with_reducible exact Ext.new _ _) | (with_reducible refine Ext.alloc' ?_ _) | (with_reducible refine Ext.drew' ?_) | (with_reducible refine Ext.drewN' ?_ _) | (with_reducible refine Ext.set' ?_ ?_ _; rotate_left; (focus (first | omega | (simp; done) | (simp; omega)))) | (with_reducible refine Ext.then (b := ?_) ?_ ?_; rotate_left; rotate_left; (with_reducible assumption))))))); (try simp only [List.nil_append, List.cons_append]))))
          (refine walkI_nil ?_; simp only [List.nil_append, List.cons_append, fins, Is, forall_eq, Act.put, List.setIfInBounds_toArray, List.set_cons_zero, List.set_cons_succ])
          rintro w5 hx5
          go_wp2_with fail
          go_roundw
          case rel => exact ⟨k + 1, by omega, rfl, hr, hxr.then hx5⟩
          case measure => simp [intOf]; omega
      · have hr : hs.any (hitB dv) = false := by
          rw [List.any_eq_false]
          intro x hx
          have := take_done (p := fun x => hitB dv x = false) (by omega) hno.out x hx
          simp [this]
        have ho2 : Hid (opB (ws, hs) xs office day = !(xs.any (shutB office day))) := by show _ = _; rw [ho.out, hr]; rfl
        have hxW : Ext w wr := hx.then hxr
        have hA' := hA.mono mono_ActR hxW.ple
        clear hno ho hr
        generalize wr = V at *
        go_wp2_with fail
        go_loopw [13] (fun i wr => ∃ k : Nat, k ≤ xs.length ∧ i = .int .i64 k ∧ Hid (∀ x ∈ xs.take k, shutB office day x = false) ∧ wr = V) (fun i _ => xs.length - (intOf i).toNat)
        case atStart => exact ⟨0, by omega, rfl, Lib.hid (by simp), rfl⟩
        case round =>
          obtain ⟨n, hn, rfl, hno, rfl⟩ := hrel
          by_cases hlt2 : n < xs.length
          · (obtain ⟨gb, go, rfl, g0, g1, g2, g3, g4, g5, g6, g7, g8, g9, g10, g11, g12, g13, g14, g15, g16, g17, g18, gl, gi⟩ := ActsR.at hA' n hlt2)
            have hyes : shutB office day xs[n] = true → xs.any (shutB office day) = true := fun h => List.any_eq_true.2 ⟨_, List.getElem_mem hlt2, h⟩
            have hno' : shutB office day xs[n] = false → Hid (∀ x ∈ xs.take (n + 1), shutB office day x = false) := fun h => Lib.hid (take_all (p := fun x => shutB office day x = false) hlt2 h hno.out)
            clear gi hno g2 g3 g5 g6 g8 g9 g10 g11 g12 g13 g14 g15 g16 g17 g18
            generalize xs[n] = x at *
            by_cases h1 : x.kind = 20
            · have b1 : (x.kind == 20) = true := by rw [beq_iff_eq]; exact h1
              by_cases h2 : x.office = office
              · have b2 : (x.office == office) = true := by rw [beq_iff_eq]; exact h2
                by_cases h3 : x.day ≤ day
                · have b3 : decide (x.day ≤ day) = true := by simpa using h3
                  by_cases h4 : day ≤ x.number
                  · have b4 : decide (day ≤ x.number) = true := by simpa using h4
                    have hr := Lib.hid (hyes (by unfold shutB inB; rw [b1, b2, b3, b4]; rfl))
                    clear hyes hno' h1 h2
                    go_wp2_with fail
                    go_ret
                    exact ⟨ret_bool (by rw [ho2.out, hr.out]; rfl), hxW⟩
                  · have b4 : decide (day ≤ x.number) = false := by simpa using h4
                    have hr := hno' (by unfold shutB inB; rw [b4]; simp)
                    clear hyes hno' h1 h2
                    go_wp2_with fail
                    go_roundw
                    case rel => exact ⟨n + 1, by omega, rfl, hr, trivial⟩
                    case measure => simp [intOf]; omega
                · have b3 : decide (x.day ≤ day) = false := by simpa using h3
                  have hr := hno' (by unfold shutB inB; rw [b3]; simp)
                  clear hyes hno' h1 h2
                  go_wp2_with fail
                  go_roundw
                  case rel => exact ⟨n + 1, by omega, rfl, hr, trivial⟩
                  case measure => simp [intOf]; omega
              · have b2 : (x.office == office) = false := by rw [beq_eq_false_iff_ne]; exact h2
                have hr := hno' (by unfold shutB; rw [b2]; simp)
                clear hyes hno' h1 h2
                go_wp2_with fail
                go_roundw
                case rel => exact ⟨n + 1, by omega, rfl, hr, trivial⟩
                case measure => simp [intOf]; omega
            · have b1 : (x.kind == 20) = false := by rw [beq_eq_false_iff_ne]; exact h1
              have hr := hno' (by unfold shutB; rw [b1]; simp)
              clear hyes hno' h1
              go_wp2_with fail
              go_roundw
              case rel => exact ⟨n + 1, by omega, rfl, hr, trivial⟩
              case measure => simp [intOf]; omega
          · have hr : Hid (xs.any (shutB office day) = false) := by
              show _ = _
              rw [List.any_eq_false]
              intro x hx
              have := take_done (p := fun x => shutB office day x = false) (by omega) hno.out x hx
              simp [this]
            clear hno
            go_wp2_with fail
            go_ret
            exact ⟨ret_bool (by rw [ho2.out, hr.out]; rfl), hxW⟩
end Go.Proofs.YtcmdekhhclgdcaaGreatDoor
namespace Go.Proofs.YtcmdekhhclgdcaaGreatDoor
open Go.RowKit Go.Shelf
set_option linter.unusedSimpArgs false
set_option linter.unusedVariables false
set_option maxHeartbeats 1000000 in
theorem rnext_c (c : Cal) (xs : List Ac) (office day : Int) (v va : Value) (w : World) (hr : CalR (ph w) v c) (hA : ActsR (ph w) va xs) :
    Calls Tryz.prog 58 #[v, .int .i64 office, va, .int .i64 day] w (RetV w (two (nextE c xs office day).1 (nextE c xs office day).2)) := by
  have hcc := fun w hr => rcheck_c c office day v w hr
  have hop := fun n w hr hA h1 h2 => ropen_c c xs office n v va w hr hA h1 h2
  have hE : Hid (nextE c xs office day = if checkE c office day = 0 then nextF (opB c xs office) 4096 day else (0, checkE c office day)) := rfl
  have hok := fun h => checkE_ok (c := c) (office := office) (day := day) h
  obtain ⟨a, b, rfl, hW, hH⟩ := id hr
  obtain ⟨wa, wc, rfl, wlen, -⟩ := hW.form
  obtain ⟨ha, hc, rfl, hlen, -⟩ := hH.form
  obtain ⟨xa, xc, rfl, xlen, -⟩ := hA.form
  generalize checkE c office day = ce at *
  by_cases h0 : ce = 0
  · obtain ⟨k0, -, k1, k2⟩ := hok h0
    subst h0
    have hE2 : Hid (nextE c xs office day = nextF (opB c xs office) 4096 day) := hE.out
    clear hE hok
    go_enter Tryz.func58, Tryz.ntmps58
    go_wp2_with fail
    refine RetV_at (hcc _ (hr.mono (Ext.ple (by repeat (first | (with_reducible assumption) | (with_reducible exact Ext.rfl' _) | (with_reducible exact Ext.new _ _) | (with_reducible refine Ext.alloc' ?_ _) | (with_reducible refine Ext.drew' ?_) | (with_reducible refine Ext.drewN' ?_ _) | (with_reducible refine Ext.set' ?_ ?_ _; rotate_left; (focus (first | omega | (simp; done) | (simp; omega)))) | (with_reducible refine Ext.then (b := ?_) ?_ ?_; rotate_left; rotate_left; (with_reducible assumption))))))) ?_
    intro w2 hx2
    have hx : Ext w w2 := (by repeat (first | (with_reducible assumption) | (with_reducible exact Ext.rfl' _) | (with_reducible exact Ext.new _ _) | (with_reducible refine Ext.alloc' ?_ _) | (with_reducible refine Ext.drew' ?_) | (with_reducible refine Ext.drewN' ?_ _) | (with_reducible refine Ext.set' ?_ ?_ _; rotate_left; (focus (first | omega | (simp; done) | (simp; omega)))) | (with_reducible refine Ext.then (b := ?_) ?_ ?_; rotate_left; rotate_left; (with_reducible assumption))))
    have hO := (Own.new w #[.slice wa c.1.length wc, .slice ha c.2.length hc] 53).keep hx2
    clear hcc
    go_wp2_with fail
    generalize opB c xs office = p at *
    go_loopw [11] (fun i wr => ∃ k : Nat, k ≤ 4096 ∧ day + k ≤ 131073 ∧ i = .int .i64 (day + k) ∧ Hid (nextF p 4096 day = nextF p (4096 - k) (day + k)) ∧ Ext w2 wr) (fun i _ => 140000 - (intOf i).toNat)
    case atStart => exact ⟨0, by omega, by omega, by congr 1; omega, Lib.hid (by simp), Ext.rfl' _⟩
    case round =>
      obtain ⟨k, hk, hk2, rfl, hn, hxr⟩ := hrel
      obtain ⟨oc, of⟩ := (hO.keep hxr).facts
      have hxW : Ext w wr := hx.then hxr
      by_cases hd : day + k ≤ 131072
      · by_cases hlt : k < 4096
        · have hn2 : Hid (nextF p 4096 day = if p (day + k) then (day + k, 0) else nextF p (4096 - (k + 1)) (day + (k + 1 : Nat))) := by
            show _ = _
            rw [hn.out, show 4096 - k = (4096 - (k + 1)) + 1 by omega, nextF, if_neg (by omega), show day + ((k + 1 : Nat) : Int) = day + k + 1 by omega]
          have hop2 := hop (day + k) wr (hr.mono hxW.ple) (hA.mono mono_ActR hxW.ple) (by omega) hd
          have hb : (day + (k : Int) == day + 4096) = false := by rw [beq_eq_false_iff_ne]; omega
          obtain ⟨q, hq⟩ : ∃ q, p (day + k) = q := ⟨_, rfl⟩
          rw [hq] at hop2
          cases q with
          | true =>
            have hE3 : Hid (nextE c xs office day = (day + k, 0)) := by show _ = _; rw [hE2.out, hn2.out, hq]; rfl
            clear hn2 hE2 hop hq hn
            go_wp2_with fail
            refine RetV_at hop2 ?_
            intro w6 hx6
            go_wp2_with fail
            go_ret2
            rw [hE3.out]
            exact ⟨rfl, hxW.then hx6⟩
          | false =>
            have hn3 : Hid (nextF p 4096 day = nextF p (4096 - (k + 1)) (day + (k + 1 : Nat))) := by show _ = _; rw [hn2.out, hq]; rfl
            clear hn2 hop hq hn
            go_wp2_with fail
            refine RetV_at hop2 ?_
            intro w6 hx6
            go_wp2_with fail
            go_roundw
            case rel => exact ⟨k + 1, by omega, by omega, by congr 1; omega, hn3, hxr.then hx6⟩
            case measure => simp [intOf]; omega
        · obtain rfl : k = 4096 := by omega
          have hE3 : Hid (nextE c xs office day = (0, 4)) := by show _ = _; rw [hE2.out, hn.out]; rfl
          have hb : (day + ((4096 : Nat) : Int) == day + 4096) = true := by rw [beq_iff_eq]; omega
          clear hn hE2 hop
          go_wp2_with fail
          go_ret2
          rw [hE3.out]
          exact ⟨rfl, hxW⟩
      · by_cases hlt : day ≤ 126977
        · obtain rfl : k = 4096 := by omega
          have hE3 : Hid (nextE c xs office day = (0, 4)) := by show _ = _; rw [hE2.out, hn.out]; rfl
          clear hn hE2 hop
          go_wp2_with fail
          go_ret2
          rw [hE3.out]
          exact ⟨rfl, hxW⟩
        · have hE3 : Hid (nextE c xs office day = (0, 5)) := by
            show _ = _
            rw [hE2.out, hn.out, show 4096 - k = (4096 - (k + 1)) + 1 by omega, nextF, if_pos (by omega)]
          clear hn hE2 hop
          go_wp2_with fail
          go_ret2
          rw [hE3.out]
          exact ⟨rfl, hxW⟩
  · have hE2 : Hid (nextE c xs office day = (0, ce)) := by show _ = _; rw [hE.out, if_neg h0]
    have hb : (ce != 0) = true := by rw [bne_iff_ne]; exact h0
    clear hE h0 hok hop
    go_enter Tryz.func58, Tryz.ntmps58
    go_wp2_with fail
    refine RetV_at (hcc _ (hr.mono (Ext.ple (by repeat (first | (with_reducible assumption) | (with_reducible exact Ext.rfl' _) | (with_reducible exact Ext.new _ _) | (with_reducible refine Ext.alloc' ?_ _) | (with_reducible refine Ext.drew' ?_) | (with_reducible refine Ext.drewN' ?_ _) | (with_reducible refine Ext.set' ?_ ?_ _; rotate_left; (focus (first | omega | (simp; done) | (simp; omega)))) | (with_reducible refine Ext.then (b := ?_) ?_ ?_; rotate_left; rotate_left; (with_reducible assumption))))))) ?_
    intro w2 hx2
    have hx : Ext w w2 := (by repeat (first | (with_reducible assumption) | (with_reducible exact Ext.rfl' _) | (with_reducible exact Ext.new _ _) | (with_reducible refine Ext.alloc' ?_ _) | (with_reducible refine Ext.drew' ?_) | (with_reducible refine Ext.drewN' ?_ _) | (with_reducible refine Ext.set' ?_ ?_ _; rotate_left; (focus (first | omega | (simp; done) | (simp; omega)))) | (with_reducible refine Ext.then (b := ?_) ?_ ?_; rotate_left; rotate_left; (with_reducible assumption))))
    go_wp2_with fail
    go_ret2
    rw [hE2.out]
    exact ⟨rfl, hx⟩
end Go.Proofs.YtcmdekhhclgdcaaGreatDoor
