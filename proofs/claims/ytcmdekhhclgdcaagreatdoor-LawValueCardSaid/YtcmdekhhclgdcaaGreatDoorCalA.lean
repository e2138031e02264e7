/- package calendar: in, later; the values of calendars.; package calendar: Valid.; acts: their values. -/
import Derived.Test.YtcmdekhhclgdcaaGreatDoorRefA
import Derived.Laws.Rows
namespace Go.Proofs.YtcmdekhhclgdcaaGreatDoor
open Go.RowKit Go.Shelf
set_option linter.unusedSimpArgs false
set_option linter.unusedVariables false
abbrev Dat := Int × Int × Int
abbrev datC (d : Dat) : List Value := [.int .i64 d.1, .int .i64 d.2.1, .int .i64 d.2.2]
abbrev datA (d : Dat) : Value := .agg #[.int .i64 d.1, .int .i64 d.2.1, .int .i64 d.2.2]
def DateR (_ : PH) (cs : List Value) (d : Dat) : Prop := cs = datC d ∧ I64 d.1 ∧ I64 d.2.1 ∧ I64 d.2.2
theorem mono_DateR : Mono DateR := fun _ _ _ _ _ h => h
abbrev DatesR : PH → Value → List Dat → Prop := SliceRep DateR 3
theorem DatesR.at {w : World} {a : Option Addr} {n cap : Nat} {xs : List Dat} (hr : DatesR (ph w) (.slice a n cap) xs) (k : Nat) (hk : k < xs.length) :
    ∃ b o, a = some ⟨b, o, none⟩ ∧ w.cell? ⟨b, o + k * 3, none⟩ = some (.int .i64 xs[k].1) ∧ w.cell? ⟨b, o + k * 3 + 1, none⟩ = some (.int .i64 xs[k].2.1) ∧ w.cell? ⟨b, o + k * 3 + 2, none⟩ = some (.int .i64 xs[k].2.2) ∧
      b < w.heap.size ∧ I64 xs[k].1 ∧ I64 xs[k].2.1 ∧ I64 xs[k].2.2 := by
  obtain ⟨b, o, c, d, e, h1, h2, h3, h4, h5, h6⟩ := hr.get3 k hk
  obtain ⟨q1, q2, q3⟩ : c = .int .i64 xs[k].1 ∧ d = .int .i64 xs[k].2.1 ∧ e = .int .i64 xs[k].2.2 := by simpa [datC] using h5
  subst q1 q2 q3
  exact ⟨b, o, h1, h2, h3, h4, cell_lt h2, h6⟩
abbrev Cal := List Int × List Dat
def CalR (h : PH) (v : Value) (c : Cal) : Prop := ∃ a b, v = .agg #[a, b] ∧ IntsR h a c.1 ∧ DatesR h b c.2
theorem CalR.mono {h h' : PH} {v : Value} {c : Cal} (hr : CalR h v c) (hl : PLe h h') : CalR h' v c := by
  obtain ⟨a, b, h1, h2, h3⟩ := hr
  exact ⟨a, b, h1, h2.mono mono_IntR hl, h3.mono mono_DateR hl⟩
theorem calIn_c (n lo hi : Int) (w : World) : Calls Tryz.prog 65 #[.int .i64 n, .int .i64 lo, .int .i64 hi] w (RetP w (.bool (inB n lo hi))) := by
  by_cases h1 : lo ≤ n
  · by_cases h2 : n ≤ hi
    · have h := inB_t ⟨h1, h2⟩
      rw [h]; clear h
      go_enter Tryz.func65, Tryz.ntmps65
      go_wp2_with fail
      go_ret
      exact ⟨rfl, rfl⟩
    · have h : inB n lo hi = false := inB_f (by omega)
      rw [h]; clear h
      go_enter Tryz.func65, Tryz.ntmps65
      go_wp2_with fail
      go_ret
      exact ⟨rfl, rfl⟩
  · have h : inB n lo hi = false := inB_f (by omega)
    rw [h]; clear h
    have hd : decide (lo ≤ n) = false := by simpa using h1
    go_enter Tryz.func65, Tryz.ntmps65
    go_wp2_with fail
    go_ret
    exact ⟨rfl, rfl⟩
def laterB (a b : Dat) : Bool := decide (b.2.1 < a.2.1) || (a.2.1 == b.2.1 && decide (b.2.2 < a.2.2))
theorem later_c (a b : Dat) (w : World) : Calls Tryz.prog 78 #[datA a, datA b] w (RetV w (.bool (laterB a b))) := by
  obtain ⟨a0, a1, a2⟩ := a
  obtain ⟨b0, b1, b2⟩ := b
  have hx : Ext w ((w.alloc (.cells #[.int .i64 a0, .int .i64 a1, .int .i64 a2] 81)).alloc (.cells #[.int .i64 b0, .int .i64 b1, .int .i64 b2] 81)) := (by repeat (first | (with_reducible assumption) | (with_reducible exact Ext.rfl' _) | (with_reducible exact Ext.new _ _) | (with_reducible refine Ext.alloc' ?_ _) | (with_reducible refine Ext.drew' ?_) | (with_reducible refine Ext.drewN' ?_ _) | (with_reducible refine Ext.set' ?_ ?_ _; rotate_left; (focus (first | omega | (simp; done) | (simp; omega)))) | (with_reducible refine Ext.then (b := ?_) ?_ ?_; rotate_left; rotate_left; (with_reducible assumption))))
  by_cases h1 : b1 < a1
  · have h : Hid (laterB (a0, a1, a2) (b0, b1, b2) = true) := by show _ = _; unfold laterB; simp [h1]
    go_enter Tryz.func78, Tryz.ntmps78
    go_wp2_with fail
    go_ret
    exact ⟨ret_bool h.out.symm, hx⟩
  · by_cases h2 : a1 = b1
    · subst h2
      have h : Hid (laterB (a0, a1, a2) (b0, a1, b2) = decide (b2 < a2)) := by show _ = _; unfold laterB; simp
      go_enter Tryz.func78, Tryz.ntmps78
      go_wp2_with fail
      go_ret
      exact ⟨ret_bool h.out.symm, hx⟩
    · have h : Hid (laterB (a0, a1, a2) (b0, b1, b2) = false) := by show _ = _; unfold laterB; simp [h1, h2]
      have hb : (a1 == b1) = false := by rw [beq_eq_false_iff_ne]; exact h2
      have hd : decide (b1 < a1) = false := by simpa using h1
      clear h2
      go_enter Tryz.func78, Tryz.ntmps78
      go_wp2_with fail
      go_ret
      exact ⟨ret_bool h.out.symm, hx⟩
end Go.Proofs.YtcmdekhhclgdcaaGreatDoor
namespace Go.Proofs.YtcmdekhhclgdcaaGreatDoor
open Go.RowKit Go.Shelf
set_option linter.unusedSimpArgs false
set_option linter.unusedVariables false
def wBad (l : List Int) (k : Nat) : Prop := ¬ (0 ≤ l.getD k 0 ∧ l.getD k 0 ≤ 6) ∨ (0 < k ∧ l.getD k 0 ≤ l.getD (k - 1) 0)
def WOk (l : List Int) : Prop := ∀ k, k < l.length → ¬ wBad l k
def hBad (l : List Dat) (k : Nat) : Prop := ¬ (1 ≤ (l.getD k (0, 0, 0)).2.1 ∧ (l.getD k (0, 0, 0)).2.1 ≤ 12) ∨ (l.getD k (0, 0, 0)).1 ≠ 0 ∨
  ¬ (1 ≤ (l.getD k (0, 0, 0)).2.2 ∧ (l.getD k (0, 0, 0)).2.2 ≤ lenM 2000 (l.getD k (0, 0, 0)).2.1) ∨ (0 < k ∧ laterB (l.getD k (0, 0, 0)) (l.getD (k - 1) (0, 0, 0)) = false)
def HOk (l : List Dat) : Prop := ∀ k, k < l.length → ¬ hBad l k
noncomputable def calE (c : Cal) : Int := if 64 < c.2.length then 4 else if 6 < c.1.length then 1 else ErrIf (WOk c.1 ∧ HOk c.2) 1
set_option maxRecDepth 100000 in
set_option maxHeartbeats 4000000 in
theorem calValid_c (c : Cal) (v : Value) (w : World) (hr : CalR (ph w) v c) (hV : VL (ph w)) : Calls Tryz.prog 60 #[v] w (RetV w (.int .i64 (calE c))) := by
  obtain ⟨ws, hs⟩ := c
  obtain ⟨a, b, rfl, hW, hH⟩ := hr
  obtain ⟨wa, wc, rfl, wlen, hW⟩ := hW.form
  obtain ⟨ha, hc, rfl, hlen, hH⟩ := hH.form
  dsimp only at hW hH wlen hlen ⊢
  by_cases h1 : 64 < hs.length
  · have hE : Hid (calE (ws, hs) = 4) := if_pos h1
    go_enter Tryz.func60, Tryz.ntmps60
    go_wp2_with fail
    go_ret
    exact ⟨ret_int hE.out.symm, (by repeat (first | (with_reducible assumption) | (with_reducible exact Ext.rfl' _) | (with_reducible exact Ext.new _ _) | (with_reducible refine Ext.alloc' ?_ _) | (with_reducible refine Ext.drew' ?_) | (with_reducible refine Ext.drewN' ?_ _) | (with_reducible refine Ext.set' ?_ ?_ _; rotate_left; (focus (first | omega | (simp; done) | (simp; omega)))) | (with_reducible refine Ext.then (b := ?_) ?_ ?_; rotate_left; rotate_left; (with_reducible assumption))))⟩
  · by_cases h2 : 6 < ws.length
    · have hE : Hid (calE (ws, hs) = 1) := by show _ = _; unfold calE; rw [if_neg h1, if_pos h2]
      go_enter Tryz.func60, Tryz.ntmps60
      go_wp2_with fail
      go_ret
      exact ⟨ret_int hE.out.symm, (by repeat (first | (with_reducible assumption) | (with_reducible exact Ext.rfl' _) | (with_reducible exact Ext.new _ _) | (with_reducible refine Ext.alloc' ?_ _) | (with_reducible refine Ext.drew' ?_) | (with_reducible refine Ext.drewN' ?_ _) | (with_reducible refine Ext.set' ?_ ?_ _; rotate_left; (focus (first | omega | (simp; done) | (simp; omega)))) | (with_reducible refine Ext.then (b := ?_) ?_ ?_; rotate_left; rotate_left; (with_reducible assumption))))⟩
    · have hE : Hid (calE (ws, hs) = ErrIf (WOk ws ∧ HOk hs) 1) := by show _ = _; unfold calE; rw [if_neg h1, if_neg h2]
      go_enter Tryz.func60, Tryz.ntmps60
      go_wp2_with fail
      have hO := Own.new w #[.slice wa ws.length wc, .slice ha hs.length hc] 71
      have hx := Ext.new w (.cells #[.slice wa ws.length wc, .slice ha hs.length hc] 71)
      have hsz : w.heap.size < (w.alloc (.cells #[.slice wa ws.length wc, .slice ha hs.length hc] 71)).heap.size := by simp
      generalize w.alloc _ = W at *
      have hW' := hW.mono mono_IntR hx.ple
      obtain ⟨oc, of⟩ := hO.facts
      go_loopw [20] (fun i wr => ∃ k : Nat, k ≤ ws.length ∧ i = .int .i64 k ∧ Hid (∀ j, j < k → ¬ wBad ws j) ∧ wr = W) (fun i _ => 10 - (intOf i).toNat)
      case atStart => exact ⟨0, by omega, rfl, Lib.hid (by intro j h; omega), rfl⟩
      case round =>
        obtain ⟨k, hk, rfl, hno, rfl⟩ := hrel
        by_cases hlt : k < ws.length
        · obtain ⟨gb, go, rfl, gc, gi, gl⟩ := IntsR.at hW' k hlt
          have hg : ws.getD k 0 = ws[k] := by simp [hlt]
          by_cases hin : 0 ≤ ws[k] ∧ ws[k] ≤ 6
          · by_cases h0 : k = 0
            · subst h0
              have hno2 : Hid (∀ j, j < 0 + 1 → ¬ wBad ws j) := by
                intro j hj hb
                obtain rfl : j = 0 := by omega
                rcases hb with hb | ⟨hb, -⟩
                · rw [hg] at hb; exact hb hin
                · omega
              clear hno
              have hb := inB_t hin
              generalize ws[0] = x at *
              simp only [Nat.add_zero] at gc
              clear hin hg
              go_wp2_with fail
              refine RetP_at (calIn_c x 0 6 _) ?_
              rw [hb]
              go_wp2_with fail
              go_roundw
              case rel => exact ⟨0 + 1, by omega, rfl, hno2, trivial⟩
              case measure => simp [intOf]
            · obtain ⟨gb', go', e2, gc', gi', gl'⟩ := IntsR.at hW' (k - 1) (by omega)
              cases e2
              have hg' : ws.getD (k - 1) 0 = ws[k - 1] := by simp [show k - 1 < ws.length by omega]
              have hb := inB_t hin
              by_cases hle : ws[k] ≤ ws[k - 1]
              · have hE2 : Hid (calE (ws, hs) = 1) := by show _ = _; rw [hE.out, ErrIf_f]; exact fun ⟨h, _⟩ => h k hlt (.inr ⟨by omega, by rw [hg, hg']; exact hle⟩)
                clear hE hno
                generalize ws[k] = x at *
                generalize ws[k - 1] = y at *
                clear hin hg hg'
                have hkc : ((k : Int) - 1) = ((k - 1 : Nat) : Int) := by omega
                go_wp2_with fail
                refine RetP_at (calIn_c x 0 6 _) ?_
                rw [hb]
                go_wp2_with fail
                go_ret
                exact ⟨ret_int hE2.out.symm, hx⟩
              · have hno2 : Hid (∀ j, j < k + 1 → ¬ wBad ws j) := by
                  intro j hj hbb
                  by_cases hjk : j = k
                  · subst hjk
                    rcases hbb with hbb | ⟨-, hbb⟩
                    · rw [hg] at hbb; exact hbb hin
                    · rw [hg, hg'] at hbb; exact hle hbb
                  · exact hno.out j (by omega) hbb
                clear hno
                generalize ws[k] = x at *
                generalize ws[k - 1] = y at *
                clear hin hg hg'
                go_wp2_with fail
                refine RetP_at (calIn_c x 0 6 _) ?_
                rw [hb]
                go_wp2_with fail
                go_roundw
                case rel => exact ⟨k + 1, by omega, rfl, hno2, trivial⟩
                case measure => simp [intOf]; omega
          · have hE2 : Hid (calE (ws, hs) = 1) := by show _ = _; rw [hE.out, ErrIf_f]; exact fun ⟨h, _⟩ => h k hlt (.inl (by rw [hg]; exact hin))
            clear hE hno
            have hb := inB_f hin
            generalize ws[k] = x at *
            clear hin hg
            go_wp2_with fail
            refine RetP_at (calIn_c x 0 6 _) ?_
            rw [hb]
            go_wp2_with fail
            go_ret
            exact ⟨ret_int hE2.out.symm, hx⟩
        · have hWO : Hid (WOk ws) := by show WOk ws; intro j hj; exact hno.out j (by omega)
          have hH' := hH.mono mono_DateR hx.ple
          have hV' := hV.mono hx.ple
          have h640 : (hs.length : Int) ≤ 64 := by omega
          clear hno hW' hW h1 h2
          generalize wr = W0 at *
          go_wp2_with fail
          go_loopw [46] (fun i wr => ∃ q : Nat, q ≤ hs.length ∧ i = .int .i64 q ∧ Hid (∀ j, j < q → ¬ hBad hs j) ∧ Ext W0 wr) (fun i _ => 70 - (intOf i).toNat)
          case atStart => exact ⟨0, by omega, rfl, Lib.hid (by intro j h; omega), Ext.rfl' _⟩
          case round =>
            obtain ⟨q, hq, rfl, hno, hxr⟩ := hrel
            by_cases hlt : q < hs.length
            · obtain ⟨gb, go, rfl, gc0, gc1, gc2, gl, gi0, gi1, gi2⟩ := DatesR.at (hH'.mono mono_DateR hxr.ple) q hlt
              have hg : hs.getD q (0, 0, 0) = hs[q] := by simp [hlt]
              have hV2 := hV'.mono hxr.ple
              generalize hs[q] = x at *
              obtain ⟨y, m, d⟩ := x
              dsimp only at gc0 gc1 gc2 gi0 gi1 gi2
              have hx1 : Ext W0 (wr.alloc (.cells #[.int .i64 y, .int .i64 m, .int .i64 d] 81)) := (by repeat (first | (with_reducible assumption) | (with_reducible exact Ext.rfl' _) | (with_reducible exact Ext.new _ _) | (with_reducible refine Ext.alloc' ?_ _) | (with_reducible refine Ext.drew' ?_) | (with_reducible refine Ext.drewN' ?_ _) | (with_reducible refine Ext.set' ?_ ?_ _; rotate_left; (focus (first | omega | (simp; done) | (simp; omega)))) | (with_reducible refine Ext.then (b := ?_) ?_ ?_; rotate_left; rotate_left; (with_reducible assumption))))
              have hO1 := (hO.keep hxr).alloc (.cells #[.int .i64 y, .int .i64 m, .int .i64 d] 81)
              have hB1 := Own.new wr #[.int .i64 y, .int .i64 m, .int .i64 d] 81
              have hl := fun w (h : VL (ph w)) => length_c 2000 m w h (by omega) (by omega)
              by_cases hm : 1 ≤ m ∧ m ≤ 12
              · rw [show lenV 2000 m = (lenM 2000 m, 0) from if_pos hm] at hl
                have hlb := lenM_bd 2000 m
                obtain ⟨L, hL⟩ : ∃ L, lenM 2000 m = L := ⟨_, rfl⟩
                rw [hL] at hl hlb
                by_cases hy : y = 0
                · subst hy
                  by_cases hd : 1 ≤ d ∧ d ≤ L
                  · have hb := inB_t hd
                    by_cases h0 : q = 0
                    · subst h0
                      have hno2 : Hid (∀ j, j < 0 + 1 → ¬ hBad hs j) := by
                        intro j hj hbb
                        obtain rfl : j = 0 := by omega
                        rcases hbb with hbb | hbb | hbb | ⟨hbb, -⟩
                        · rw [hg] at hbb; exact hbb hm
                        · rw [hg] at hbb; exact hbb rfl
                        · rw [hg] at hbb; dsimp only at hbb; rw [hL] at hbb; exact hbb hd
                        · omega
                      simp only [Nat.zero_mul, Nat.add_zero] at gc0 gc1 gc2
                      clear hno hm hd hL hg
                      go_wp2_with fail
                      refine RetP_at (hl _ (hV'.mono hx1.ple)) ?_
                      dsimp only [two]
                      generalize wr.alloc _ = W1 at *
                      obtain ⟨oc1, of1⟩ := hO1.facts
                      obtain ⟨bc1, bf1⟩ := hB1.facts
                      have bl1 := hB1.lt
                      have ol1 := hO1.lt
                      go_wp2_with fail
                      (refine wp_region_I 29 (by kernel_rfl) (by kernel_rfl) ?_; simp only [List.toList_toArray, List.take_succ_cons, List.take_zero, List.drop_succ_cons, List.drop_zero])
                      (repeat (first | (refine walkI_no rfl (by simp) rfl rfl rfl ?_ ?_; (focus (simp [undef]; done)); (try simp only [List.nil_append, List.cons_append])) | (refine walkI_is (u := ?_) rfl (by simp) rfl ?_ ?_; rotate_left; (focus (intro A w' hS hA K hK; (simp only [List.map_cons, List.map_nil, knows, Is, Op.operands, Call.operands, List.lookup_cons, List.lookup_nil, Nat.reduceBEq, Bool.false_eq_true, if_false, if_true, Act.eval, Array.getD_eq_getD_getElem?, List.getElem?_toArray, List.getElem?_cons_succ, List.getElem?_cons_zero, Option.getD_some, and_true, true_and, List.append_toArray, List.nil_append, List.cons_append, List.toList_toArray, Array.toList_append, Option.toArray, List.append_nil] at hA); first | (go_simp; refine RetP_at (calIn_c d 1 L _) ?_; rw [hb]; exact hK _ (Ext.rfl' _)) | (obtain ⟨hSc, hSf, hSs⟩ := hS.cells; go_simp; exact hK _ (by repeat (first | (with_reducible assumption) | (with_reducible exact Ext.rfl' _) | (with_reducible exact Ext.new _ _) | (with_reducible refine Ext.alloc' ?_ _) | (with_reducible refine Ext.drew' ?_) | (with_reducible refine Ext.drewN' ?_ _) | (with_reducible refine Ext.set' ?_ ?_ _; rotate_left; (focus (first | omega | (simp; done) | (simp; omega)))) | (with_reducible refine Ext.then (b := ?_) ?_ ?_; rotate_left; rotate_left; (with_reducible assumption))))))); (try simp only [List.nil_append, List.cons_append])) | (refine walkI_yesis (u := ?_) rfl (by simp) rfl rfl rfl ?_ ?_; rotate_left; (focus (intro A w' hS hA K hK; (simp only [List.map_cons, List.map_nil, knows, Is, Op.operands, Call.operands, List.lookup_cons, List.lookup_nil, Nat.reduceBEq, Bool.false_eq_true, if_false, if_true, Act.eval, Array.getD_eq_getD_getElem?, List.getElem?_toArray, List.getElem?_cons_succ, List.getElem?_cons_zero, Option.getD_some, and_true, true_and, List.append_toArray, List.nil_append, List.cons_append, List.toList_toArray, Array.toList_append, Option.toArray, List.append_nil] at hA); first | (go_simp; refine RetP_at (calIn_c d 1 L _) ?_; rw [hb]; exact hK _ (Ext.rfl' _)) | (obtain ⟨hSc, hSf, hSs⟩ := hS.cells; go_simp; exact hK _ (by repeat (first | (with_reducible assumption) | (with_reducible exact Ext.rfl' _) | (with_reducible exact Ext.new _ _) | (with_reducible refine Ext.alloc' ?_ _) | (with_reducible refine Ext.drew' ?_) | (with_reducible refine Ext.drewN' ?_ _) | (with_reducible refine Ext.set' ?_ ?_ _; rotate_left; (focus (first | omega | (simp; done) | (simp; omega)))) | (with_reducible refine Ext.then (b := ?_) ?_ ?_; rotate_left; rotate_left; (with_reducible assumption))))))); (try simp only [List.nil_append, List.cons_append]))))
                      (refine walkI_nil ?_; simp only [List.nil_append, List.cons_append, fins, Is, forall_eq, Act.put, List.setIfInBounds_toArray, List.set_cons_zero, List.set_cons_succ])
                      rintro w5 hx5
                      have hx6 : Ext w w5 := (hx.then hx1).then hx5
                      go_wp2_with fail
                      go_roundw
                      case rel => exact ⟨0 + 1, by omega, rfl, hno2, hx1.then hx5⟩
                      case measure => simp [intOf]
                    · obtain ⟨gb', go', e2, gc0', gc1', gc2', gl', gi0', gi1', gi2'⟩ := DatesR.at (hH'.mono mono_DateR hxr.ple) (q - 1) (by omega)
                      cases e2
                      have hg' : hs.getD (q - 1) (0, 0, 0) = hs[q - 1] := by simp [show q - 1 < hs.length by omega]
                      have hlc := fun w => later_c (0, m, d) hs[q - 1] w
                      generalize hs[q - 1] = z at *
                      obtain ⟨y', m', d'⟩ := z
                      dsimp only at gc0' gc1' gc2' gi0' gi1' gi2'
                      replace gc0' := (Ext.new wr (.cells #[.int .i64 0, .int .i64 m, .int .i64 d] 81)).cell1 gc0'
                      replace gc1' := (Ext.new wr (.cells #[.int .i64 0, .int .i64 m, .int .i64 d] 81)).cell1 gc1'
                      replace gc2' := (Ext.new wr (.cells #[.int .i64 0, .int .i64 m, .int .i64 d] 81)).cell1 gc2'
                      have gl2' := cell_lt gc0'
                      obtain ⟨lb, hlb2⟩ : ∃ lb, laterB (0, m, d) (y', m', d') = lb := ⟨_, rfl⟩
                      simp only [hlb2] at hlc
                      dsimp only [datA] at hlc
                      have hkc : ((q : Int) - 1) = ((q - 1 : Nat) : Int) := by omega
                      have hq1 : q - 1 < hs.length := by omega
                      have hkw : IntKind.i64.wrap ((q - 1 : Nat) : Int) = ((q - 1 : Nat) : Int) := by rw [IntKind.wrap_i64]; omega
                      have hq0 : decide (0 < q) = true := by simp; omega
                      cases lb with
                      | true =>
                        have hno2 : Hid (∀ j, j < q + 1 → ¬ hBad hs j) := by
                          intro j hj hbb
                          by_cases hjq : j = q
                          · subst hjq
                            rcases hbb with hbb | hbb | hbb | ⟨-, hbb⟩
                            · rw [hg] at hbb; exact hbb hm
                            · rw [hg] at hbb; exact hbb rfl
                            · rw [hg] at hbb; dsimp only at hbb; rw [hL] at hbb; exact hbb hd
                            · rw [hg, hg', hlb2] at hbb; cases hbb
                          · exact hno.out j (by omega) hbb
                        clear hno hm hd hL hg hg' hlb2
                        go_wp2_with fail
                        refine RetP_at (hl _ (hV'.mono hx1.ple)) ?_
                        dsimp only [two]
                        generalize wr.alloc _ = W1 at *
                        obtain ⟨oc1, of1⟩ := hO1.facts
                        obtain ⟨bc1, bf1⟩ := hB1.facts
                        have bl1 := hB1.lt
                        have ol1 := hO1.lt
                        go_wp2_with fail
                        (refine wp_region_I 29 (by kernel_rfl) (by kernel_rfl) ?_; simp only [List.toList_toArray, List.take_succ_cons, List.take_zero, List.drop_succ_cons, List.drop_zero])
                        (repeat (first | (refine walkI_no rfl (by simp) rfl rfl rfl ?_ ?_; (focus (simp [undef]; done)); (try simp only [List.nil_append, List.cons_append])) | (refine walkI_is (u := ?_) rfl (by simp) rfl ?_ ?_; rotate_left; (focus (intro A w' hS hA K hK; (simp only [List.map_cons, List.map_nil, knows, Is, Op.operands, Call.operands, List.lookup_cons, List.lookup_nil, Nat.reduceBEq, Bool.false_eq_true, if_false, if_true, Act.eval, Array.getD_eq_getD_getElem?, List.getElem?_toArray, List.getElem?_cons_succ, List.getElem?_cons_zero, Option.getD_some, and_true, true_and, List.append_toArray, List.nil_append, List.cons_append, List.toList_toArray, Array.toList_append, Option.toArray, List.append_nil] at hA); first | (go_simp; refine RetP_at (calIn_c d 1 L _) ?_; rw [hb]; exact hK _ (Ext.rfl' _)) | (obtain ⟨hSc, hSf, hSs⟩ := hS.cells; go_simp; refine RetV_at (hlc _) ?_; intro w9 hx9; exact hK _ hx9) | (obtain ⟨hSc, hSf, hSs⟩ := hS.cells; go_simp; exact hK _ (by repeat (first | (with_reducible assumption) | (with_reducible exact Ext.rfl' _) | (with_reducible exact Ext.new _ _) | (with_reducible refine Ext.alloc' ?_ _) | (with_reducible refine Ext.drew' ?_) | (with_reducible refine Ext.drewN' ?_ _) | (with_reducible refine Ext.set' ?_ ?_ _; rotate_left; (focus (first | omega | (simp; done) | (simp; omega)))) | (with_reducible refine Ext.then (b := ?_) ?_ ?_; rotate_left; rotate_left; (with_reducible assumption))))))); (try simp only [List.nil_append, List.cons_append])) | (refine walkI_yesis (u := ?_) rfl (by simp) rfl rfl rfl ?_ ?_; rotate_left; (focus (intro A w' hS hA K hK; (simp only [List.map_cons, List.map_nil, knows, Is, Op.operands, Call.operands, List.lookup_cons, List.lookup_nil, Nat.reduceBEq, Bool.false_eq_true, if_false, if_true, Act.eval, Array.getD_eq_getD_getElem?, List.getElem?_toArray, List.getElem?_cons_succ, List.getElem?_cons_zero, Option.getD_some, and_true, true_and, List.append_toArray, List.nil_append, List.cons_append, List.toList_toArray, Array.toList_append, Option.toArray, List.append_nil] at hA); first | (go_simp; refine RetP_at (calIn_c d 1 L _) ?_; rw [hb]; exact hK _ (Ext.rfl' _)) | (obtain ⟨hSc, hSf, hSs⟩ := hS.cells; go_simp; refine RetV_at (hlc _) ?_; intro w9 hx9; exact hK _ hx9) | (obtain ⟨hSc, hSf, hSs⟩ := hS.cells; go_simp; exact hK _ (by repeat (first | (with_reducible assumption) | (with_reducible exact Ext.rfl' _) | (with_reducible exact Ext.new _ _) | (with_reducible refine Ext.alloc' ?_ _) | (with_reducible refine Ext.drew' ?_) | (with_reducible refine Ext.drewN' ?_ _) | (with_reducible refine Ext.set' ?_ ?_ _; rotate_left; (focus (first | omega | (simp; done) | (simp; omega)))) | (with_reducible refine Ext.then (b := ?_) ?_ ?_; rotate_left; rotate_left; (with_reducible assumption))))))); (try simp only [List.nil_append, List.cons_append]))))
                        (refine walkI_nil ?_; simp only [List.nil_append, List.cons_append, fins, Is, forall_eq, Act.put, List.setIfInBounds_toArray, List.set_cons_zero, List.set_cons_succ])
                        rintro w5 hx5
                        have hx6 : Ext w w5 := (hx.then hx1).then hx5
                        go_wp2_with fail
                        go_roundw
                        case rel => exact ⟨q + 1, by omega, rfl, hno2, hx1.then hx5⟩
                        case measure => simp [intOf]; omega
                      | false =>
                        have hE2 : Hid (calE (ws, hs) = 1) := by show _ = _; rw [hE.out, ErrIf_f]; exact fun ⟨_, h⟩ => h q hlt (.inr (.inr (.inr ⟨by omega, by rw [hg, hg']; exact hlb2⟩)))
                        clear hE hno hm hd hL hg hg' hlb2
                        go_wp2_with fail
                        refine RetP_at (hl _ (hV'.mono hx1.ple)) ?_
                        dsimp only [two]
                        generalize wr.alloc _ = W1 at *
                        obtain ⟨oc1, of1⟩ := hO1.facts
                        obtain ⟨bc1, bf1⟩ := hB1.facts
                        have bl1 := hB1.lt
                        have ol1 := hO1.lt
                        go_wp2_with fail
                        (refine wp_region_I 29 (by kernel_rfl) (by kernel_rfl) ?_; simp only [List.toList_toArray, List.take_succ_cons, List.take_zero, List.drop_succ_cons, List.drop_zero])
                        (repeat (first | (refine walkI_no rfl (by simp) rfl rfl rfl ?_ ?_; (focus (simp [undef]; done)); (try simp only [List.nil_append, List.cons_append])) | (refine walkI_is (u := ?_) rfl (by simp) rfl ?_ ?_; rotate_left; (focus (intro A w' hS hA K hK; (simp only [List.map_cons, List.map_nil, knows, Is, Op.operands, Call.operands, List.lookup_cons, List.lookup_nil, Nat.reduceBEq, Bool.false_eq_true, if_false, if_true, Act.eval, Array.getD_eq_getD_getElem?, List.getElem?_toArray, List.getElem?_cons_succ, List.getElem?_cons_zero, Option.getD_some, and_true, true_and, List.append_toArray, List.nil_append, List.cons_append, List.toList_toArray, Array.toList_append, Option.toArray, List.append_nil] at hA); first | (go_simp; refine RetP_at (calIn_c d 1 L _) ?_; rw [hb]; exact hK _ (Ext.rfl' _)) | (obtain ⟨hSc, hSf, hSs⟩ := hS.cells; go_simp; refine RetV_at (hlc _) ?_; intro w9 hx9; exact hK _ hx9) | (obtain ⟨hSc, hSf, hSs⟩ := hS.cells; go_simp; exact hK _ (by repeat (first | (with_reducible assumption) | (with_reducible exact Ext.rfl' _) | (with_reducible exact Ext.new _ _) | (with_reducible refine Ext.alloc' ?_ _) | (with_reducible refine Ext.drew' ?_) | (with_reducible refine Ext.drewN' ?_ _) | (with_reducible refine Ext.set' ?_ ?_ _; rotate_left; (focus (first | omega | (simp; done) | (simp; omega)))) | (with_reducible refine Ext.then (b := ?_) ?_ ?_; rotate_left; rotate_left; (with_reducible assumption))))))); (try simp only [List.nil_append, List.cons_append])) | (refine walkI_yesis (u := ?_) rfl (by simp) rfl rfl rfl ?_ ?_; rotate_left; (focus (intro A w' hS hA K hK; (simp only [List.map_cons, List.map_nil, knows, Is, Op.operands, Call.operands, List.lookup_cons, List.lookup_nil, Nat.reduceBEq, Bool.false_eq_true, if_false, if_true, Act.eval, Array.getD_eq_getD_getElem?, List.getElem?_toArray, List.getElem?_cons_succ, List.getElem?_cons_zero, Option.getD_some, and_true, true_and, List.append_toArray, List.nil_append, List.cons_append, List.toList_toArray, Array.toList_append, Option.toArray, List.append_nil] at hA); first | (go_simp; refine RetP_at (calIn_c d 1 L _) ?_; rw [hb]; exact hK _ (Ext.rfl' _)) | (obtain ⟨hSc, hSf, hSs⟩ := hS.cells; go_simp; refine RetV_at (hlc _) ?_; intro w9 hx9; exact hK _ hx9) | (obtain ⟨hSc, hSf, hSs⟩ := hS.cells; go_simp; exact hK _ (by repeat (first | (with_reducible assumption) | (with_reducible exact Ext.rfl' _) | (with_reducible exact Ext.new _ _) | (with_reducible refine Ext.alloc' ?_ _) | (with_reducible refine Ext.drew' ?_) | (with_reducible refine Ext.drewN' ?_ _) | (with_reducible refine Ext.set' ?_ ?_ _; rotate_left; (focus (first | omega | (simp; done) | (simp; omega)))) | (with_reducible refine Ext.then (b := ?_) ?_ ?_; rotate_left; rotate_left; (with_reducible assumption))))))); (try simp only [List.nil_append, List.cons_append]))))
                        (refine walkI_nil ?_; simp only [List.nil_append, List.cons_append, fins, Is, forall_eq, Act.put, List.setIfInBounds_toArray, List.set_cons_zero, List.set_cons_succ])
                        rintro w5 hx5
                        have hx6 : Ext w w5 := (hx.then hx1).then hx5
                        go_wp2_with fail
                        go_ret
                        exact ⟨ret_int hE2.out.symm, hx6⟩
                  · have hE2 : Hid (calE (ws, hs) = 1) := by show _ = _; rw [hE.out, ErrIf_f]; exact fun ⟨_, h⟩ => h q hlt (.inr (.inr (.inl (by rw [hg]; dsimp only; rw [hL]; exact hd))))
                    have hb := inB_f hd
                    clear hE hno hm hd hL hg
                    go_wp2_with fail
                    refine RetP_at (hl _ (hV'.mono hx1.ple)) ?_
                    dsimp only [two]
                    generalize wr.alloc _ = W1 at *
                    obtain ⟨oc1, of1⟩ := hO1.facts
                    obtain ⟨bc1, bf1⟩ := hB1.facts
                    have bl1 := hB1.lt
                    have ol1 := hO1.lt
                    go_wp2_with fail
                    (refine wp_region_I 29 (by kernel_rfl) (by kernel_rfl) ?_; simp only [List.toList_toArray, List.take_succ_cons, List.take_zero, List.drop_succ_cons, List.drop_zero])
                    (repeat (first | (refine walkI_no rfl (by simp) rfl rfl rfl ?_ ?_; (focus (simp [undef]; done)); (try simp only [List.nil_append, List.cons_append])) | (refine walkI_is (u := ?_) rfl (by simp) rfl ?_ ?_; rotate_left; (focus (intro A w' hS hA K hK; (simp only [List.map_cons, List.map_nil, knows, Is, Op.operands, Call.operands, List.lookup_cons, List.lookup_nil, Nat.reduceBEq, Bool.false_eq_true, if_false, if_true, Act.eval, Array.getD_eq_getD_getElem?, List.getElem?_toArray, List.getElem?_cons_succ, List.getElem?_cons_zero, Option.getD_some, and_true, true_and, List.append_toArray, List.nil_append, List.cons_append, List.toList_toArray, Array.toList_append, Option.toArray, List.append_nil] at hA); first | (go_simp; refine RetP_at (calIn_c d 1 L _) ?_; rw [hb]; exact hK _ (Ext.rfl' _)) | (obtain ⟨hSc, hSf, hSs⟩ := hS.cells; go_simp; exact hK _ (by repeat (first | (with_reducible assumption) | (with_reducible exact Ext.rfl' _) | (with_reducible exact Ext.new _ _) | (with_reducible refine Ext.alloc' ?_ _) | (with_reducible refine Ext.drew' ?_) | (with_reducible refine Ext.drewN' ?_ _) | (with_reducible refine Ext.set' ?_ ?_ _; rotate_left; (focus (first | omega | (simp; done) | (simp; omega)))) | (with_reducible refine Ext.then (b := ?_) ?_ ?_; rotate_left; rotate_left; (with_reducible assumption))))))); (try simp only [List.nil_append, List.cons_append])) | (refine walkI_yesis (u := ?_) rfl (by simp) rfl rfl rfl ?_ ?_; rotate_left; (focus (intro A w' hS hA K hK; (simp only [List.map_cons, List.map_nil, knows, Is, Op.operands, Call.operands, List.lookup_cons, List.lookup_nil, Nat.reduceBEq, Bool.false_eq_true, if_false, if_true, Act.eval, Array.getD_eq_getD_getElem?, List.getElem?_toArray, List.getElem?_cons_succ, List.getElem?_cons_zero, Option.getD_some, and_true, true_and, List.append_toArray, List.nil_append, List.cons_append, List.toList_toArray, Array.toList_append, Option.toArray, List.append_nil] at hA); first | (go_simp; refine RetP_at (calIn_c d 1 L _) ?_; rw [hb]; exact hK _ (Ext.rfl' _)) | (obtain ⟨hSc, hSf, hSs⟩ := hS.cells; go_simp; exact hK _ (by repeat (first | (with_reducible assumption) | (with_reducible exact Ext.rfl' _) | (with_reducible exact Ext.new _ _) | (with_reducible refine Ext.alloc' ?_ _) | (with_reducible refine Ext.drew' ?_) | (with_reducible refine Ext.drewN' ?_ _) | (with_reducible refine Ext.set' ?_ ?_ _; rotate_left; (focus (first | omega | (simp; done) | (simp; omega)))) | (with_reducible refine Ext.then (b := ?_) ?_ ?_; rotate_left; rotate_left; (with_reducible assumption))))))); (try simp only [List.nil_append, List.cons_append]))))
                    (refine walkI_nil ?_; simp only [List.nil_append, List.cons_append, fins, Is, forall_eq, Act.put, List.setIfInBounds_toArray, List.set_cons_zero, List.set_cons_succ])
                    rintro w5 hx5
                    have hx6 : Ext w w5 := (hx.then hx1).then hx5
                    go_wp2_with fail
                    go_ret
                    exact ⟨ret_int hE2.out.symm, hx6⟩
                · have hE2 : Hid (calE (ws, hs) = 1) := by show _ = _; rw [hE.out, ErrIf_f]; exact fun ⟨_, h⟩ => h q hlt (.inr (.inl (by rw [hg]; exact hy)))
                  have hy2 : (y != 0) = true := by rw [bne_iff_ne]; exact hy
                  clear hE hno hm hL hg hy
                  go_wp2_with fail
                  refine RetP_at (hl _ (hV'.mono hx1.ple)) ?_
                  dsimp only [two]
                  generalize wr.alloc _ = W1 at *
                  obtain ⟨oc1, of1⟩ := hO1.facts
                  obtain ⟨bc1, bf1⟩ := hB1.facts
                  have bl1 := hB1.lt
                  have ol1 := hO1.lt
                  go_wp2_with fail
                  (refine wp_region_I 29 (by kernel_rfl) (by kernel_rfl) ?_; simp only [List.toList_toArray, List.take_succ_cons, List.take_zero, List.drop_succ_cons, List.drop_zero])
                  (repeat (first | (refine walkI_no rfl (by simp) rfl rfl rfl ?_ ?_; (focus (simp [undef]; done)); (try simp only [List.nil_append, List.cons_append])) | (refine walkI_is (u := ?_) rfl (by simp) rfl ?_ ?_; rotate_left; (focus (intro A w' hS hA K hK; (simp only [List.map_cons, List.map_nil, knows, Is, Op.operands, Call.operands, List.lookup_cons, List.lookup_nil, Nat.reduceBEq, Bool.false_eq_true, if_false, if_true, Act.eval, Array.getD_eq_getD_getElem?, List.getElem?_toArray, List.getElem?_cons_succ, List.getElem?_cons_zero, Option.getD_some, and_true, true_and, List.append_toArray, List.nil_append, List.cons_append, List.toList_toArray, Array.toList_append, Option.toArray, List.append_nil] at hA); first | fail | (obtain ⟨hSc, hSf, hSs⟩ := hS.cells; go_simp; exact hK _ (by repeat (first | (with_reducible assumption) | (with_reducible exact Ext.rfl' _) | (with_reducible exact Ext.new _ _) | (with_reducible refine Ext.alloc' ?_ _) | (with_reducible refine Ext.drew' ?_) | (with_reducible refine Ext.drewN' ?_ _) | (with_reducible refine Ext.set' ?_ ?_ _; rotate_left; (focus (first | omega | (simp; done) | (simp; omega)))) | (with_reducible refine Ext.then (b := ?_) ?_ ?_; rotate_left; rotate_left; (with_reducible assumption))))))); (try simp only [List.nil_append, List.cons_append])) | (refine walkI_yesis (u := ?_) rfl (by simp) rfl rfl rfl ?_ ?_; rotate_left; (focus (intro A w' hS hA K hK; (simp only [List.map_cons, List.map_nil, knows, Is, Op.operands, Call.operands, List.lookup_cons, List.lookup_nil, Nat.reduceBEq, Bool.false_eq_true, if_false, if_true, Act.eval, Array.getD_eq_getD_getElem?, List.getElem?_toArray, List.getElem?_cons_succ, List.getElem?_cons_zero, Option.getD_some, and_true, true_and, List.append_toArray, List.nil_append, List.cons_append, List.toList_toArray, Array.toList_append, Option.toArray, List.append_nil] at hA); first | fail | (obtain ⟨hSc, hSf, hSs⟩ := hS.cells; go_simp; exact hK _ (by repeat (first | (with_reducible assumption) | (with_reducible exact Ext.rfl' _) | (with_reducible exact Ext.new _ _) | (with_reducible refine Ext.alloc' ?_ _) | (with_reducible refine Ext.drew' ?_) | (with_reducible refine Ext.drewN' ?_ _) | (with_reducible refine Ext.set' ?_ ?_ _; rotate_left; (focus (first | omega | (simp; done) | (simp; omega)))) | (with_reducible refine Ext.then (b := ?_) ?_ ?_; rotate_left; rotate_left; (with_reducible assumption))))))); (try simp only [List.nil_append, List.cons_append]))))
                  (refine walkI_nil ?_; simp only [List.nil_append, List.cons_append, fins, Is, forall_eq, Act.put, List.setIfInBounds_toArray, List.set_cons_zero, List.set_cons_succ])
                  rintro w5 hx5
                  have hx6 : Ext w w5 := (hx.then hx1).then hx5
                  go_wp2_with fail
                  go_ret
                  exact ⟨ret_int hE2.out.symm, hx6⟩
              · have hE2 : Hid (calE (ws, hs) = 1) := by show _ = _; rw [hE.out, ErrIf_f]; exact fun ⟨_, h⟩ => h q hlt (.inl (by rw [hg]; exact hm))
                rw [show lenV 2000 m = (0, 1) from if_neg hm] at hl
                clear hE hno hm hg
                go_wp2_with fail
                refine RetP_at (hl _ (hV'.mono hx1.ple)) ?_
                dsimp only [two]
                generalize wr.alloc _ = W1 at *
                obtain ⟨oc1, of1⟩ := hO1.facts
                obtain ⟨bc1, bf1⟩ := hB1.facts
                have bl1 := hB1.lt
                have ol1 := hO1.lt
                go_wp2_with fail
                (refine wp_region_I 29 (by kernel_rfl) (by kernel_rfl) ?_; simp only [List.toList_toArray, List.take_succ_cons, List.take_zero, List.drop_succ_cons, List.drop_zero])
                (repeat (first | (refine walkI_no rfl (by simp) rfl rfl rfl ?_ ?_; (focus (simp [undef]; done)); (try simp only [List.nil_append, List.cons_append])) | (refine walkI_is (u := ?_) rfl (by simp) rfl ?_ ?_; rotate_left; (focus (intro A w' hS hA K hK; (simp only [List.map_cons, List.map_nil, knows, Is, Op.operands, Call.operands, List.lookup_cons, List.lookup_nil, Nat.reduceBEq, Bool.false_eq_true, if_false, if_true, Act.eval, Array.getD_eq_getD_getElem?, List.getElem?_toArray, List.getElem?_cons_succ, List.getElem?_cons_zero, Option.getD_some, and_true, true_and, List.append_toArray, List.nil_append, List.cons_append, List.toList_toArray, Array.toList_append, Option.toArray, List.append_nil] at hA); first | fail | (obtain ⟨hSc, hSf, hSs⟩ := hS.cells; go_simp; exact hK _ (by repeat (first | (with_reducible assumption) | (with_reducible exact Ext.rfl' _) | (with_reducible exact Ext.new _ _) | (with_reducible refine Ext.alloc' ?_ _) | (with_reducible refine Ext.drew' ?_) | (with_reducible refine Ext.drewN' ?_ _) | (with_reducible refine Ext.set' ?_ ?_ _; rotate_left; (focus (first | omega | (simp; done) | (simp; omega)))) | (with_reducible refine Ext.then (b := ?_) ?_ ?_; rotate_left; rotate_left; (with_reducible assumption))))))); (try simp only [List.nil_append, List.cons_append])) | (refine walkI_yesis (u := ?_) rfl (by simp) rfl rfl rfl ?_ ?_; rotate_left; (focus (intro A w' hS hA K hK; (simp only [List.map_cons, List.map_nil, knows, Is, Op.operands, Call.operands, List.lookup_cons, List.lookup_nil, Nat.reduceBEq, Bool.false_eq_true, if_false, if_true, Act.eval, Array.getD_eq_getD_getElem?, List.getElem?_toArray, List.getElem?_cons_succ, List.getElem?_cons_zero, Option.getD_some, and_true, true_and, List.append_toArray, List.nil_append, List.cons_append, List.toList_toArray, Array.toList_append, Option.toArray, List.append_nil] at hA); first | fail | (obtain ⟨hSc, hSf, hSs⟩ := hS.cells; go_simp; exact hK _ (by repeat (first | (with_reducible assumption) | (with_reducible exact Ext.rfl' _) | (with_reducible exact Ext.new _ _) | (with_reducible refine Ext.alloc' ?_ _) | (with_reducible refine Ext.drew' ?_) | (with_reducible refine Ext.drewN' ?_ _) | (with_reducible refine Ext.set' ?_ ?_ _; rotate_left; (focus (first | omega | (simp; done) | (simp; omega)))) | (with_reducible refine Ext.then (b := ?_) ?_ ?_; rotate_left; rotate_left; (with_reducible assumption))))))); (try simp only [List.nil_append, List.cons_append]))))
                (refine walkI_nil ?_; simp only [List.nil_append, List.cons_append, fins, Is, forall_eq, Act.put, List.setIfInBounds_toArray, List.set_cons_zero, List.set_cons_succ])
                rintro w5 hx5
                have hx6 : Ext w w5 := (hx.then hx1).then hx5
                go_wp2_with fail
                go_ret
                exact ⟨ret_int hE2.out.symm, hx6⟩
            · have hE2 : Hid (calE (ws, hs) = 0) := by show _ = _; rw [hE.out, ErrIf_t]; exact ⟨hWO.out, fun j hj => hno.out j (by omega)⟩
              clear hE hno
              go_wp2_with fail
              go_ret
              exact ⟨ret_int hE2.out.symm, hx.then hxr⟩
end Go.Proofs.YtcmdekhhclgdcaaGreatDoor
namespace Go.Proofs.YtcmdekhhclgdcaaGreatDoor
open Go.RowKit Go.Shelf
set_option linter.unusedSimpArgs false
set_option linter.unusedVariables false
structure Ac where
  kind : Int
  day : Int
  known : Int
  file : Int
  office : Int
  party : Int
  other : Int
  number : Int
  amount : Int
def Ac.I (a : Ac) : Prop := I64 a.kind ∧ I64 a.day ∧ I64 a.known ∧ I64 a.file ∧ I64 a.office ∧ I64 a.party ∧ I64 a.other ∧ I64 a.number ∧ I64 a.amount
def actC (a : Ac) : List Value := [.int .i64 a.kind, .int .i64 a.day, .int .i64 a.known, .int .i64 a.file, .int .i64 a.office, .int .i64 a.party, .int .i64 a.other, .int .i64 a.number, .int .i64 a.amount, .int .i64 0, .int .i64 0, .slice none 0 0, .slice none 0 0, .slice none 0 0, .slice none 0 0, .int .i64 0, .int .i64 0, .slice none 0 0, .slice none 0 0]
def actA (a : Ac) : Value := .agg (actC a).toArray
def ActR (_ : PH) (cs : List Value) (a : Ac) : Prop := cs = actC a ∧ a.I
theorem mono_ActR : Mono ActR := fun _ _ _ _ _ h => h
abbrev ActsR : PH → Value → List Ac → Prop := SliceRep ActR 19
theorem infoAct : (Tryz.prog.info? 67).map (fun i => (i.zero, i.size, i.bytes)) = some (some (.agg #[.int .i64 0, .int .i64 0, .int .i64 0, .int .i64 0, .int .i64 0, .int .i64 0, .int .i64 0, .int .i64 0, .int .i64 0, .int .i64 0, .int .i64 0, .slice none 0 0, .slice none 0 0, .slice none 0 0, .slice none 0 0, .int .i64 0, .int .i64 0, .slice none 0 0, .slice none 0 0]), 19, 248) := by kernel_rfl
theorem one_ActR {h : PH} : ∀ cs x, ActR h cs x → ∀ u ∈ cs, u.oneCell' = true := by
  rintro cs x ⟨rfl, -⟩ u hu
  simp only [actC, List.mem_cons, List.not_mem_nil, or_false] at hu
  rcases hu with rfl | rfl | rfl | rfl | rfl | rfl | rfl | rfl | rfl | rfl | rfl | rfl | rfl | rfl | rfl | rfl | rfl | rfl | rfl <;> rfl
theorem ActsR.at {w : World} {a : Option Addr} {n cap : Nat} {xs : List Ac} (hr : ActsR (ph w) (.slice a n cap) xs) (k : Nat) (hk : k < xs.length) :
    ∃ b o, a = some ⟨b, o, none⟩ ∧ w.cell? ⟨b, o + k * 19, none⟩ = some (.int .i64 xs[k].kind) ∧ w.cell? ⟨b, o + k * 19 + 1, none⟩ = some (.int .i64 xs[k].day) ∧ w.cell? ⟨b, o + k * 19 + 2, none⟩ = some (.int .i64 xs[k].known) ∧ w.cell? ⟨b, o + k * 19 + 3, none⟩ = some (.int .i64 xs[k].file) ∧ w.cell? ⟨b, o + k * 19 + 4, none⟩ = some (.int .i64 xs[k].office) ∧ w.cell? ⟨b, o + k * 19 + 5, none⟩ = some (.int .i64 xs[k].party) ∧ w.cell? ⟨b, o + k * 19 + 6, none⟩ = some (.int .i64 xs[k].other) ∧ w.cell? ⟨b, o + k * 19 + 7, none⟩ = some (.int .i64 xs[k].number) ∧ w.cell? ⟨b, o + k * 19 + 8, none⟩ = some (.int .i64 xs[k].amount) ∧ w.cell? ⟨b, o + k * 19 + 9, none⟩ = some (.int .i64 0) ∧ w.cell? ⟨b, o + k * 19 + 10, none⟩ = some (.int .i64 0) ∧ w.cell? ⟨b, o + k * 19 + 11, none⟩ = some (.slice none 0 0) ∧ w.cell? ⟨b, o + k * 19 + 12, none⟩ = some (.slice none 0 0) ∧ w.cell? ⟨b, o + k * 19 + 13, none⟩ = some (.slice none 0 0) ∧ w.cell? ⟨b, o + k * 19 + 14, none⟩ = some (.slice none 0 0) ∧ w.cell? ⟨b, o + k * 19 + 15, none⟩ = some (.int .i64 0) ∧ w.cell? ⟨b, o + k * 19 + 16, none⟩ = some (.int .i64 0) ∧ w.cell? ⟨b, o + k * 19 + 17, none⟩ = some (.slice none 0 0) ∧ w.cell? ⟨b, o + k * 19 + 18, none⟩ = some (.slice none 0 0) ∧ b < w.heap.size ∧ xs[k].I := by
  obtain ⟨b, o, cs, h1, h2, h3, rfl, h5⟩ := hr.get k hk
  have h : ∀ j, j < 19 → w.cell? ⟨b, o + k * 19 + j, none⟩ = some ((actC xs[k]).getD j undef) := fun j hj => by rw [cell_ph]; exact h3 j hj
  exact ⟨b, o, h1, h 0 (by omega), h 1 (by omega), h 2 (by omega), h 3 (by omega), h 4 (by omega), h 5 (by omega), h 6 (by omega), h 7 (by omega), h 8 (by omega), h 9 (by omega), h 10 (by omega), h 11 (by omega), h 12 (by omega), h 13 (by omega), h 14 (by omega), h 15 (by omega), h 16 (by omega), h 17 (by omega), h 18 (by omega), cell_lt (h 0 (by omega)), h5⟩
theorem actC_len (a : Ac) : (actC a).length = 19 := rfl
theorem ActsR.row {w : World} {a : Option Addr} {n cap : Nat} {xs : List Ac} (hr : ActsR (ph w) (.slice a n cap) xs) (k : Nat) (hk : k < xs.length) :
    ∃ b o, a = some ⟨b, o, none⟩ ∧ (∀ j u, (actC xs[k])[j]? = some u → w.cell? ⟨b, o + k * 19 + j, none⟩ = some u) ∧ b < w.heap.size ∧ xs[k].I := by
  obtain ⟨b, o, cs, h1, h2, h3, rfl, h5⟩ := hr.get k hk
  have h : ∀ j u, (actC xs[k])[j]? = some u → w.cell? ⟨b, o + k * 19 + j, none⟩ = some u := fun j u hu => by
    obtain ⟨hj, he⟩ := List.getElem?_eq_some_iff.1 hu
    rw [cell_ph, h3 j (by rw [actC_len] at hj; exact hj), ← he]
    simp [List.getD_eq_getElem?_getD, hj]
  exact ⟨b, o, h1, h, cell_lt (h 0 _ rfl), h5⟩
theorem addo' (b o j : Nat) : (⟨b, o, none⟩ : Addr).add j = ⟨b, o + j, none⟩ := addo b o j
/-- a row read out of the middle of a block -/
theorem wpList_load_mid {P : Program} {ops : Array Oper} {rest : List Oper} {o : Oper} {a : Act} {w : World} {Q : Exit → Act → World → Prop} (hgd : o.guard = none) (ty : TypeId) (x : Operand) (ho : o.op = .load ty x)
    (b m : Nat) (hx : a.eval x = .pointer (some ⟨b, m, none⟩)) (cs : List Value) (d : TypeDesc) (hc : ∀ j u, cs[j]? = some u → w.cell? ⟨b, m + j, none⟩ = some u)
    (hu : P.underlying ty = some d) (hd : (match d with | .struct _ | .array _ _ => true | _ => false) = true) (hi : (P.info? ty).map (·.size) = some cs.length)
    (h : wpList P ops Q rest (a.put o.dst (.agg cs.toArray)) w) : wpList P ops Q (o :: rest) a w := by
  refine wpList_plain hgd fun _ hK => ?_
  have hl : (loadCells ⟨b, m, none⟩ cs.length).run P w = .ok cs.toArray w :=
    run_loadCells_list (P := P) w ⟨b, m, none⟩ cs (fun j v hv => by rw [addo]; exact hc j v hv)
  have hv : (loadVar ty ⟨b, m, none⟩).run P w = .ok (.agg cs.toArray) w := by
    cases hq : P.info? ty with
    | none => simp [hq] at hi
    | some i =>
      have hs : i.size = cs.length := by simpa [hq] using hi
      have hagg : (isAgg ty).run P w = .ok true w := by
        unfold isAgg
        rw [Sem.run_bind, run_underlying hu w]
        cases d <;> simp_all
      simp [loadVar, Sem.run_bind, hagg, sizeOf, typeInfo, hq, hs, hl]
  unfold Oper.wp execOp
  simp only [ho, hx, Instr.loadAt, Instr.sureAddr, Sem.run_bind, Sem.run_pure, Result.andThen_ok, hv]
  exact hK _ _ h
theorem setRow_alloc (w : World) (c c' : Array Value) (T : TypeId) : (w.alloc (.cells c T)).setRow w.heap.size c' = w.alloc (.cells c' T) := by
  have h : (w.heap.push (Obj.cells c T)).modify w.heap.size (fun | .cells _ elem frozen => .cells c' elem frozen | o => o) = w.heap.push (Obj.cells c' T) := by
    apply Array.ext
    · simp
    · intro i h1 h2
      rw [Array.getElem_modify]
      by_cases e : w.heap.size = i
      · subst e; simp
      · rw [if_neg e]
        have hi : i < w.heap.size := by simp at h2; omega
        simp [Array.getElem_push, hi]
  unfold World.setRow World.alloc
  exact congrArg (fun hp => { w with heap := hp }) h
/-- a row written into the block made last -/
theorem wpList_store_new {P : Program} {ops : Array Oper} {rest : List Oper} {o : Oper} {a : Act} {w : World} {Q : Exit → Act → World → Prop} (hgd : o.guard = none) (ty : TypeId) (x y : Operand) (ho : o.op = .store ty x y)
    (cells : Array Value) (hx : a.eval x = .pointer (some ⟨w.heap.size, 0, none⟩)) (hy : a.eval y = .agg cells)
    (t : TypeId) (old : Array Value) (hi : (P.info? ty).map (·.size) = some cells.size)
    (hold : old.size = cells.size) (h1 : cells.all (·.oneCell') = true)
    (h : wpList P ops Q rest (a.put o.dst undef) (w.alloc (.cells cells t))) : wpList P ops Q (o :: rest) a (w.alloc (.cells old t)) := by
  refine wpList_store_row hgd ty x y ho w.heap.size cells hx hy t old (heap_alloc_new w _) hi hold h1 ?_
  rw [setRow_alloc]; exact h
theorem one_act (a : Ac) : (actC a).toArray.all (·.oneCell') = true := by
  refine Array.all_eq_true_iff_forall_mem.2 fun v hv => ?_
  have hv' : v ∈ actC a := by simpa using hv
  simp only [actC, List.mem_cons, List.not_mem_nil, or_false] at hv'
  rcases hv' with rfl | rfl | rfl | rfl | rfl | rfl | rfl | rfl | rfl | rfl | rfl | rfl | rfl | rfl | rfl | rfl | rfl | rfl | rfl <;> rfl
end Go.Proofs.YtcmdekhhclgdcaaGreatDoor
