/- Lemmas for NI, part 12: slices.CompactFunc at numbers, by the closure of normal.merge (printed by gen_cmg.py out of CmI), and more. -/
import Derived.Test.YtabajghokhfmhaaGreatNI08
import Derived.Test.YtabajghokhfmhaaGreatNI09
set_option linter.unusedSimpArgs false
set_option linter.unusedVariables false
namespace Go.Proofs.YtabajghokhfmhaaGreat
open Go.RowKit Go.Shelf
set_option maxRecDepth 100000 in
set_option maxHeartbeats 4000000 in
theorem compactIG_c (gb : Nat) (v : Value) (xs : List Int) (w0 w : World) (H0 H : PH) (LB : List Chunk) (hM : Mem w0 H0 (ownIn v xs :: LB) H w) (hlen : xs.length ≤ 1000000)
    (hf : ∀ x y W v' ys, Mem w0 H0 (ownIn v' ys :: LB) H W → Calls Tryz.prog 203 #[.int .i64 x, .int .i64 y, .pointer (some ⟨gb, 0, none⟩)] W (RetV W (.bool (x == y)))) :
    Calls Tryz.prog 202 #[v, .func (.func 203) #[] #[.pointer (some ⟨gb, 0, none⟩)]] w (OwnIP w0 H0 LB H (idd xs)) := by
  obtain ⟨a, c, rfl, -⟩ := hM.form 0 rfl
  replace hf := Lib.hid hf
  by_cases h2 : xs.length < 2
  · have hd : Hid (idd xs = xs) := by
      show _ = _
      match xs, h2 with
      | [], _ => rfl
      | [x], _ => rfl
    have h2' : (xs.length : Int) < 2 := by omega
    go_enter Tryz.func202, Tryz.ntmps202
    go_wp2_with fail
    go_ret
    exact ⟨_, rfl, by rw [hd.out]; exact hM⟩
  · obtain ⟨N, hN⟩ : ∃ N, xs.length = N := ⟨_, rfl⟩
    have hN2 : 2 ≤ N := by omega
    have hN6 : N ≤ 1000000 := by omega
    have hst : Hid (idd (xs.take 1) = xs.take 1) := by
      show _ = _
      match xs with
      | [] => rfl
      | x :: r => rfl
    have hall : Hid (xs.take N = xs) := by show _ = _; rw [← hN, List.take_length]
    rw [hN] at hM
    simp only [hN]
    replace hN := Lib.hid hN
    clear h2 hlen
    go_enter Tryz.func202, Tryz.ntmps202
    go_wp2_with fail
    go_loopw [5] (fun vi wr => ∃ m : Nat, m + 1 ≤ N ∧ vi = .int .i64 ((m : Int) + 1) ∧ Hid (idd (xs.take (m + 1)) = xs.take (m + 1)) ∧ Ext w wr) (fun vi _ => N - (intOf vi).toNat)
    case atStart => exact ⟨0, by omega, rfl, hst, Ext.rfl' _⟩
    case round =>
      clear hst
      obtain ⟨m, hm, rfl, hd, hxr⟩ := hrel
      have hMr := hM.ext hxr
      by_cases hlt : m + 1 < N
      · have hlx : m + 1 < xs.length := by rw [hN.out]; exact hlt
        obtain ⟨g, rfl, hg, gc1, hI1⟩ := inM_row hMr (List.getElem?_eq_getElem hlx)
        obtain ⟨g', e, -, gc0, hI0⟩ := inM_row hMr (List.getElem?_eq_getElem (show m < xs.length by omega))
        cases e
        have hja : decide (m + 1 < N) = true := by simpa using hlt
        have hgo := fun (h : (xs[m]'(by omega)) ≠ xs[m + 1]) => idd_go (xs := xs) (i := m + 1) (Nat.succ_pos m) hlx hd.out h
        have hcs := fun (h : (xs[m]'(by omega)) = xs[m + 1]) => ICmpAt.start (xs := xs) (i := m + 1) (Nat.succ_pos m) hlx hd.out h
        generalize xs[m + 1] = x1 at *
        generalize xs[m] = x0 at *
        have hr3 := fun W (hW : Mem w0 H0 (ownIn (.slice (some ⟨g, 0, none⟩) N c) xs :: LB) H W) => hf.out x1 x0 W _ _ hW
        obtain ⟨qz, hqz⟩ : ∃ q, (x1 == x0) = q := ⟨_, rfl⟩
        simp only [hqz] at hr3
        replace hr3 := Lib.hid hr3
        replace hqz := Lib.hid hqz
        replace gc1 := Lib.hid gc1
        replace gc0 := Lib.hid gc0
        replace hgo := Lib.hid hgo
        replace hcs := Lib.hid hcs
        have hlti : ((m + 1 : Nat) : Int) < N := by omega
        have hmN : m < N := by omega
        clear hlx hI0 hI1




        have hwm : IntKind.i64.wrap ((m : Int) + 1 - 1) = (m : Int) := by rw [IntKind.wrap_i64]; omega
        have hwm3 : IntKind.i64.wrap (m : Int) = (m : Int) := by rw [IntKind.wrap_i64]; omega
        have hwm2 : IntKind.i64.wrap (((m + 1 : Nat) : Int) - 1) = (m : Int) := by rw [IntKind.wrap_i64]; omega
        go_upto_region 6 with (fail)
        (refine wp_region_I 11 (by kernel_rfl) (by kernel_rfl) ?_; simp only [List.toList_toArray, List.take_succ_cons, List.take_zero, List.drop_succ_cons, List.drop_zero])
        iterate 4 (refine wiA rfl (by simp) rfl ?_; (try simp only [List.nil_append, List.cons_append]))
        (refine walkI_is (u := ?_) rfl (by simp) rfl ?_ ?_; rotate_left; (focus (intro A w' hS hA K hK; (simp only [List.map_cons, List.map_nil, knows, Is, Op.operands, Call.operands, List.lookup_cons, List.lookup_nil, Nat.reduceBEq, Bool.false_eq_true, if_false, if_true, Act.eval, Array.getD_eq_getD_getElem?, List.getElem?_toArray, List.getElem?_cons_succ, List.getElem?_cons_zero, Option.getD_some, and_true, true_and, List.append_toArray, List.nil_append, List.cons_append, List.toList_toArray, Array.toList_append, Option.toArray, List.append_nil] at hA); first | (have q1 := hS.cell1 gc1.out; have q2 := cell_lt q1; go_simp; exact hK _ (Ext.rfl' _)) | (obtain ⟨hSc, hSf, hSs⟩ := hS.cells; go_simp; exact hK _ xN))); (try simp only [List.nil_append, List.cons_append]))
        iterate 4 (refine wiA rfl (by simp) rfl ?_; (try simp only [List.nil_append, List.cons_append]))
        (refine walkI_is (u := ?_) rfl (by simp) rfl ?_ ?_; rotate_left; (focus (intro A w' hS hA K hK; (simp only [List.map_cons, List.map_nil, knows, Is, Op.operands, Call.operands, List.lookup_cons, List.lookup_nil, Nat.reduceBEq, Bool.false_eq_true, if_false, if_true, Act.eval, Array.getD_eq_getD_getElem?, List.getElem?_toArray, List.getElem?_cons_succ, List.getElem?_cons_zero, Option.getD_some, and_true, true_and, List.append_toArray, List.nil_append, List.cons_append, List.toList_toArray, Array.toList_append, Option.toArray, List.append_nil] at hA); first | (have q1 := hS.cell1 gc0.out; have q2 := cell_lt q1; go_simp; exact hK _ (Ext.rfl' _)) | (obtain ⟨hSc, hSf, hSs⟩ := hS.cells; go_simp; exact hK _ xN))); (try simp only [List.nil_append, List.cons_append]))
        (refine walkI_is (u := ?_) rfl (by simp) rfl ?_ ?_; rotate_left; (focus (intro A w' hS hA K hK; (simp only [List.map_cons, List.map_nil, knows, Is, Op.operands, Call.operands, List.lookup_cons, List.lookup_nil, Nat.reduceBEq, Bool.false_eq_true, if_false, if_true, Act.eval, Array.getD_eq_getD_getElem?, List.getElem?_toArray, List.getElem?_cons_succ, List.getElem?_cons_zero, Option.getD_some, and_true, true_and, List.append_toArray, List.nil_append, List.cons_append, List.toList_toArray, Array.toList_append, Option.toArray, List.append_nil] at hA); first | (go_simp; refine RetV_at (hr3.out w' (hMr.ext hS)) ?_; intro w6 hx6; exact hK _ hx6) | (obtain ⟨hSc, hSf, hSs⟩ := hS.cells; go_simp; exact hK _ xN))); (try simp only [List.nil_append, List.cons_append]))
        (refine walkI_nil ?_; simp only [List.nil_append, List.cons_append, fins, Is, forall_eq, Act.put, List.setIfInBounds_toArray, List.set_cons_zero, List.set_cons_succ])
        intro w3 hx3
        cases qz with
        | true =>
          have hday : x0 = x1 := by have := hqz.out; rw [beq_iff_eq] at this; exact this.symm
          have hC := Lib.hid (hcs.out hday)
          have hM3 := hMr.ext hx3
          have hxl : Hid (m + 1 + 1 ≤ xs.length) := Lib.hid (by rw [hN.out]; omega)
          have hcap0 : N ≤ c := by
            obtain ⟨cur, -, -, h3, -⟩ := hM3.cur 0 rfl
            rw [hN.out] at h3; exact h3
          clear hday hcs hgo hd hall hMr gc0 gc1
          go_wp2_with fail
          have hlt' := Lib.hid hlt
          replace hlti := Lib.hid hlti
          replace hja := Lib.hid hja
          clear hlt
          generalize decide ((N : Int) < 2) = z10
          generalize decide ((m : Int) + 1 < (N : Int)) = z15
          generalize hv12 : Value.int IntKind.i64 ((m : Int) + 1) = v12
          replace hv12 := Lib.hid hv12
          go_loopw [5, 7] (fun vi vk wr2 => ∃ (i k : Nat) (ys : List Int), vi = .int .i64 (i : Int) ∧ vk = .int .i64 ((k : Int) + 1) ∧ m + 1 + (k + 1) ≤ N ∧ i < m + 1 + (k + 1) ∧ Hid (ICmpAt xs ys i (m + 1 + (k + 1))) ∧ Mem w0 H0 (ownIn (.slice (some ⟨g, 0, none⟩) N c) ys :: LB) H wr2) (fun _ vk _ => N - (intOf vk).toNat)
          case atStart => exact ⟨m + 1, 0, xs, by rw [← hv12.out]; go_num, by go_num, by omega, by omega, hC, hM3⟩
          case round =>
            clear hM3 hC
            obtain ⟨i, k, ys, rfl, rfl, hkN, hik, hD, hM⟩ := hrel
            have hyl : Hid (ys.length = N) := by show _ = _; rw [hD.out.1]; exact hN.out
            by_cases hlt2 : k + 1 < N - (m + 1)
            · have hjx : m + 1 + (k + 1) < xs.length := by rw [hN.out]; omega
              obtain ⟨hy1, hy0⟩ := hD.out.at hjx
              obtain ⟨g1, e, hg1, gc1, hI2⟩ := inM_row hM hy1
              cases e
              obtain ⟨g1, e, -, gc0, hI0⟩ := inM_row hM hy0
              cases e
              have hsk := fun (h : (xs[m + 1 + (k + 1) - 1]'(by omega)) = xs[m + 1 + (k + 1)]) => hD.out.skip hjx h
              have hkp := fun (h : (xs[m + 1 + (k + 1) - 1]'(by omega)) ≠ xs[m + 1 + (k + 1)]) => hD.out.keep hjx h
              generalize xs[m + 1 + (k + 1)] = z1 at *
              generalize (xs[m + 1 + (k + 1) - 1]'(by omega)) = z0 at *
              have hr3 := fun W (hW : Mem w0 H0 (ownIn (.slice (some ⟨g, 0, none⟩) N c) ys :: LB) H W) => hf.out z1 z0 W _ _ hW
              obtain ⟨q, hq⟩ : ∃ q, (z1 == z0) = q := ⟨_, rfl⟩
              simp only [hq] at hr3
              replace hr3 := Lib.hid hr3
              replace hq := Lib.hid hq
              have gd1 : Hid (wr.cell? ⟨g, m + 1 + (k + 1), none⟩ = some (.int .i64 z1)) := Lib.hid gc1
              have gd0 : Hid (wr.cell? ⟨g, m + 1 + k, none⟩ = some (.int .i64 z0)) := Lib.hid (by rwa [show m + 1 + (k + 1) - 1 = m + 1 + k by omega] at gc0)
              replace hsk := Lib.hid hsk
              replace hkp := Lib.hid hkp
              replace hy1 := Lib.hid hy1
              have hja2 : decide (k + 1 < N - (m + 1)) = true := by simpa using hlt2
              have hwk : IntKind.i64.wrap (k : Int) = (k : Int) := by rw [IntKind.wrap_i64]; omega
              have hiN : i < N := by omega
              have hkN2 : k < N - (m + 1) := by omega
              clear gc1 gc0 hy0 hjx hI0
              go_upto_region 11 with (fail)
              (refine wp_region_I 12 (by kernel_rfl) (by kernel_rfl) ?_; simp only [List.toList_toArray, List.take_succ_cons, List.take_zero, List.drop_succ_cons, List.drop_zero])
              iterate 4 (refine wiA rfl (by simp) rfl ?_; (try simp only [List.nil_append, List.cons_append]))
              (refine walkI_is (u := ?_) rfl (by simp) rfl ?_ ?_; rotate_left; (focus (intro A w' hS hA K hK; (simp only [List.map_cons, List.map_nil, knows, Is, Op.operands, Call.operands, List.lookup_cons, List.lookup_nil, Nat.reduceBEq, Bool.false_eq_true, if_false, if_true, Act.eval, Array.getD_eq_getD_getElem?, List.getElem?_toArray, List.getElem?_cons_succ, List.getElem?_cons_zero, Option.getD_some, and_true, true_and, List.append_toArray, List.nil_append, List.cons_append, List.toList_toArray, Array.toList_append, Option.toArray, List.append_nil] at hA); first | (have q1 := hS.cell1 gd1.out; have q2 := cell_lt q1; go_simp; exact hK _ (Ext.rfl' _)) | (obtain ⟨hSc, hSf, hSs⟩ := hS.cells; go_simp; exact hK _ xN))); (try simp only [List.nil_append, List.cons_append]))
              iterate 4 (refine wiA rfl (by simp) rfl ?_; (try simp only [List.nil_append, List.cons_append]))
              (refine walkI_is (u := ?_) rfl (by simp) rfl ?_ ?_; rotate_left; (focus (intro A w' hS hA K hK; (simp only [List.map_cons, List.map_nil, knows, Is, Op.operands, Call.operands, List.lookup_cons, List.lookup_nil, Nat.reduceBEq, Bool.false_eq_true, if_false, if_true, Act.eval, Array.getD_eq_getD_getElem?, List.getElem?_toArray, List.getElem?_cons_succ, List.getElem?_cons_zero, Option.getD_some, and_true, true_and, List.append_toArray, List.nil_append, List.cons_append, List.toList_toArray, Array.toList_append, Option.toArray, List.append_nil] at hA); first | (have q1 := hS.cell1 gd0.out; have q2 := cell_lt q1; go_simp; exact hK _ (Ext.rfl' _)) | (obtain ⟨hSc, hSf, hSs⟩ := hS.cells; go_simp; exact hK _ xN))); (try simp only [List.nil_append, List.cons_append]))
              (refine walkI_is (u := ?_) rfl (by simp) rfl ?_ ?_; rotate_left; (focus (intro A w' hS hA K hK; (simp only [List.map_cons, List.map_nil, knows, Is, Op.operands, Call.operands, List.lookup_cons, List.lookup_nil, Nat.reduceBEq, Bool.false_eq_true, if_false, if_true, Act.eval, Array.getD_eq_getD_getElem?, List.getElem?_toArray, List.getElem?_cons_succ, List.getElem?_cons_zero, Option.getD_some, and_true, true_and, List.append_toArray, List.nil_append, List.cons_append, List.toList_toArray, Array.toList_append, Option.toArray, List.append_nil] at hA); first | (go_simp; refine RetV_at (hr3.out w' (hM.ext hS)) ?_; intro w6 hx6; exact hK _ hx6) | (obtain ⟨hSc, hSf, hSs⟩ := hS.cells; go_simp; exact hK _ xN))); (try simp only [List.nil_append, List.cons_append]))
              (refine wiA rfl (by simp) rfl ?_; (try simp only [List.nil_append, List.cons_append]))
              (refine walkI_nil ?_; simp only [List.nil_append, List.cons_append, fins, Is, forall_eq, Act.put, List.setIfInBounds_toArray, List.set_cons_zero, List.set_cons_succ])
              intro w7 hx7
              have hM7 := hM.ext hx7
              cases q with
              | true =>
                have hday2 : z0 = z1 := by have := hq.out; rw [beq_iff_eq] at this; exact this.symm
                have hD2 := Lib.hid (hsk.out hday2)
                clear hday2 hsk hkp
                go_wp2_with fail
                go_roundw
                case rel => exact ⟨i, k + 1, ys, by go_num, by go_num, by omega, by omega, hD2, hM7⟩
                case measure => simp [intOf]; omega
              | false =>
                have hday2 : ¬ z0 = z1 := by have := hq.out; rw [beq_eq_false_iff_ne] at this; exact fun e => this e.symm
                have hD2 := Lib.hid (hkp.out hday2)
                have gd7 : Hid (w7.cell? ⟨g, m + 1 + (k + 1), none⟩ = some (.int .i64 z1)) := Lib.hid (hx7.cell1 gd1.out)
                have hiy : Hid (i < ys.length) := Lib.hid (by rw [hyl.out]; omega)
                have hia : decide (i < N) = true := by simpa using hiN
                clear hday2 hsk hkp gd1 gd0
                go_upto_region 12 with (fail)
                have gd8 := gd7.out
                have gl8 := cell_lt gd8
                go_upto_region 13 with (refine wpList_store_i (xs := ys) (n := N) (cap := c) (g := g) rfl 3 (.tmp 56) _ rfl i rfl (z := z1) rfl hM7 0 rfl hiy.out hI2 (by kernel_rfl) ?c5)
                case c5 =>
                  intro w5 hM5
                  try simp only [List.set_cons_zero] at hM5
                  have hkN4 : Hid (m + 1 + (k + 1 + 1) ≤ N) := Lib.hid (by omega)
                  have hik4 : Hid (i + 1 < m + 1 + (k + 1 + 1)) := Lib.hid (by omega)
                  replace hN2 := Lib.hid hN2
                  replace hkN := Lib.hid hkN
                  replace hmN := Lib.hid hmN
                  replace hm := Lib.hid hm
                  go_wp2_with fail
                  go_roundw
                  case rel => exact ⟨i + 1, k + 1, ys.set i z1, by go_num, by go_num, hkN4.out, hik4.out, hD2, hM5⟩
                  case measure => simp [intOf]; omega
            · have hja2 : decide (k + 1 < N - (m + 1)) = false := by simpa using hlt2
              have hkN3 : m + 1 + (k + 1) = N := by omega
              have hdn : Hid (ys.take i = idd xs) := by
                have h := hD.out
                rw [hkN3, ← hN.out] at h
                exact Lib.hid h.done
              have hil : Hid (i ≤ ys.length) := Lib.hid (by rw [hyl.out]; omega)
              have hiN : i < N := by omega
              have hcap : N ≤ c := by
                obtain ⟨cur, -, -, h3, -⟩ := hM.cur 0 rfl
                rw [hyl.out] at h3; exact h3
              clear hD hkN3
              go_upto_region 14 with (fail)
              go_upto_region 15 with (refine wpList_clear_i (xs := ys) (n := N) (cap := c) (g := g) rfl (.tmp 61) 22 rfl i rfl Tryz.underlying22 zeroIn1 rfl (by kernel_rfl) hM 0 rfl hil.out ?d5)
              case d5 =>
                intro w5 hM5
                try simp only [List.set_cons_zero] at hM5
                rw [hdn.out] at hM5
                go_wp2_with fail
                go_ret
                exact ⟨_, rfl, hM5⟩
        | false =>
          have hday : ¬ x0 = x1 := by have := hqz.out; rw [beq_eq_false_iff_ne] at this; exact fun e => this e.symm
          have hD := Lib.hid (hgo.out hday)
          clear hday hcs hgo
          go_wp2_with fail
          go_roundw
          case rel => exact ⟨m + 1, by omega, by go_num, hD, hxr.then hx3⟩
          case measure => simp [intOf]; omega
      · have hja : decide (m + 1 < N) = false := by simpa using hlt
        have hdd : Hid (idd xs = xs) := by
          show _ = _
          have h := hd.out
          rw [show m + 1 = N by omega, hall.out] at h
          exact h
        have hlti : ¬ ((m + 1 : Nat) : Int) < N := by omega
        go_wp2_with fail
        go_ret
        exact ⟨_, rfl, by rw [hdd.out]; exact hMr⟩
set_option maxRecDepth 100000 in
set_option maxHeartbeats 4000000 in
theorem swapR_F {α : Type} (E : PH → List Value → α → Prop) (hm : Mono E) (hone : ∀ H cs x, E H cs x → ∀ u ∈ cs, u.oneCell' = true) (fv : Value) (g N cap a b n : Nat) (P U M V S : List α) (w0 w : World) (H0 H : PH) (LB : List Chunk)
    (hM : Mem w0 H0 (own hm 4 30 (.slice (some ⟨g, 0, none⟩) N cap) (P ++ U ++ M ++ V ++ S) :: LB) H w)
    (hN : (P ++ U ++ M ++ V ++ S).length = N) (ha : P.length = a) (hU : U.length = n) (hV : V.length = n) (hb : a + n + M.length = b) (hN6 : N ≤ 1000000) :
    Calls Tryz.prog 277 #[.slice (some ⟨g, 0, none⟩) N cap, .int .i64 a, .int .i64 b, .int .i64 n, fv] w
      (UnitP fun w' => Mem w0 H0 (own hm 4 30 (.slice (some ⟨g, 0, none⟩) N cap) (P ++ V ++ M ++ U ++ S) :: LB) H w') := by
  have hbN : b + n ≤ N := by rw [← hN, ← hb, ← ha, ← hU]; simp only [List.length_append]; omega
  replace hN := Lib.hid hN
  replace hU := Lib.hid hU
  replace hV := Lib.hid hV
  have haN : a + n ≤ b := by omega
  replace hb := Lib.hid hb
  replace ha := Lib.hid ha
  have hMo := Lib.hid hM
  clear hM
  go_enter Tryz.func277, Tryz.ntmps277
  go_wp2_with fail
  go_loopw [10] (fun vi wr => ∃ t : Nat, t ≤ n ∧ vi = .int .i64 (t : Int) ∧ Mem w0 H0 (own hm 4 30 (.slice (some ⟨g, 0, none⟩) N cap) (P ++ V.take t ++ (U.drop t ++ M ++ U.take t) ++ V.drop t ++ S) :: LB) H wr) (fun vi _ => n - (intOf vi).toNat)
  case atStart => exact ⟨0, by omega, rfl, by simpa using hMo.out⟩
  case round =>
    clear hMo
    obtain ⟨t, htn, rfl, hM⟩ := hrel
    by_cases hlt : t < n
    · have hd1 : decide (t < n) = true := decide_eq_true hlt
      have htU : t < U.length := by rw [hU.out]; exact hlt
      have htV : t < V.length := by rw [hV.out]; exact hlt
      obtain ⟨u, hu⟩ : ∃ u, U[t] = u := ⟨_, rfl⟩
      obtain ⟨v, hv⟩ : ∃ v, V[t] = v := ⟨_, rfl⟩
      have hdU : U.drop t = u :: U.drop (t + 1) := by rw [← hu]; exact List.drop_eq_getElem_cons htU
      have hdV : V.drop t = v :: V.drop (t + 1) := by rw [← hv]; exact List.drop_eq_getElem_cons htV
      have htU2 : U.take (t + 1) = U.take t ++ [u] := by rw [← hu]; exact List.take_succ_eq_append_getElem htU
      have htV2 : V.take (t + 1) = V.take t ++ [v] := by rw [← hv]; exact List.take_succ_eq_append_getElem htV
      obtain ⟨A, hA⟩ : ∃ A, P ++ V.take t = A := ⟨_, rfl⟩
      obtain ⟨B, hB⟩ : ∃ B, U.drop (t + 1) ++ M ++ U.take t = B := ⟨_, rfl⟩
      obtain ⟨C, hC⟩ : ∃ C, V.drop (t + 1) ++ S = C := ⟨_, rfl⟩
      have hAl : A.length = a + t := by rw [← hA, List.length_append, List.length_take, ha.out, hV.out]; omega
      have hBl : A.length + 1 + B.length = b + t := by
        rw [hAl, ← hB, List.length_append, List.length_append, List.length_drop, List.length_take, hU.out]; have := hb.out; omega
      have hMe : Mem w0 H0 (own hm 4 30 (.slice (some ⟨g, 0, none⟩) N cap) (A ++ u :: B ++ v :: C) :: LB) H wr := by
        rw [← hA, ← hB, ← hC]
        rw [hdU, hdV] at hM
        simpa using hM
      have hnx : Hid (P ++ V.take (t + 1) ++ (U.drop (t + 1) ++ M ++ U.take (t + 1)) ++ V.drop (t + 1) ++ S = A ++ v :: B ++ u :: C) := by
        show _ = _
        rw [← hA, ← hB, ← hC, htU2, htV2]; simp
      have hsw := Lib.hid (swap_mid A B C u v)
      rw [hAl] at hsw
      rw [hAl] at hBl
      rw [hBl] at hsw
      have hk0 : (A ++ u :: B ++ v :: C)[a + t]? = some u := by rw [← hAl, List.append_assoc, List.getElem?_append_right (Nat.le_refl _), Nat.sub_self]; rfl
      have hk1 : (A ++ u :: B ++ v :: C)[b + t]? = some v := by
        rw [← hBl, ← hAl, List.getElem?_append_right (by simp; omega)]
        simp [show A.length + 1 + B.length - (A.length + (B.length + 1)) = 0 by omega]
      clear hM hu hv hdU hdV htU2 htV2 hA hB hC hAl hBl htU htV
      generalize A ++ u :: B ++ v :: C = xs at *
      obtain ⟨g0, csx, e0, hxl, hg0, hcx, gx, hEx⟩ := hMe.row (i := 0) rfl hk0
      obtain ⟨g1, csy, e1, -, -, hcy, gy, hEy⟩ := hMe.row (i := 0) rfl hk1
      cases e0
      cases e1
      have hox := Lib.hid (hone H csx u hEx)
      have hoy := Lib.hid (hone H csy v hEy)
      have hNx : Hid (a + t < xs.length ∧ b + t < xs.length) := Lib.hid (by rw [← hxl]; omega)
      have gx3 := Lib.hid gx
      have gy3 := Lib.hid gy
      replace hEx := Lib.hid hEx
      replace hEy := Lib.hid hEy
      replace hcx := Lib.hid hcx
      replace hcy := Lib.hid hcy
      clear hk0 hk1 hxl gx gy
      have hw1 : IntKind.i64.wrap ((a : Int) + (t : Int)) = (a : Int) + (t : Int) := by rw [IntKind.wrap_i64]; omega
      have hw2 : IntKind.i64.wrap ((b : Int) + (t : Int)) = (b : Int) + (t : Int) := by rw [IntKind.wrap_i64]; omega
      have hi1 : (a : Int) + (t : Int) < (N : Int) := by omega
      have hi2 : (b : Int) + (t : Int) < (N : Int) := by omega
      have hj1 : (0 : Int) ≤ (a : Int) + (t : Int) := by omega
      have hj2 : (0 : Int) ≤ (b : Int) + (t : Int) := by omega
      have hq1 : ((a : Int) + (t : Int)).toNat = a + t := by omega
      have hq2 : ((b : Int) + (t : Int)).toNat = b + t := by omega
      go_upto_region 3 with (fail)
      have hM3 := hMe
      clear hMe
      refine wp_region_any (by kernel_rfl) ?_
      change wpAny _ _ _ _ _ _ _ (World.drew _)
      have hM7 := hM3.ext (Ext.rfl' wr).drew'
      have gx7 := Lib.hid (fun j u h => (Ext.rfl' wr).drew'.cell1 (gx3.out j u h))
      have gy7 := Lib.hid (fun j u h => (Ext.rfl' wr).drew'.cell1 (gy3.out j u h))
      refine wpAny_take (i := 0) rfl tA tA tA (fun _ _ _ h => h) (Or.inl ⟨by rfl, yA⟩) ?_
      try simp only [List.getElem_toArray, List.getElem_cons_succ, List.getElem_cons_zero, Act.put, List.setIfInBounds_toArray, List.set_cons_zero, List.set_cons_succ]
      refine wpAny_take (i := 1) rfl tA tA tA (fun _ _ _ h => h) (Or.inl ⟨by rfl, yA⟩) ?_
      try simp only [List.getElem_toArray, List.getElem_cons_succ, List.getElem_cons_zero, Act.put, List.setIfInBounds_toArray, List.set_cons_zero, List.set_cons_succ]
      refine wpAny_take (i := 2) rfl tA tA tA (fun _ _ _ h => h) (Or.inl ⟨by rfl, yA⟩) ?_
      try simp only [List.getElem_toArray, List.getElem_cons_succ, List.getElem_cons_zero, Act.put, List.setIfInBounds_toArray, List.set_cons_zero, List.set_cons_succ]
      refine wpAny_take (i := 3) rfl tA tA tA (fun _ _ _ h => h) (Or.inl ⟨by rfl, yA⟩) ?_
      try simp only [List.getElem_toArray, List.getElem_cons_succ, List.getElem_cons_zero, Act.put, List.setIfInBounds_toArray, List.set_cons_zero, List.set_cons_succ]
      refine wpAny_take (i := 4) rfl tA tA tA (fun _ _ _ h => h) (Or.inl ⟨by rfl, yA⟩) ?_
      try simp only [List.getElem_toArray, List.getElem_cons_succ, List.getElem_cons_zero, Act.put, List.setIfInBounds_toArray, List.set_cons_zero, List.set_cons_succ]
      refine wpAny_take (i := 5) rfl tA tA tA (fun _ _ _ h => h) (Or.inl ⟨by rfl, yA⟩) ?_
      try simp only [List.getElem_toArray, List.getElem_cons_succ, List.getElem_cons_zero, Act.put, List.setIfInBounds_toArray, List.set_cons_zero, List.set_cons_succ]
      refine wpAny_take (i := 6) rfl tA tA tA (fun _ _ _ h => h) (Or.inl ⟨by rfl, yA⟩) ?_
      try simp only [List.getElem_toArray, List.getElem_cons_succ, List.getElem_cons_zero, Act.put, List.setIfInBounds_toArray, List.set_cons_zero, List.set_cons_succ]
      refine wpAny_take (i := 7) rfl tA tA tA (fun _ _ _ h => h) (Or.inl ⟨by rfl, yA⟩) ?_
      try simp only [List.getElem_toArray, List.getElem_cons_succ, List.getElem_cons_zero, Act.put, List.setIfInBounds_toArray, List.set_cons_zero, List.set_cons_succ]
      refine wpAny_take (i := 8) rfl tA tA tA (fun _ _ _ h => h) (Or.inl ⟨by rfl, yA⟩) ?_
      try simp only [List.getElem_toArray, List.getElem_cons_succ, List.getElem_cons_zero, Act.put, List.setIfInBounds_toArray, List.set_cons_zero, List.set_cons_succ]
      refine wpAny_take (i := 9) rfl tA tA tA (fun _ _ _ h => h) (Or.inl ⟨by rfl, yA⟩) ?_
      try simp only [List.getElem_toArray, List.getElem_cons_succ, List.getElem_cons_zero, Act.put, List.setIfInBounds_toArray, List.set_cons_zero, List.set_cons_succ]
      refine wpAny_take (i := 10) rfl tA tA tA (fun _ _ _ h => h) (Or.inl ⟨by rfl, yA⟩) ?_
      try simp only [List.getElem_toArray, List.getElem_cons_succ, List.getElem_cons_zero, Act.put, List.setIfInBounds_toArray, List.set_cons_zero, List.set_cons_succ]
      refine wpAny_take (i := 11) rfl tA tA tA (fun _ _ _ h => h) (Or.inl ⟨by rfl, yA⟩) ?_
      try simp only [List.getElem_toArray, List.getElem_cons_succ, List.getElem_cons_zero, Act.put, List.setIfInBounds_toArray, List.set_cons_zero, List.set_cons_succ]
      refine wpAny_take (i := 12) rfl tA tA tA (fun _ _ _ h => h) (Or.inl ⟨by rfl, yA⟩) ?_
      try simp only [List.getElem_toArray, List.getElem_cons_succ, List.getElem_cons_zero, Act.put, List.setIfInBounds_toArray, List.set_cons_zero, List.set_cons_succ]
      refine wpAny_take (i := 14) rfl tA tA tA (fun _ _ _ h => h) (Or.inl ⟨by rfl, yA⟩) ?_
      try simp only [List.getElem_toArray, List.getElem_cons_succ, List.getElem_cons_zero, Act.put, List.setIfInBounds_toArray, List.set_cons_zero, List.set_cons_succ]
      refine wpAny_take (i := 15) rfl tA tA tA (fun _ _ _ h => h) (Or.inl ⟨by rfl, yA⟩) ?_
      try simp only [List.getElem_toArray, List.getElem_cons_succ, List.getElem_cons_zero, Act.put, List.setIfInBounds_toArray, List.set_cons_zero, List.set_cons_succ]
      refine wpAny_take (i := 16) rfl tA tA tA (fun _ _ _ h => h) (Or.inl ⟨by rfl, yA⟩) ?_
      try simp only [List.getElem_toArray, List.getElem_cons_succ, List.getElem_cons_zero, Act.put, List.setIfInBounds_toArray, List.set_cons_zero, List.set_cons_succ]
      refine wpAny_take (i := 17) rfl tA tA tA (fun _ _ _ h => h) (Or.inl ⟨by rfl, yA⟩) ?_
      try simp only [List.getElem_toArray, List.getElem_cons_succ, List.getElem_cons_zero, Act.put, List.setIfInBounds_toArray, List.set_cons_zero, List.set_cons_succ]
      refine wpAny_take (i := 18) rfl tA tA tA (fun _ _ _ h => h) (Or.inl ⟨by rfl, yA⟩) ?_
      try simp only [List.getElem_toArray, List.getElem_cons_succ, List.getElem_cons_zero, Act.put, List.setIfInBounds_toArray, List.set_cons_zero, List.set_cons_succ]
      refine wpAny_ready (rs := [13, 19]) (by kernel_rfl) (by simp) ?_
      refine AllReady.load rfl rfl 30 _ rfl g ((b + t) * 4) rfl csy _ gy7.out Tryz.underlying30 rfl (by rw [hcy.out]; kernel_rfl) ?_ (AllReady.load rfl rfl 30 _ rfl g ((a + t) * 4) rfl csx _ gx7.out Tryz.underlying30 rfl (by rw [hcx.out]; kernel_rfl) ?_ AllReady.nil)
      · try simp only [List.getElem_toArray, List.getElem_cons_succ, List.getElem_cons_zero, Act.put, List.setIfInBounds_toArray, List.set_cons_zero, List.set_cons_succ]
        refine wpAny_ready (rs := [19]) (by kernel_rfl) (by simp) (AllReady.load rfl rfl 30 _ rfl g ((a + t) * 4) rfl csx _ gx7.out Tryz.underlying30 rfl (by rw [hcx.out]; kernel_rfl) ?_ AllReady.nil)
        try simp only [List.getElem_toArray, List.getElem_cons_succ, List.getElem_cons_zero, Act.put, List.setIfInBounds_toArray, List.set_cons_zero, List.set_cons_succ]
        refine wpAny_take (i := 20) rfl tA tA tA (fun _ _ _ h => h) (Or.inl ⟨by rfl, yA⟩) ?_
        try simp only [List.getElem_toArray, List.getElem_cons_succ, List.getElem_cons_zero, Act.put, List.setIfInBounds_toArray, List.set_cons_zero, List.set_cons_succ]
        refine wpAny_ready (rs := [21]) (by kernel_rfl) (by simp) (AllReady.store (xs := xs) (n := N) (cap := cap) (g := g) rfl rfl 30 _ _ rfl (a + t) rfl (cs := csy) rfl (x' := v) hM7 0 rfl hNx.out.1 hEy.out hcy.out hoy.out (by kernel_rfl) ?_ AllReady.nil)
        intro w8 hM8
        simp only [List.set_cons_zero] at hM8
        try simp only [List.getElem_toArray, List.getElem_cons_succ, List.getElem_cons_zero, Act.put, List.setIfInBounds_toArray, List.set_cons_zero, List.set_cons_succ]
        refine wpAny_take (i := 22) rfl tA tA tA (fun _ _ _ h => h) (Or.inl ⟨by rfl, yA⟩) ?_
        try simp only [List.getElem_toArray, List.getElem_cons_succ, List.getElem_cons_zero, Act.put, List.setIfInBounds_toArray, List.set_cons_zero, List.set_cons_succ]
        refine wpAny_ready (rs := [23]) (by kernel_rfl) (by simp) (AllReady.store (xs := (xs.set (a + t) v)) (n := N) (cap := cap) (g := g) rfl rfl 30 _ _ rfl (b + t) rfl (cs := csx) rfl (x' := u) hM8 0 rfl (by rw [List.length_set]; exact hNx.out.2) hEx.out hcx.out hox.out (by kernel_rfl) ?_ AllReady.nil)
        intro w8 hM9
        simp only [List.set_cons_zero] at hM9
        try simp only [List.getElem_toArray, List.getElem_cons_succ, List.getElem_cons_zero, Act.put, List.setIfInBounds_toArray, List.set_cons_zero, List.set_cons_succ]
        refine wpAny_done (by kernel_rfl) ?_ _
        try simp only [List.getElem_toArray, List.getElem_cons_succ, List.getElem_cons_zero, Act.put, List.setIfInBounds_toArray, List.set_cons_zero, List.set_cons_succ]
        clear hM7 hM8 gx7 gy7
        rw [hsw.out] at hM9
        go_wp2_with fail
        go_roundw
        case rel =>
          refine ⟨t + 1, by omega, by go_num, ?_⟩
          rw [hnx.out]; exact hM9
        case measure => simp [intOf] <;> omega
      · try simp only [List.getElem_toArray, List.getElem_cons_succ, List.getElem_cons_zero, Act.put, List.setIfInBounds_toArray, List.set_cons_zero, List.set_cons_succ]
        refine wpAny_ready (rs := [13]) (by kernel_rfl) (by simp) (AllReady.load rfl rfl 30 _ rfl g ((b + t) * 4) rfl csy _ gy7.out Tryz.underlying30 rfl (by rw [hcy.out]; kernel_rfl) ?_ AllReady.nil)
        try simp only [List.getElem_toArray, List.getElem_cons_succ, List.getElem_cons_zero, Act.put, List.setIfInBounds_toArray, List.set_cons_zero, List.set_cons_succ]
        refine wpAny_take (i := 20) rfl tA tA tA (fun _ _ _ h => h) (Or.inl ⟨by rfl, yA⟩) ?_
        try simp only [List.getElem_toArray, List.getElem_cons_succ, List.getElem_cons_zero, Act.put, List.setIfInBounds_toArray, List.set_cons_zero, List.set_cons_succ]
        refine wpAny_ready (rs := [21]) (by kernel_rfl) (by simp) (AllReady.store (xs := xs) (n := N) (cap := cap) (g := g) rfl rfl 30 _ _ rfl (a + t) rfl (cs := csy) rfl (x' := v) hM7 0 rfl hNx.out.1 hEy.out hcy.out hoy.out (by kernel_rfl) ?_ AllReady.nil)
        intro w8 hM8
        simp only [List.set_cons_zero] at hM8
        try simp only [List.getElem_toArray, List.getElem_cons_succ, List.getElem_cons_zero, Act.put, List.setIfInBounds_toArray, List.set_cons_zero, List.set_cons_succ]
        refine wpAny_take (i := 22) rfl tA tA tA (fun _ _ _ h => h) (Or.inl ⟨by rfl, yA⟩) ?_
        try simp only [List.getElem_toArray, List.getElem_cons_succ, List.getElem_cons_zero, Act.put, List.setIfInBounds_toArray, List.set_cons_zero, List.set_cons_succ]
        refine wpAny_ready (rs := [23]) (by kernel_rfl) (by simp) (AllReady.store (xs := (xs.set (a + t) v)) (n := N) (cap := cap) (g := g) rfl rfl 30 _ _ rfl (b + t) rfl (cs := csx) rfl (x' := u) hM8 0 rfl (by rw [List.length_set]; exact hNx.out.2) hEx.out hcx.out hox.out (by kernel_rfl) ?_ AllReady.nil)
        intro w8 hM9
        simp only [List.set_cons_zero] at hM9
        try simp only [List.getElem_toArray, List.getElem_cons_succ, List.getElem_cons_zero, Act.put, List.setIfInBounds_toArray, List.set_cons_zero, List.set_cons_succ]
        refine wpAny_done (by kernel_rfl) ?_ _
        try simp only [List.getElem_toArray, List.getElem_cons_succ, List.getElem_cons_zero, Act.put, List.setIfInBounds_toArray, List.set_cons_zero, List.set_cons_succ]
        clear hM7 hM8 gx7 gy7
        rw [hsw.out] at hM9
        go_wp2_with fail
        go_roundw
        case rel =>
          refine ⟨t + 1, by omega, by go_num, ?_⟩
          rw [hnx.out]; exact hM9
        case measure => simp [intOf] <;> omega
    · obtain rfl : t = n := by omega
      have hd1 : decide (t < t) = false := by simp
      go_wp2_with fail
      refine bodyPost_ret (v := .tuple #[]) (by simp [results, Tryz.results277, go_sem]) rfl ⟨rfl, ?_⟩
      rw [List.take_of_length_le (by rw [hV.out]; exact Nat.le_refl _), List.drop_eq_nil_of_le (by rw [hU.out]; exact Nat.le_refl _), List.take_of_length_le (by rw [hU.out]; exact Nat.le_refl _), List.drop_eq_nil_of_le (by rw [hV.out]; exact Nat.le_refl _)] at hM
      simpa using hM
set_option maxRecDepth 100000 in
set_option maxHeartbeats 4000000 in
theorem rotR_F {α : Type} (E : PH → List Value → α → Prop) (hm : Mono E) (hone : ∀ H cs x, E H cs x → ∀ u ∈ cs, u.oneCell' = true) (fv : Value) (g N cap a m b : Nat) (P U V S : List α) (w0 w : World) (H0 H : PH) (LB : List Chunk)
    (hM : Mem w0 H0 (own hm 4 30 (.slice (some ⟨g, 0, none⟩) N cap) (P ++ U ++ V ++ S) :: LB) H w)
    (hN : (P ++ U ++ V ++ S).length = N) (ha : P.length = a) (hU : a + U.length = m) (hV : m + V.length = b) (hU1 : 1 ≤ U.length) (hV1 : 1 ≤ V.length) (hN6 : N ≤ 1000000) :
    Calls Tryz.prog 271 #[.slice (some ⟨g, 0, none⟩) N cap, .int .i64 a, .int .i64 m, .int .i64 b, fv] w
      (UnitP fun w' => Mem w0 H0 (own hm 4 30 (.slice (some ⟨g, 0, none⟩) N cap) (P ++ V ++ U ++ S) :: LB) H w') := by
  have hbN : b ≤ N := by rw [← hN, ← hV, ← hU, ← ha]; simp only [List.length_append]; omega
  obtain ⟨i0, hi0⟩ : ∃ i, U.length = i := ⟨_, rfl⟩
  obtain ⟨j0, hj0⟩ : ∃ j, V.length = j := ⟨_, rfl⟩
  rw [hi0] at hU hU1
  rw [hj0] at hV hV1
  have hw1 : IntKind.i64.wrap ((m : Int) - (a : Int)) = (i0 : Int) := by rw [IntKind.wrap_i64]; omega
  have hw2 : IntKind.i64.wrap ((b : Int) - (m : Int)) = (j0 : Int) := by rw [IntKind.wrap_i64]; omega
  obtain ⟨G, hG⟩ : ∃ G, P ++ V ++ U ++ S = G := ⟨_, rfl⟩
  rw [hG]
  have hmN : m ≤ N := by omega
  have hst : Hid (∃ P' U' V' S' : List α, U'.length = i0 ∧ V'.length = j0 ∧ P'.length + i0 = m ∧ P' ++ V' ++ U' ++ S' = G ∧ (P' ++ U' ++ V' ++ S').length = N ∧ m + j0 ≤ N ∧ Mem w0 H0 (own hm 4 30 (.slice (some ⟨g, 0, none⟩) N cap) (P' ++ U' ++ V' ++ S') :: LB) H w) := Lib.hid ⟨P, U, V, S, hi0, hj0, by omega, hG, hN, by omega, hM⟩
  clear hM hN ha hG hi0 hj0 hV hU
  go_enter Tryz.func271, Tryz.ntmps271
  go_wp2_with fail
  clear hw1 hw2
  go_loopw [10, 11] (fun vi vj wr => ∃ i j : Nat, 1 ≤ i ∧ 1 ≤ j ∧ vi = .int .i64 (i : Int) ∧ vj = .int .i64 (j : Int) ∧ Hid (∃ P' U' V' S' : List α, U'.length = i ∧ V'.length = j ∧ P'.length + i = m ∧ P' ++ V' ++ U' ++ S' = G ∧ (P' ++ U' ++ V' ++ S').length = N ∧ m + j ≤ N ∧ Mem w0 H0 (own hm 4 30 (.slice (some ⟨g, 0, none⟩) N cap) (P' ++ U' ++ V' ++ S') :: LB) H wr)) (fun vi vj _ => (intOf vi).toNat + (intOf vj).toNat)
  case atStart => exact ⟨i0, j0, hU1, hV1, rfl, rfl, hst⟩
  case round =>
    clear hst hU1 hV1
    obtain ⟨i, j, hi1, hj1, rfl, rfl, hst⟩ := hrel
    obtain ⟨P', U', V', S', hU, hV, hP, hG, hN, hmj, hM⟩ := hst.out
    clear hst
    have hw1 : IntKind.i64.wrap ((m : Int) - (i : Int)) = ((P'.length : Nat) : Int) := by rw [IntKind.wrap_i64]; omega
    obtain ⟨p, hp⟩ : ∃ p, P'.length = p := ⟨_, rfl⟩
    rw [hp] at hw1
    have hpi : p + i = m := by omega
    by_cases hij : i = j
    · subst hij
      have hne : ((i : Int) != (i : Int)) = false := by simp
      have hS := swapR_F E hm hone fv g N cap p m i P' U' [] V' S' w0 wr H0 H LB (by simpa using hM) (by simpa using hN) hp hU hV (by simpa using hpi) hN6
      have hGo := Lib.hid hG
      replace hS := Lib.hid hS
      clear hM hN hU hV hP hp hG
      go_wp2_with fail
      refine hS.out.mono ?_
      rintro e w2 ⟨rfl, hM2⟩
      clear hS
      go_wp2_with fail
      refine bodyPost_ret (v := .tuple #[]) (by simp [results, Tryz.results271, go_sem]) rfl ⟨rfl, ?_⟩
      rw [← hGo.out]
      simpa using hM2
    · have hne : ((i : Int) != (j : Int)) = true := by simp; omega
      by_cases hgt : j < i
      · have hd : decide (j < i) = true := decide_eq_true hgt
        have hw3 : IntKind.i64.wrap ((i : Int) - (j : Int)) = ((i - j : Nat) : Int) := by rw [IntKind.wrap_i64]; omega
        have e1 : U'.take j ++ U'.drop j = U' := List.take_append_drop j U'
        have l1 : (U'.take j).length = j := by rw [List.length_take]; omega
        have l2 : (U'.drop j).length = i - j := by rw [List.length_drop]; omega
        generalize U'.take j = U1 at *
        generalize U'.drop j = U2 at *
        subst e1
        have hS := swapR_F E hm hone fv g N cap p m j P' U1 U2 V' S' w0 wr H0 H LB (by simpa using hM) (by simpa using hN) hp l1 hV (by omega) hN6
        have hnx : Hid (∀ w2, Mem w0 H0 (own hm 4 30 (.slice (some ⟨g, 0, none⟩) N cap) (P' ++ V' ++ U2 ++ U1 ++ S') :: LB) H w2 → ∃ P' U' V' S' : List α, U'.length = i - j ∧ V'.length = j ∧ P'.length + (i - j) = m ∧ P' ++ V' ++ U' ++ S' = G ∧ (P' ++ U' ++ V' ++ S').length = N ∧ m + j ≤ N ∧ Mem w0 H0 (own hm 4 30 (.slice (some ⟨g, 0, none⟩) N cap) (P' ++ U' ++ V' ++ S') :: LB) H w2) := Lib.hid fun w2 h2 => ⟨P' ++ V', U2, U1, S', l2, l1, by rw [List.length_append]; omega, by rw [← hG]; simp, by rw [← hN]; simp only [List.length_append]; omega, hmj, h2⟩
        replace hS := Lib.hid hS
        clear hM hN hU hV hP hp hG l1 l2
        go_wp2_with fail
        refine hS.out.mono ?_
        rintro e w2 ⟨rfl, hM2⟩
        clear hS
        go_wp2_with fail
        go_roundw
        case rel => exact ⟨i - j, j, by omega, hj1, rfl, rfl, Lib.hid (hnx.out _ hM2)⟩
        case measure => simp [intOf] <;> omega
      · have hd : decide (j < i) = false := decide_eq_false hgt
        have hw3 : IntKind.i64.wrap ((j : Int) - (i : Int)) = ((j - i : Nat) : Int) := by rw [IntKind.wrap_i64]; omega
        have hw4 : IntKind.i64.wrap ((m : Int) + (j : Int)) = (m : Int) + (j : Int) := by rw [IntKind.wrap_i64]; omega
        have hw5 : IntKind.i64.wrap ((m : Int) + (j : Int) - (i : Int)) = ((m + j - i : Nat) : Int) := by rw [IntKind.wrap_i64]; omega
        have e1 : V'.take (j - i) ++ V'.drop (j - i) = V' := List.take_append_drop (j - i) V'
        have l1 : (V'.take (j - i)).length = j - i := by rw [List.length_take]; omega
        have l2 : (V'.drop (j - i)).length = i := by rw [List.length_drop]; omega
        generalize V'.take (j - i) = V1 at *
        generalize V'.drop (j - i) = V2 at *
        subst e1
        have hS := swapR_F E hm hone fv g N cap p (m + j - i) i P' U' V1 V2 S' w0 wr H0 H LB (by simpa using hM) (by simpa using hN) hp hU l2 (by omega) hN6
        have hnx : Hid (∀ w2, Mem w0 H0 (own hm 4 30 (.slice (some ⟨g, 0, none⟩) N cap) (P' ++ V2 ++ V1 ++ U' ++ S') :: LB) H w2 → ∃ P' U' V' S' : List α, U'.length = i ∧ V'.length = j - i ∧ P'.length + i = m ∧ P' ++ V' ++ U' ++ S' = G ∧ (P' ++ U' ++ V' ++ S').length = N ∧ m + (j - i) ≤ N ∧ Mem w0 H0 (own hm 4 30 (.slice (some ⟨g, 0, none⟩) N cap) (P' ++ U' ++ V' ++ S') :: LB) H w2) := Lib.hid fun w2 h2 => ⟨P', V2, V1, U' ++ S', l2, l1, by omega, by rw [← hG]; simp, by rw [← hN]; simp only [List.length_append]; omega, by omega, by simpa using h2⟩
        replace hS := Lib.hid hS
        clear hM hN hU hV hP hp hG l1 l2
        go_wp2_with fail
        refine hS.out.mono ?_
        rintro e w2 ⟨rfl, hM2⟩
        clear hS
        go_wp2_with fail
        go_roundw
        case rel => exact ⟨i, j - i, hi1, by omega, rfl, rfl, Lib.hid (hnx.out _ hM2)⟩
        case measure => simp [intOf] <;> omega
set_option maxRecDepth 100000 in
set_option maxHeartbeats 4000000 in
theorem insSort_F {α : Type} (c : α → α → Int) (hc : Ordr c) (E : PH → List Value → α → Prop) (hm : Mono E) (hone : ∀ H cs x, E H cs x → ∀ u ∈ cs, u.oneCell' = true) (fid g N cap a b : Nat) (P S R : List (α × Nat)) (w0 w : World) (H0 H : PH) (LB : List Chunk)
    (hM : Mem w0 H0 (own hm 4 30 (.slice (some ⟨g, 0, none⟩) N cap) ((P ++ S ++ R).map Prod.fst) :: LB) H w) (hf : HCmp E H c fid) (hfn : ∀ args w, (callFunc fid args).run Tryz.prog w = .ok (.enter fid args) w)
    (hN : (P ++ S ++ R).length = N) (ha : P.length = a) (hb : P.length + S.length = b) (hN6 : N ≤ 1000000) (hup : S.Pairwise (fun p q => p.2 < q.2)) :
    Calls Tryz.prog 255 #[.slice (some ⟨g, 0, none⟩) N cap, .int .i64 a, .int .i64 b, .func (.func fid) #[] #[]] w
      (UnitP fun w' => ∃ S', InO c S' ∧ S'.Perm S ∧ Mem w0 H0 (own hm 4 30 (.slice (some ⟨g, 0, none⟩) N cap) ((P ++ S' ++ R).map Prod.fst) :: LB) H w') := by
  have HF := Lib.hid hf; clear hf
  have hbN : b ≤ N := by rw [← hN, ← hb]; simp only [List.length_append]; omega
  replace hN := Lib.hid hN
  replace hup := Lib.hid hup
  have haN : a ≤ b := by omega
  replace hb := Lib.hid hb
  replace ha := Lib.hid ha
  have hMo := Lib.hid hM
  clear hM
  go_enter Tryz.func255, Tryz.ntmps255
  go_wp2_with fail
  go_loopw [8] (fun vi wr => ∃ (t : Nat) (S1 : List (α × Nat)), 1 ≤ t ∧ t ≤ N + 1 ∧ vi = .int .i64 ((a + t : Nat) : Int) ∧ Hid (S1.Perm (S.take t) ∧ InO c S1) ∧ Mem w0 H0 (own hm 4 30 (.slice (some ⟨g, 0, none⟩) N cap) ((P ++ S1 ++ S.drop t ++ R).map Prod.fst) :: LB) H wr) (fun vi _ => 2 * N + 1 - (intOf vi).toNat)
  case atStart =>
    refine ⟨1, S.take 1, by omega, by omega, by go_num, Lib.hid ⟨List.Perm.refl _, ?_⟩, ?_⟩
    · match S with
      | [] => exact List.Pairwise.nil
      | x :: r => exact List.pairwise_singleton _ _
    · rw [List.append_assoc P, List.take_append_drop]; exact hMo.out
  case round =>
    clear hMo
    obtain ⟨t, S1, ht, htN, rfl, hS1, hM⟩ := hrel
    by_cases hlt : a + t < b
    · have hd1 : decide (a + t < b) = true := decide_eq_true hlt
      have htS : t < S.length := by have := ha.out; have := hb.out; omega
      obtain ⟨x, hx⟩ : ∃ x, S[t] = x := ⟨_, rfl⟩
      have hdr : S.drop t = x :: S.drop (t + 1) := by rw [← hx]; exact List.drop_eq_getElem_cons htS
      have hS1l : S1.length = t := by have := hS1.out.1.length_eq; rw [List.length_take] at this; omega
      have hlast : ∀ y ∈ S1, y.2 < x.2 := by
        intro y hy
        obtain ⟨i, hi, rfl⟩ := List.getElem_of_mem (hS1.out.1.mem_iff.1 hy)
        rw [List.length_take] at hi
        rw [List.getElem_take, ← hx]
        exact (List.pairwise_iff_getElem.1 hup.out) i t (by omega) htS (by omega)
      have hnx : Hid ((S1 ++ [x]).Perm (S.take (t + 1))) := by
        show List.Perm _ _
        rw [List.take_succ_eq_append_getElem htS, hx]
        exact hS1.out.1.append_right _
      rw [hdr] at hM
      clear hdr hx
      obtain ⟨Q, hQ⟩ : ∃ Q, Q = S.drop (t + 1) ++ R := ⟨_, rfl⟩
      have hMs : Mem w0 H0 (own hm 4 30 (.slice (some ⟨g, 0, none⟩) N cap) ((P ++ S1 ++ x :: [] ++ Q).map Prod.fst) :: LB) H wr := by
        rw [hQ]; simpa using hM
      clear hM
      have hSo := hS1.out.2
      replace hlast := Lib.hid hlast
      replace hS1 := Lib.hid hS1
      replace hS1l := Lib.hid hS1l
      replace hQ := Lib.hid hQ
      go_wp2_with fail
      go_loopw [9] (fun vj wr => ∃ (j : Nat) (L D : List (α × Nat)), vj = .int .i64 (j : Int) ∧ j = a + L.length ∧ Hid (S1 = L ++ D ∧ ∀ y ∈ D, lx c x y) ∧ Mem w0 H0 (own hm 4 30 (.slice (some ⟨g, 0, none⟩) N cap) ((P ++ L ++ x :: D ++ Q).map Prod.fst) :: LB) H wr) (fun vj _ => (intOf vj).toNat)
      case atStart => exact ⟨a + t, S1, [], by go_num, by rw [hS1l.out], Lib.hid ⟨by simp, by simp⟩, hMs⟩
      case round =>
        clear hMs
        obtain ⟨j, L, D, rfl, hj, hLD, hM⟩ := hrel
        rcases List.eq_nil_or_concat L with rfl | ⟨L', y, hcon⟩
        · have hl : Hid (S1 = D ∧ ∀ y ∈ D, lx c x y) := hLD
          obtain rfl : j = a := by simpa using hj
          clear hj
          have hd2 : decide (j < j) = false := by simp
          go_upto_region 4 with (fail)
          (refine wp_region_I 17 (by kernel_rfl) (by kernel_rfl) ?_; simp only [List.toList_toArray, List.take_succ_cons, List.take_zero, List.drop_succ_cons, List.drop_zero])
          iterate 4 (refine wiA rfl (by simp) rfl ?_; (try simp only [List.nil_append, List.cons_append]))
          iterate 12 (refine walkI_no rfl (by simp) rfl rfl rfl ?_ ?_; (focus (simp [undef]; done)); (try simp only [List.nil_append, List.cons_append]))
          (refine wiA rfl (by simp) rfl ?_; (try simp only [List.nil_append, List.cons_append]))
          (refine walkI_nil ?_; simp only [List.nil_append, List.cons_append, fins, Is, forall_eq, Act.put, List.setIfInBounds_toArray, List.set_cons_zero, List.set_cons_succ])
          intro w3 hx3
          have hM3 := hM.ext hx3
          clear hM
          go_wp2_with fail
          go_roundw
          case rel =>
            refine ⟨t + 1, x :: D, by omega, by omega, by go_num, Lib.hid ⟨?_, ?_⟩, ?_⟩
            · refine List.Perm.trans ?_ hnx.out
              rw [hl.out.1]
              exact (List.perm_append_comm (l₁ := D) (l₂ := [x])).symm
            · exact List.pairwise_cons.2 ⟨hl.out.2, by rw [← hl.out.1]; exact hSo⟩
            · rw [hQ.out] at hM3; simpa using hM3
          case measure => simp [intOf]; omega
        · rw [List.concat_eq_append] at hcon
          subst hcon
          obtain ⟨m, hm'⟩ : ∃ m, a + L'.length = m := ⟨_, rfl⟩
          have hmA := Lib.hid hm'
          obtain rfl : j = m + 1 := by rw [hj, List.length_append]; simp; omega
          have hd2 : decide ((a : Int) < (m : Int) + 1) = true := by simp; omega
          have hPL : (P ++ L').length = m := by rw [List.length_append, ha.out]; exact hm'
          have hmN : m + 1 < N := by
            have := hN.out; have h1 := hS1l.out; have h2 := congrArg List.length hLD.out.1
            have h3 := hb.out; have h4 := ha.out
            simp only [List.length_append, List.length_cons, List.length_nil] at h2 hPL; omega
          have hMe : Mem w0 H0 (own hm 4 30 (.slice (some ⟨g, 0, none⟩) N cap) ((P ++ L').map Prod.fst ++ y.1 :: x.1 :: (D ++ Q).map Prod.fst) :: LB) H wr := by simpa using hM
          have hPL' : ((P ++ L').map Prod.fst).length = m := by rw [List.length_map]; exact hPL
          have hk0 : ((P ++ L').map Prod.fst ++ y.1 :: x.1 :: (D ++ Q).map Prod.fst)[m]? = some y.1 := by rw [List.getElem?_append_right (by omega), hPL', Nat.sub_self]; rfl
          have hk1 : ((P ++ L').map Prod.fst ++ y.1 :: x.1 :: (D ++ Q).map Prod.fst)[m + 1]? = some x.1 := by rw [List.getElem?_append_right (by omega), hPL', Nat.add_sub_cancel_left]; rfl
          have hsw := Lib.hid (swap_next ((P ++ L').map Prod.fst) ((D ++ Q).map Prod.fst) x.1 y.1)
          rw [hPL'] at hsw
          have hlN : ((P ++ L').map Prod.fst ++ y.1 :: x.1 :: (D ++ Q).map Prod.fst).length = N := by
            obtain ⟨g', cs', e1, e2, -⟩ := hMe.row (i := 0) rfl hk0; exact e2.symm
          obtain ⟨g0, csy, e0, -, hg0, hcy, gy, hEy⟩ := hMe.row (i := 0) rfl hk0
          obtain ⟨g1, csx, e1, -, -, hcx, gx, hEx⟩ := hMe.row (i := 0) rfl hk1
          cases e0
          cases e1
          have hcall := Lib.hid (fun W (h : Ext wr W) => HF.out W csx csy x.1 y.1 (hMe.ple.trans h.ple) hEx hEy)
          have hlxy : Hid (S1 = L' ++ y :: D ∧ ∀ z ∈ D, lx c x z) := Lib.hid ⟨by rw [hLD.out.1]; simp, hLD.out.2⟩
          have hyx : y.2 < x.2 := hlast.out y (by rw [hlxy.out.1]; simp)
          have hcE := Lib.hid (hone H csx x.1 hEx)
          have hcE2 := Lib.hid (hone H csy y.1 hEy)
          replace gx := Lib.hid gx
          replace gy := Lib.hid gy
          replace hEx := Lib.hid hEx
          replace hEy := Lib.hid hEy
          replace hMe := Lib.hid hMe
          replace hcx := Lib.hid hcx
          replace hcy := Lib.hid hcy
          have hq := Lib.hid (lx_later (c := c) hyx)
          obtain ⟨z, hz⟩ : ∃ z, c x.1 y.1 = z := ⟨_, rfl⟩
          rw [hz] at hcall hq
          clear hz hM hk0 hk1 hLD hm' hPL hPL' hj
          have hmI : (m : Int) + 1 < (N : Int) := by omega
          have hm0 : (0 : Int) ≤ (m : Int) + 1 := by omega
          have hmI2 : (m : Int) < (N : Int) := by omega
          have hwm3 : IntKind.i64.wrap (m : Int) = (m : Int) := by rw [IntKind.wrap_i64]; omega
          have hwm : IntKind.i64.wrap ((m : Int) + 1 - 1) = (m : Int) := by rw [IntKind.wrap_i64]; omega
          go_upto_region 4 with (fail)
          (refine wp_region_I 17 (by kernel_rfl) (by kernel_rfl) ?_; simp only [List.toList_toArray, List.take_succ_cons, List.take_zero, List.drop_succ_cons, List.drop_zero])
          iterate 4 (refine wiA rfl (by simp) rfl ?_; (try simp only [List.nil_append, List.cons_append]))
          iterate 4 (refine wyA rfl (by simp) rfl rfl rfl ?_; (try simp only [List.nil_append, List.cons_append]))
          (refine walkI_yesis (u := ?_) rfl (by simp) rfl rfl rfl ?_ ?_; rotate_left; (focus (intro A w' hS hA K hK; (simp only [List.map_cons, List.map_nil, knows, Is, Op.operands, Call.operands, List.lookup_cons, List.lookup_nil, Nat.reduceBEq, Bool.false_eq_true, if_false, if_true, Act.eval, Array.getD_eq_getD_getElem?, List.getElem?_toArray, List.getElem?_cons_succ, List.getElem?_cons_zero, Option.getD_some, and_true, true_and, List.append_toArray, List.nil_append, List.cons_append, List.toList_toArray, Array.toList_append, Option.toArray, List.append_nil] at hA); first | (refine oper_load_mid 30 (.tmp 25) rfl g ((m + 1) * 4) (by simpa [Act.eval] using hA) csx _ (fun j u h => hS.cell1 (gx.out j u h)) Tryz.underlying30 rfl (by rw [hcx.out]; kernel_rfl) ?_; exact hK _ (Ext.rfl' _)) | (obtain ⟨hSc, hSf, hSs⟩ := hS.cells; go_simp; exact hK _ xN))); (try simp only [List.nil_append, List.cons_append]))
          iterate 4 (refine wyA rfl (by simp) rfl rfl rfl ?_; (try simp only [List.nil_append, List.cons_append]))
          (refine walkI_yesis (u := ?_) rfl (by simp) rfl rfl rfl ?_ ?_; rotate_left; (focus (intro A w' hS hA K hK; (simp only [List.map_cons, List.map_nil, knows, Is, Op.operands, Call.operands, List.lookup_cons, List.lookup_nil, Nat.reduceBEq, Bool.false_eq_true, if_false, if_true, Act.eval, Array.getD_eq_getD_getElem?, List.getElem?_toArray, List.getElem?_cons_succ, List.getElem?_cons_zero, Option.getD_some, and_true, true_and, List.append_toArray, List.nil_append, List.cons_append, List.toList_toArray, Array.toList_append, Option.toArray, List.append_nil] at hA); first | (refine oper_load_mid 30 (.tmp 30) rfl g (m * 4) (by simpa [Act.eval] using hA) csy _ (fun j u h => hS.cell1 (gy.out j u h)) Tryz.underlying30 rfl (by rw [hcy.out]; kernel_rfl) ?_; exact hK _ (Ext.rfl' _)) | (obtain ⟨hSc, hSf, hSs⟩ := hS.cells; go_simp; exact hK _ xN))); (try simp only [List.nil_append, List.cons_append]))
          (refine walkI_yesis (u := ?_) rfl (by simp) rfl rfl rfl ?_ ?_; rotate_left; (focus (intro A w' hS hA K hK; (simp only [List.map_cons, List.map_nil, knows, Is, Op.operands, Call.operands, List.lookup_cons, List.lookup_nil, Nat.reduceBEq, Bool.false_eq_true, if_false, if_true, Act.eval, Array.getD_eq_getD_getElem?, List.getElem?_toArray, List.getElem?_cons_succ, List.getElem?_cons_zero, Option.getD_some, and_true, true_and, List.append_toArray, List.nil_append, List.cons_append, List.toList_toArray, Array.toList_append, Option.toArray, List.append_nil] at hA); first | (go_simp; refine RetV_at (hcall.out w' hS) ?_; intro w6 hx6; exact hK _ hx6) | (obtain ⟨hSc, hSf, hSs⟩ := hS.cells; go_simp; exact hK _ xN))); (try simp only [List.nil_append, List.cons_append]))
          (refine wyA rfl (by simp) rfl rfl rfl ?_; (try simp only [List.nil_append, List.cons_append]))
          (refine wiA rfl (by simp) rfl ?_; (try simp only [List.nil_append, List.cons_append]))
          (refine walkI_nil ?_; simp only [List.nil_append, List.cons_append, fins, Is, forall_eq, Act.put, List.setIfInBounds_toArray, List.set_cons_zero, List.set_cons_succ])
          intro w3 hx3
          by_cases hzl : z < 0
          · have hM3 := hMe.out.ext hx3
            have hlx := Lib.hid (hq.out.2 hzl)
            have hd3 : decide (z < 0) = true := decide_eq_true hzl
            have hNx : Hid (m < ((P ++ L').map Prod.fst ++ y.1 :: x.1 :: (D ++ Q).map Prod.fst).length ∧ m + 1 < ((P ++ L').map Prod.fst ++ y.1 :: x.1 :: (D ++ Q).map Prod.fst).length) := Lib.hid (by rw [hlN]; omega)
            have gx3 := Lib.hid (fun j u h => hx3.cell1 (gx.out j u h))
            have gy3 := Lib.hid (fun j u h => hx3.cell1 (gy.out j u h))
            have hmj : Hid (m = a + L'.length) := Lib.hid hmA.out.symm
            clear gx gy hcall hlN
            generalize hxs : (P ++ L').map Prod.fst ++ y.1 :: x.1 :: (D ++ Q).map Prod.fst = xs at *
            replace hxs := Lib.hid hxs
            go_upto_region 6 with (fail)
            refine wp_region_any (by kernel_rfl) ?_
            change wpAny _ _ _ _ _ _ _ (World.drew _)
            have hM7 := hM3.ext (Ext.rfl' w3).drew'
            have gx7 := Lib.hid (fun j u h => (Ext.rfl' w3).drew'.cell1 (gx3.out j u h))
            have gy7 := Lib.hid (fun j u h => (Ext.rfl' w3).drew'.cell1 (gy3.out j u h))
            refine wpAny_take (i := 0) rfl tA tA tA (fun _ _ _ h => h) (Or.inl ⟨by rfl, yA⟩) ?_; try simp only [Act.put, List.setIfInBounds_toArray, List.set_cons_zero, List.set_cons_succ]
            simp only [List.getElem_toArray, List.getElem_cons_succ, List.getElem_cons_zero, Act.put, List.setIfInBounds_toArray, List.set_cons_zero, List.set_cons_succ]
            refine wpAny_take (i := 1) rfl tA tA tA (fun _ _ _ h => h) (Or.inl ⟨by rfl, yA⟩) ?_; try simp only [Act.put, List.setIfInBounds_toArray, List.set_cons_zero, List.set_cons_succ]
            simp only [List.getElem_toArray, List.getElem_cons_succ, List.getElem_cons_zero, Act.put, List.setIfInBounds_toArray, List.set_cons_zero, List.set_cons_succ]
            refine wpAny_take (i := 2) rfl tA tA tA (fun _ _ _ h => h) (Or.inl ⟨by rfl, yA⟩) ?_; try simp only [Act.put, List.setIfInBounds_toArray, List.set_cons_zero, List.set_cons_succ]
            simp only [List.getElem_toArray, List.getElem_cons_succ, List.getElem_cons_zero, Act.put, List.setIfInBounds_toArray, List.set_cons_zero, List.set_cons_succ]
            refine wpAny_take (i := 3) rfl tA tA tA (fun _ _ _ h => h) (Or.inl ⟨by rfl, yA⟩) ?_; try simp only [Act.put, List.setIfInBounds_toArray, List.set_cons_zero, List.set_cons_succ]
            simp only [List.getElem_toArray, List.getElem_cons_succ, List.getElem_cons_zero, Act.put, List.setIfInBounds_toArray, List.set_cons_zero, List.set_cons_succ]
            refine wpAny_take (i := 4) rfl tA tA tA (fun _ _ _ h => h) (Or.inl ⟨by rfl, yA⟩) ?_; try simp only [Act.put, List.setIfInBounds_toArray, List.set_cons_zero, List.set_cons_succ]
            simp only [List.getElem_toArray, List.getElem_cons_succ, List.getElem_cons_zero, Act.put, List.setIfInBounds_toArray, List.set_cons_zero, List.set_cons_succ]
            refine wpAny_take (i := 5) rfl tA tA tA (fun _ _ _ h => h) (Or.inl ⟨by rfl, yA⟩) ?_; try simp only [Act.put, List.setIfInBounds_toArray, List.set_cons_zero, List.set_cons_succ]
            simp only [List.getElem_toArray, List.getElem_cons_succ, List.getElem_cons_zero, Act.put, List.setIfInBounds_toArray, List.set_cons_zero, List.set_cons_succ]
            refine wpAny_take (i := 6) rfl tA tA tA (fun _ _ _ h => h) (Or.inl ⟨by rfl, yA⟩) ?_; try simp only [Act.put, List.setIfInBounds_toArray, List.set_cons_zero, List.set_cons_succ]
            simp only [List.getElem_toArray, List.getElem_cons_succ, List.getElem_cons_zero, Act.put, List.setIfInBounds_toArray, List.set_cons_zero, List.set_cons_succ]
            refine wpAny_take (i := 7) rfl tA tA tA (fun _ _ _ h => h) (Or.inl ⟨by rfl, yA⟩) ?_; try simp only [Act.put, List.setIfInBounds_toArray, List.set_cons_zero, List.set_cons_succ]
            simp only [List.getElem_toArray, List.getElem_cons_succ, List.getElem_cons_zero, Act.put, List.setIfInBounds_toArray, List.set_cons_zero, List.set_cons_succ]
            refine wpAny_take (i := 8) rfl tA tA tA (fun _ _ _ h => h) (Or.inl ⟨by rfl, yA⟩) ?_; try simp only [Act.put, List.setIfInBounds_toArray, List.set_cons_zero, List.set_cons_succ]
            simp only [List.getElem_toArray, List.getElem_cons_succ, List.getElem_cons_zero, Act.put, List.setIfInBounds_toArray, List.set_cons_zero, List.set_cons_succ]
            refine wpAny_take (i := 10) rfl tA tA tA (fun _ _ _ h => h) (Or.inl ⟨by rfl, yA⟩) ?_; try simp only [Act.put, List.setIfInBounds_toArray, List.set_cons_zero, List.set_cons_succ]
            simp only [List.getElem_toArray, List.getElem_cons_succ, List.getElem_cons_zero, Act.put, List.setIfInBounds_toArray, List.set_cons_zero, List.set_cons_succ]
            refine wpAny_take (i := 11) rfl tA tA tA (fun _ _ _ h => h) (Or.inl ⟨by rfl, yA⟩) ?_; try simp only [Act.put, List.setIfInBounds_toArray, List.set_cons_zero, List.set_cons_succ]
            simp only [List.getElem_toArray, List.getElem_cons_succ, List.getElem_cons_zero, Act.put, List.setIfInBounds_toArray, List.set_cons_zero, List.set_cons_succ]
            refine wpAny_take (i := 12) rfl tA tA tA (fun _ _ _ h => h) (Or.inl ⟨by rfl, yA⟩) ?_; try simp only [Act.put, List.setIfInBounds_toArray, List.set_cons_zero, List.set_cons_succ]
            simp only [List.getElem_toArray, List.getElem_cons_succ, List.getElem_cons_zero, Act.put, List.setIfInBounds_toArray, List.set_cons_zero, List.set_cons_succ]
            refine wpAny_ready (rs := [9, 13]) (by kernel_rfl) (by simp) ?_
            refine AllReady.load rfl rfl 30 _ rfl g (m * 4) rfl csy _ gy7.out Tryz.underlying30 rfl (by rw [hcy.out]; kernel_rfl) ?_ (AllReady.load rfl rfl 30 _ rfl g ((m + 1) * 4) rfl csx _ gx7.out Tryz.underlying30 rfl (by rw [hcx.out]; kernel_rfl) ?_ AllReady.nil)
            · simp only [List.getElem_toArray, List.getElem_cons_succ, List.getElem_cons_zero, Act.put, List.setIfInBounds_toArray, List.set_cons_zero, List.set_cons_succ]
              refine wpAny_ready (rs := [13]) (by kernel_rfl) (by simp) (AllReady.load rfl rfl 30 _ rfl g ((m + 1) * 4) rfl csx _ gx7.out Tryz.underlying30 rfl (by rw [hcx.out]; kernel_rfl) ?_ AllReady.nil)
              simp only [List.getElem_toArray, List.getElem_cons_succ, List.getElem_cons_zero, Act.put, List.setIfInBounds_toArray, List.set_cons_zero, List.set_cons_succ]
              refine wpAny_take (i := 14) rfl tA tA tA (fun _ _ _ h => h) (Or.inl ⟨by rfl, yA⟩) ?_
              try simp only [List.getElem_toArray, List.getElem_cons_succ, List.getElem_cons_zero, Act.put, List.setIfInBounds_toArray, List.set_cons_zero, List.set_cons_succ]
              refine wpAny_ready (rs := [15]) (by kernel_rfl) (by simp) (AllReady.store (xs := xs) (n := N) (cap := cap) (g := g) rfl rfl 30 _ _ rfl (m + 1) rfl (cs := csy) rfl (x' := y.1) hM7 0 rfl hNx.out.2 hEy.out hcy.out hcE2.out (by kernel_rfl) ?_ AllReady.nil)
              intro w8 hM8
              simp only [List.set_cons_zero] at hM8
              try simp only [List.getElem_toArray, List.getElem_cons_succ, List.getElem_cons_zero, Act.put, List.setIfInBounds_toArray, List.set_cons_zero, List.set_cons_succ]
              refine wpAny_take (i := 16) rfl tA tA tA (fun _ _ _ h => h) (Or.inl ⟨by rfl, yA⟩) ?_
              try simp only [List.getElem_toArray, List.getElem_cons_succ, List.getElem_cons_zero, Act.put, List.setIfInBounds_toArray, List.set_cons_zero, List.set_cons_succ]
              refine wpAny_ready (rs := [17]) (by kernel_rfl) (by simp) (AllReady.store (xs := (xs.set (m + 1) y.1)) (n := N) (cap := cap) (g := g) rfl rfl 30 _ _ rfl m rfl (cs := csx) rfl (x' := x.1) hM8 0 rfl (by rw [List.length_set]; exact hNx.out.1) hEx.out hcx.out hcE.out (by kernel_rfl) ?_ AllReady.nil)
              intro w8 hM9
              simp only [List.set_cons_zero] at hM9
              try simp only [List.getElem_toArray, List.getElem_cons_succ, List.getElem_cons_zero, Act.put, List.setIfInBounds_toArray, List.set_cons_zero, List.set_cons_succ]
              refine wpAny_done (by kernel_rfl) ?_ _
              try simp only [List.getElem_toArray, List.getElem_cons_succ, List.getElem_cons_zero, Act.put, List.setIfInBounds_toArray, List.set_cons_zero, List.set_cons_succ]
              clear hM7 hM8
              rw [hsw.out] at hM9
              go_wp2_with fail
              go_roundw
              case rel =>
                refine ⟨m, L', y :: D, by go_num, hmA.out.symm, Lib.hid ⟨hlxy.out.1, fun u hu => ?_⟩, ?_⟩
                · rcases List.mem_cons.1 hu with rfl | hu
                  · exact hlx.out
                  · exact hlxy.out.2 u hu
                · simpa using hM9
              case measure => simp [intOf] <;> omega
            · simp only [List.getElem_toArray, List.getElem_cons_succ, List.getElem_cons_zero, Act.put, List.setIfInBounds_toArray, List.set_cons_zero, List.set_cons_succ]
              refine wpAny_ready (rs := [9]) (by kernel_rfl) (by simp) (AllReady.load rfl rfl 30 _ rfl g (m * 4) rfl csy _ gy7.out Tryz.underlying30 rfl (by rw [hcy.out]; kernel_rfl) ?_ AllReady.nil)
              simp only [List.getElem_toArray, List.getElem_cons_succ, List.getElem_cons_zero, Act.put, List.setIfInBounds_toArray, List.set_cons_zero, List.set_cons_succ]
              refine wpAny_take (i := 14) rfl tA tA tA (fun _ _ _ h => h) (Or.inl ⟨by rfl, yA⟩) ?_
              try simp only [List.getElem_toArray, List.getElem_cons_succ, List.getElem_cons_zero, Act.put, List.setIfInBounds_toArray, List.set_cons_zero, List.set_cons_succ]
              refine wpAny_ready (rs := [15]) (by kernel_rfl) (by simp) (AllReady.store (xs := xs) (n := N) (cap := cap) (g := g) rfl rfl 30 _ _ rfl (m + 1) rfl (cs := csy) rfl (x' := y.1) hM7 0 rfl hNx.out.2 hEy.out hcy.out hcE2.out (by kernel_rfl) ?_ AllReady.nil)
              intro w8 hM8
              simp only [List.set_cons_zero] at hM8
              try simp only [List.getElem_toArray, List.getElem_cons_succ, List.getElem_cons_zero, Act.put, List.setIfInBounds_toArray, List.set_cons_zero, List.set_cons_succ]
              refine wpAny_take (i := 16) rfl tA tA tA (fun _ _ _ h => h) (Or.inl ⟨by rfl, yA⟩) ?_
              try simp only [List.getElem_toArray, List.getElem_cons_succ, List.getElem_cons_zero, Act.put, List.setIfInBounds_toArray, List.set_cons_zero, List.set_cons_succ]
              refine wpAny_ready (rs := [17]) (by kernel_rfl) (by simp) (AllReady.store (xs := (xs.set (m + 1) y.1)) (n := N) (cap := cap) (g := g) rfl rfl 30 _ _ rfl m rfl (cs := csx) rfl (x' := x.1) hM8 0 rfl (by rw [List.length_set]; exact hNx.out.1) hEx.out hcx.out hcE.out (by kernel_rfl) ?_ AllReady.nil)
              intro w8 hM9
              simp only [List.set_cons_zero] at hM9
              try simp only [List.getElem_toArray, List.getElem_cons_succ, List.getElem_cons_zero, Act.put, List.setIfInBounds_toArray, List.set_cons_zero, List.set_cons_succ]
              refine wpAny_done (by kernel_rfl) ?_ _
              try simp only [List.getElem_toArray, List.getElem_cons_succ, List.getElem_cons_zero, Act.put, List.setIfInBounds_toArray, List.set_cons_zero, List.set_cons_succ]
              clear hM7 hM8
              rw [hsw.out] at hM9
              go_wp2_with fail
              go_roundw
              case rel =>
                refine ⟨m, L', y :: D, by go_num, hmA.out.symm, Lib.hid ⟨hlxy.out.1, fun u hu => ?_⟩, ?_⟩
                · rcases List.mem_cons.1 hu with rfl | hu
                  · exact hlx.out
                  · exact hlxy.out.2 u hu
                · simpa using hM9
              case measure => simp [intOf] <;> omega
          · have hd3 : decide (z < 0) = false := decide_eq_false hzl
            have hM3 := hMe.out.ext hx3
            have hlx : Hid (lx c y x) := Lib.hid (lx_not hyx (by rw [← lx_later hyx]; exact fun h => hzl (hq.out.1 h)))
            clear gx gy hcall hlN
            generalize hxs : (P ++ L').map Prod.fst ++ y.1 :: x.1 :: (D ++ Q).map Prod.fst = xs at *
            replace hxs := Lib.hid hxs
            go_wp2_with fail
            go_roundw
            case rel =>
              obtain ⟨k1, k2⟩ := hlxy.out
              have hy : InO c (L' ++ y :: D) := by rw [← k1]; exact hSo
              refine ⟨t + 1, (L' ++ [y]) ++ x :: D, by omega, by omega, by go_num, Lib.hid ⟨?_, ?_⟩, ?_⟩
              · refine List.Perm.trans ?_ hnx.out
                rw [k1, show L' ++ y :: D = (L' ++ [y]) ++ D by simp, List.append_assoc (L' ++ [y])]
                exact List.Perm.append_left _ (List.perm_append_comm (l₁ := [x]) (l₂ := D))
              · obtain ⟨p1, p2, p3⟩ := List.pairwise_append.1 hy
                refine InO.insert hc (by simpa using hy) (fun u hu => ?_) k2
                rcases List.mem_append.1 hu with hu | hu
                · exact lx_trans hc (p3 u hu y (by simp)) hlx.out
                · rw [List.mem_singleton.1 hu]; exact hlx.out
              · rw [← hxs.out, hQ.out] at hM3
                simpa using hM3
            case measure => simp [intOf]; omega
    · have hd1 : decide (a + t < b) = false := decide_eq_false hlt
      go_wp2_with fail
      refine bodyPost_ret (v := .tuple #[]) (by simp [results, Tryz.results255, go_sem]) rfl ⟨rfl, S1, hS1.out.2, ?_, ?_⟩
      · have := hS1.out.1
        rwa [List.take_of_length_le (by have := hb.out; have := ha.out; omega)] at this
      · rw [List.drop_eq_nil_of_le (by have := hb.out; have := ha.out; omega), List.append_nil] at hM
        exact hM
end Go.Proofs.YtabajghokhfmhaaGreat
