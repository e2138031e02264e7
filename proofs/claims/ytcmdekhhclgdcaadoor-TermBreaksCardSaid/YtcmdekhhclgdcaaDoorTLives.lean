/- the examples of the section on terms. -/
import Derived.Test.YtcmdekhhclgdcaaDoorTGens
namespace Go.Proofs.YtcmdekhhclgdcaaDoor
open Go.RowKit Go.Shelf
set_option linter.unusedSimpArgs false
set_option linter.unusedVariables false
theorem add_0_1 : addV 0 1 = (31, 0) := by
  have h : IsDate 0 1900 1 1 := ⟨by omega, by omega, by omega, by omega, by unfold lenM; omega, by rw [bef1900]; rfl⟩
  have e : addD (dateV 0) 1 = 31 := by
    rw [dateV_eq h]
    unfold addD numV
    simp only [bef1900]
    rfl
  unfold addV
  rw [if_neg (by omega), if_neg (by omega), e]
  rfl
abbrev c0 : Cal := ([], [])
theorem calE_0 : calE c0 = 0 := by
  unfold calE
  rw [if_neg (by simp), if_neg (by simp), ErrIf_t]
  exact ⟨fun k hk => by simp at hk, fun k hk => by simp at hk⟩
theorem checkE_0 {office d : Int} (ho : 0 ≤ office ∧ office ≤ 11) (hd : 0 ≤ d ∧ d ≤ 131072) : checkE c0 office d = 0 := by
  unfold checkE
  rw [calE_0]
  simp only [ne_eq, not_true, if_false]
  rw [if_neg (by simpa using ho), if_neg (by simpa using hd)]
abbrev a1 : Ac := ⟨9, 10, 0, 0, 0, 0, 0, 12, 0⟩
abbrev a2 : Ac := ⟨9, 32, 0, 0, 0, 0, 0, 33, 0⟩
theorem tchk_0' : tchk 0 [] = 0 := by unfold tchk; rw [if_neg (by omega)]; rfl
theorem tchk_2 : tchk 0 [a1, a2] = 0 := by unfold tchk; rw [if_neg (by omega)]; rfl
theorem brk_2 : BrkOk 0 [a1, a2] [(10, 12), (32, 33)] := by
  refine ⟨⟨by decide, by decide, show (32 : Int) ≤ 33 by decide⟩, fun d => ?_, ?_, by simp⟩
  · unfold cov brokB brkB
    simp
  · intro x hx
    simp at hx
    rcases hx with rfl | rfl <;> decide
theorem nextE_0 {xs : List Ac} {d : Int} (hd : 0 ≤ d ∧ d ≤ 131072) (h : ∀ x ∈ xs, x.kind ≠ 20) : nextE c0 xs 0 d = (d, 0) := by
  unfold nextE
  rw [if_pos (checkE_0 (by omega) hd)]
  show nextF _ (4095 + 1) d = _
  unfold nextF
  rw [if_neg (by omega), if_pos]
  unfold opB
  have : xs.any (shutB 0 d) = false := by
    rw [List.any_eq_false]
    intro x hx
    have := h x hx
    unfold shutB
    simp [this]
  rw [this]
  simp
theorem end_1 : endE c0 [] 0 0 0 1 = (31, 0) := by
  unfold endE
  rw [checkE_0 (by omega) (by omega), tchk_0', add_0_1]
  simp only [ne_eq, not_true, if_false]
  have e : endF (brokB 0 []) 131074 (0 + 1) 31 = 31 := by
    show endF (brokB 0 []) (131073 + 1) (0 + 1) 31 = 31
    exact endF_stop (.inl (by rfl))
  rw [e, if_neg (by omega)]
  exact nextE_0 (by omega) (fun x hx => by cases hx)
theorem end_2 : endE c0 [a1, a2] 0 0 0 1 = (36, 0) := by
  unfold endE
  rw [checkE_0 (by omega) (by omega), tchk_2, add_0_1]
  simp only [ne_eq, not_true, if_false]
  have m1 : many (brokB 0 [a1, a2]) (0 + 1) 31 = 3 := by rfl
  have m2 : many (brokB 0 [a1, a2]) (31 + 1) (31 + 3) = 2 := by rfl
  have m3 : many (brokB 0 [a1, a2]) (31 + 3 + 1) (31 + 3 + 2) = 0 := by rfl
  have e : endF (brokB 0 [a1, a2]) 131074 (0 + 1) 31 = 36 := by
    show endF (brokB 0 [a1, a2]) (131073 + 1) (0 + 1) 31 = 36
    rw [endF_go (by rw [m1]; omega), m1]
    show endF (brokB 0 [a1, a2]) (131072 + 1) (31 + 1) (31 + 3) = 36
    rw [endF_go (by rw [m2]; omega), m2]
    show endF (brokB 0 [a1, a2]) (131071 + 1) (31 + 3 + 1) (31 + 3 + 2) = 36
    rw [endF_stop (.inl m3)]
    rfl
  rw [e, if_neg (by omega)]
  exact nextE_0 (by omega) (fun x hx => by simp at hx; rcases hx with rfl | rfl <;> decide)
theorem fill_act2 (X Y : Ac) : Instr.fill (fun i => some (i * 19, 19)) (Array.map (fun x => (Value.agg #[Value.int .i64 0, Value.int .i64 0, Value.int .i64 0, Value.int .i64 0, Value.int .i64 0, Value.int .i64 0, Value.int .i64 0, Value.int .i64 0, Value.int .i64 0, Value.int .i64 0, Value.int .i64 0, Value.slice none 0 0, Value.slice none 0 0, Value.slice none 0 0, Value.slice none 0 0, Value.int .i64 0, Value.int .i64 0, Value.slice none 0 0, Value.slice none 0 0]).cells[x % (Value.agg #[Value.int .i64 0, Value.int .i64 0, Value.int .i64 0, Value.int .i64 0, Value.int .i64 0, Value.int .i64 0, Value.int .i64 0, Value.int .i64 0, Value.int .i64 0, Value.int .i64 0, Value.int .i64 0, Value.slice none 0 0, Value.slice none 0 0, Value.slice none 0 0, Value.slice none 0 0, Value.int .i64 0, Value.int .i64 0, Value.slice none 0 0, Value.slice none 0 0]).cells.size]!) (Array.range (2 * 19))) [(0, Value.agg (actC X).toArray), (1, Value.agg (actC Y).toArray)] = some (actC X ++ actC Y).toArray := by kernel_rfl
theorem wpList_slice_act2 {ops : Array Oper} {rest : List Oper} {o : Oper} {a : Act} {w : World} {Q : Exit → Act → World → Prop} (hg : o.guard = none) (x y : Operand) (ho : o.op = .buildSlice 24 2 #[(0, x), (1, y)]) (X Y : Ac)
    (hx : a.eval x = .agg (actC X).toArray) (hy : a.eval y = .agg (actC Y).toArray) (h : wpList Tryd.prog ops Q rest (a.put o.dst (.slice (some ⟨w.heap.size, 0, none⟩) 2 2)) (w.alloc (.cells (actC X ++ actC Y).toArray 63))) : wpList Tryd.prog ops Q (o :: rest) a w := by
  obtain ⟨i, hi, hz0, hz1, hz2⟩ := info_parts infoAct
  refine wpList_buildSlice hg _ 63 2 _ ho (actC X ++ actC Y).toArray i _ Tryd.underlying24 hi hz0 (by rw [hz1]; decide) (by rw [hz1]; decide) ?_ h
  rw [hz1]
  simp only [List.map_toArray, List.map_cons, List.map_nil, hx, hy]
  exact fill_act2 X Y
theorem two_rep (w : World) (X Y : Ac) (hX : X.I) (hY : Y.I) : ActsR (ph (w.alloc (.cells (actC X ++ actC Y).toArray 63))) (.slice (some ⟨w.heap.size, 0, none⟩) 2 2) [X, Y] := by
  have h : OwnS 0 noH (w.alloc (.cells (actC X ++ actC Y).toArray 63)) ActR 19 63 (.slice (some ⟨w.heap.size, 0, none⟩) 2 2) [X, Y] :=
    OwnS.ofNew (xs := [X, Y]) (Nat.zero_le _) (Proofs.YtcmdekhhclgdcaaDoor.Own.new w (actC X ++ actC Y).toArray 63) rfl (by decide) rfl ⟨actC X, actC Y, rfl, rfl, ⟨rfl, hX⟩, actC Y, [], by simp, rfl, ⟨rfl, hY⟩, rfl⟩
  exact h.rep mono_ActR (noH_le _)
theorem eqIv_run (a b c d : Int) (w : World) : (Op.equalIn 10000 34 (.agg #[.int .i64 a, .int .i64 b]) (.agg #[.int .i64 c, .int .i64 d])).run Tryd.prog w = .ok (a == c && b == d) w := by
  have u3 := Tryd.underlying3
  have a3 := Tryd.isAgg3
  have z3 := Tryd.sizeOf3
  rw [show (10000 : Nat) = 9999 + 1 from rfl, Op.equalIn]
  simp only [Sem.run_bind, run_underlying Tryd.underlying34, Result.andThen_ok]
  simp only [Std.Legacy.Range.forIn_eq_forIn_range', Std.Legacy.Range.size, Nat.sub_zero, Nat.add_sub_cancel, Nat.div_one, List.range'_succ, List.range'_zero, List.forIn_cons, List.forIn_nil]
  go_simp
  by_cases h1 : a = c <;> by_cases h2 : b = d <;> simp [h1, h2]
attribute [local go_sem] eqIv_run
theorem calR_0 (h : PH) : CalR h (.agg #[.slice none 0 0, .slice none 0 0]) c0 := ⟨_, _, rfl, SliceRep.nil _ _ _, SliceRep.nil _ _ _⟩
set_option maxRecDepth 100000 in
set_option maxHeartbeats 2000000 in
theorem lives_c (w : World) (hV : VL (ph w)) : Calls Tryd.prog 19 #[] w (RetV w (.bool true)) := by
  have h1 := fun w hV => end_c c0 [] 0 0 0 1 _ (.slice none 0 0) w (calR_0 _) (SliceRep.nil _ _ _) (by simp) hV
  have h2 := fun va w hA hV => end_c c0 [a1, a2] 0 0 0 1 _ va w (calR_0 _) hA (by simp) hV
  have h3 := fun va w hA => breaks_c 0 [a1, a2] va w hA (by simp)
  rw [end_1] at h1
  rw [end_2] at h2
  dsimp only [two] at h1 h2
  unfold BrkP at h3
  rw [tchk_2] at h3
  have hI1 : a1.I := by unfold Ac.I I64; dsimp only; omega
  have hI2 : a2.I := by unfold Ac.I I64; dsimp only; omega
  go_enter Tryd.func19, Tryd.ntmps19
  go_wp2_with fail
  refine RetV_at (h1 _ hV) ?_
  intro w2 hx2
  clear h1
  go_upto_region 3 with (first | (refine wpList_build_act (o := ⟨some 14, _, _, _, _, _⟩) rfl _ rfl a1 (by kernel_rfl) ?_) | (refine wpList_build_act (o := ⟨some 15, _, _, _, _, _⟩) rfl _ rfl a2 (by kernel_rfl) ?_) | (refine wpList_slice_act2 rfl _ _ rfl a1 a2 rfl rfl ?_))
  have hA := two_rep w2 a1 a2 hI1 hI2
  have hx3 : Ext w (w2.alloc (.cells (actC a1 ++ actC a2).toArray 63)) := (by repeat (first | (with_reducible assumption) | (with_reducible exact Ext.rfl' _) | (with_reducible exact Ext.new _ _) | (with_reducible refine Ext.alloc' ?_ _) | (with_reducible refine Ext.drew' ?_) | (with_reducible refine Ext.drewN' ?_ _) | (with_reducible refine Ext.set' ?_ ?_ _; rotate_left; (focus (first | omega | (simp; done) | (simp; omega)))) | (with_reducible refine Ext.then (b := ?_) ?_ ?_; rotate_left; rotate_left; (with_reducible assumption))))
  generalize w2.alloc _ = W at *
  go_wp2_with fail
  refine RetV_at (h2 _ _ hA (hV.mono hx3.ple)) ?_
  intro w4 hx4
  have hx5 := hx3.then hx4
  go_wp2_with fail
  refine (h3 _ _ (hA.mono mono_ActR hx4.ple)).mono ?_
  rintro e w5 ⟨vb, lb, rfl, hx6, hlb, hok, -⟩
  obtain rfl := (hok trivial).uniq brk_2
  obtain ⟨ba, bc, rfl, -⟩ := hlb.form
  obtain ⟨g0, o0, rfl, p0, p1, pg, -⟩ := IvsR.at hlb 0 (by decide)
  obtain ⟨g1, o1, e1, r0, r1, -⟩ := IvsR.at hlb 1 (by decide)
  cases e1
  simp at p0 p1 r0 r1
  go_wp2_with fail
  go_ret
  exact ⟨rfl, hx5.then hx6⟩
end Go.Proofs.YtcmdekhhclgdcaaDoor
