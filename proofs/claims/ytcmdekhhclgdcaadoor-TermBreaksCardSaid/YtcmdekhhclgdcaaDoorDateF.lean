/- package civil: Date. -/
import Derived.Test.YtcmdekhhclgdcaaDoorNumber
import Derived.Test.YtcmdekhhclgdcaaDoorCalmR
namespace Go.Proofs.YtcmdekhhclgdcaaDoor
open Go.RowKit Go.Shelf
set_option linter.unusedSimpArgs false
set_option linter.unusedVariables false
attribute [local go_sem] Oper.semAt_some
/-- what the loop of Date leaves: the month and the day -/
def accD (y rest : Int) (pre : List (Fin 12)) : Int × Int := pre.foldl (fun s k => if dayM y k.val ≤ rest then ((k.val : Int) + 1, rest - dayM y k.val + 1) else s) (0, 0)
theorem accD_snoc (y rest : Int) (pre : List (Fin 12)) (k : Fin 12) : accD y rest (pre ++ [k]) = if dayM y k.val ≤ rest then ((k.val : Int) + 1, rest - dayM y k.val + 1) else accD y rest pre := by simp [accD]
theorem accD_all (y rest : Int) (h0 : 0 ≤ rest) (h1 : rest < dayM y 12) : 1 ≤ (accD y rest (List.finRange 12)).1 ∧ (accD y rest (List.finRange 12)).1 ≤ 12 ∧ 1 ≤ (accD y rest (List.finRange 12)).2 ∧
    (accD y rest (List.finRange 12)).2 ≤ lenM y (accD y rest (List.finRange 12)).1 ∧ dayM y ((accD y rest (List.finRange 12)).1 - 1).toNat + (accD y rest (List.finRange 12)).2 - 1 = rest := by
  have h : ∀ K, 1 ≤ K → K ≤ 12 → ∃ j : Nat, j < K ∧ accD y rest (monthsTo K) = ((j : Int) + 1, rest - dayM y j + 1) ∧ dayM y j ≤ rest ∧ ∀ i, j < i → i < K → rest < dayM y i := by
    intro K
    induction K with
    | zero => intro h; omega
    | succ K ih =>
      intro _ hK
      rw [monthsTo_succ (by omega), accD_snoc]
      by_cases e : dayM y K ≤ rest
      · exact ⟨K, by omega, by rw [if_pos e], e, fun i h1 h2 => by omega⟩
      · rw [if_neg e]
        by_cases hK0 : K = 0
        · subst hK0; simp [dayM] at e; omega
        · obtain ⟨j, q1, q2, q3, q4⟩ := ih (by omega) (by omega)
          refine ⟨j, by omega, q2, q3, fun i h1 h2 => ?_⟩
          by_cases hi : i = K
          · subst hi; omega
          · exact q4 i h1 (by omega)
  obtain ⟨j, q1, q2, q3, q4⟩ := h 12 (by omega) (by omega)
  rw [monthsTo_all] at q2
  rw [q2]
  have hlt : rest < dayM y (j + 1) := by
    by_cases e : j + 1 = 12
    · rw [e]; exact h1
    · exact q4 (j + 1) (by omega) (by omega)
  rw [dayM] at hlt
  simp only []
  rw [show ((j : Int) + 1 - 1).toNat = j by omega]
  omega
/-- Date: the date and the error -/
noncomputable def dateE (d : Int) : (Int × Int × Int) × Int := if 0 ≤ d ∧ d ≤ 131072 then (dateV d, 0) else ((0, 0, 0), 5)
def DateP (w : World) (d : Int) (e : Ending) (w' : World) : Prop := e = .returned (.tuple #[.agg #[.int .i64 (dateE d).1.1, .int .i64 (dateE d).1.2.1, .int .i64 (dateE d).1.2.2], .int .i64 (dateE d).2]) ∧ Below w.heap.size w w'
set_option maxRecDepth 100000 in
set_option maxHeartbeats 2000000 in
theorem date_in (d : Int) (w : World) (hV : VL (ph w)) : CallsIn Fence.wide 5 Tryd.prog 61 #[.int .i64 d] w (DateP w d) := by
  have hwV := hV.lt
  refine callsIn_of_wp_marks Tryd.func61 rfl trivial ?_ rfl
  simp only [Tryd.ntmps61, List.size_toArray, List.length_cons, List.length_nil, Nat.reduceAdd, Nat.reduceSub, Array.replicate_succ, Array.replicate_zero, List.push_toArray, List.append_toArray, List.nil_append, List.cons_append]
  by_cases hr : 0 ≤ d ∧ d ≤ 131072
  · have hDE : Hid (dateE d = (dateV d, 0)) := if_pos hr
    refine wpIn_wide.2 ?_
    go_wp2_with fail
    refine RetP_at (civilIn_c d 0 131072 _) ?_
    rw [inB_t hr]
    go_wp2_with fail
    have hO := Own.new w #[.int .i64 0, .int .i64 0, .int .i64 0] 94
    have hxW := Ext.new w (.cells #[.int .i64 0, .int .i64 0, .int .i64 0] 94)
    have hszW : w.heap.size + 1 ≤ (w.alloc (.cells #[.int .i64 0, .int .i64 0, .int .i64 0] 94)).heap.size := by simp
    have hVW := hV.mono hxW.ple
    generalize w.alloc _ = W at *
    have hb4 := bef1900
    have q3 : 693595 ≤ bef 1900 := by omega
    have q4 : bef 1900 ≤ 693595 := by omega
    have h0 := bef_up (a := 1900) (b := 1900 + d / 366) (by omega)
    have h00 : bef (1900 + d / 366) - bef 1900 ≤ d := by omega
    clear hb4 h0
    go_loopw [4] (fun i wr => ∃ y : Int, i = .int .i64 y ∧ 1900 ≤ y ∧ y ≤ 2300 ∧ bef y - bef 1900 ≤ d ∧ wr = W) (fun i _ => 2301 - (intOf i).toNat)
    case atStart => exact ⟨1900 + d / 366, by first | rfl | go_num, by omega, by omega, h00, rfl⟩
    case round =>
      obtain ⟨y, rfl, hy0, hy1, hyd, rfl⟩ := hrel
      have e1 := bef_mono (a := 1900) (b := y) hy0
      have e2 := bef_up (a := y) (b := y + 1) (by omega)
      have e3 := bef_mono (a := y) (b := y + 1) (by omega)
      have q5 : 0 ≤ bef (y + 1) := by omega
      have q6 : bef (y + 1) ≤ 1000000 := by omega
      have q7 : 693595 ≤ bef y := by omega
      have q8 : bef y ≤ 1000000 := by omega
      have hy2 : y + 1 ≤ 2300 ∨ d < bef (y + 1) - bef 1900 := by have := bef_mono (a := 1900) (b := y + 1) (by omega); omega
      clear e1 e2 e3
      go_wp2_with fail
      refine RetP_at (before_c (y + 1) _ (by omega) (by omega)) ?_
      go_wp2_with fail
      refine RetP_at (before_c 1900 _ (by omega) (by omega)) ?_
      by_cases hlt : bef (y + 1) - bef 1900 ≤ d
      · go_wp2_with fail
        go_roundw
        case rel => exact ⟨y + 1, rfl, by omega, by omega, hlt, trivial⟩
        case measure => simp [intOf]; omega
      · have e4 := bef_succ y
        have e5 := dayM_12 y
        generalize hrs : d - bef y + bef 1900 = rest at *
        have r0 : 0 ≤ rest := by omega
        have r1 : rest < dayM y 12 := by omega
        have r2 : rest ≤ 366 := by split at e4 <;> omega
        have r3 : Hid (d = bef y - bef 1900 + rest) := by show _ = _; omega
        replace hrs := Lib.hid hrs
        clear e4 e5 hy2
        have q9 : IntKind.i64.wrap (d - bef y) = d - bef y := by rw [IntKind.wrap_i64]; omega
        go_wp2_with fail
        refine RetP_at (before_c y _ (by omega) (by omega)) ?_
        go_wp2_with fail
        refine RetP_at (before_c 1900 _ (by omega) (by omega)) ?_
        go_wp2_with fail
        rw [hrs.out]
        have oR : Own (wr.alloc (.cells #[.int .i64 rest] 3)) wr.heap.size #[.int .i64 rest] 3 := Own.new _ _ _
        have oD : Own ((wr.alloc (.cells #[.int .i64 rest] 3)).alloc (.cells #[.int .i64 y, .int .i64 0, .int .i64 0] 94)) (wr.heap.size + 1) #[.int .i64 y, .int .i64 0, .int .i64 0] 94 := Own.new' _ _ _ (by simp)
        replace oR := oR.alloc (.cells #[.int .i64 y, .int .i64 0, .int .i64 0] 94)
        have oO := (hO.alloc (.cells #[.int .i64 rest] 3)).alloc (.cells #[.int .i64 y, .int .i64 0, .int .i64 0] 94)
        have hx3 : Ext w ((wr.alloc (.cells #[.int .i64 rest] 3)).alloc (.cells #[.int .i64 y, .int .i64 0, .int .i64 0] 94)) := (by repeat (first | (with_reducible assumption) | (with_reducible exact Ext.rfl' _) | (with_reducible exact Ext.new _ _) | (with_reducible refine Ext.alloc' ?_ _) | (with_reducible refine Ext.drew' ?_) | (with_reducible refine Ext.drewN' ?_ _) | (with_reducible refine Ext.set' ?_ ?_ _; rotate_left; (focus (first | omega | (simp; done) | (simp; omega)))) | (with_reducible refine Ext.then (b := ?_) ?_ ?_; rotate_left; rotate_left; (with_reducible assumption))))
        have hs3 : ((wr.alloc (.cells #[.int .i64 rest] 3)).alloc (.cells #[.int .i64 y, .int .i64 0, .int .i64 0] 94)).heap.size = wr.heap.size + 2 := by simp
        refine (months_p y _).mono ?_
        rintro e w' ⟨rfl, rfl⟩
        go_wp2_with fail
        refine (wpIn_wide (n := 5)).1 ?_
        generalize (wr.alloc (.cells #[.int .i64 rest] 3)).alloc (.cells #[.int .i64 y, .int .i64 0, .int .i64 0] 94) = W3 at *
        have hb0 := cell_new_l W3 (.int .i64 y) 3
        rw [hs3] at hb0
        have hV3 := hV.mono hx3.ple
        replace oR := oR.alloc (.cells #[.int .i64 y] 3)
        replace oD := oD.alloc (.cells #[.int .i64 y] 3)
        replace oO := oO.alloc (.cells #[.int .i64 y] 3)
        refine wpIn_rangeFunc_ownF rfl (by omega) (gf := 109) (lb := #[.pointer (some ⟨wr.heap.size + 2, 0, none⟩)]) rfl trivial (enters_of Tryd.func109 (by kernel_rfl) rfl)
          (encs := fun x : Fin 12 => #[.int .i64 ((x.val : Int) + 1), .int .i64 (dayM y x.val)]) (Kp := KB w.heap.size (wr.heap.size + 2)) (S := fun ys => ys = List.finRange 12) (Sp := fun _ => True) (N := 12)
          (w0 := W3.alloc (.cells #[.int .i64 y] 3))
          ?seq KB.then (KB.put (by simp; omega) (by simp; omega)) (Below.refl _ _) (fun _ => rfl)
          (fun pre W => (Own W wr.heap.size #[.int .i64 rest] 3 ∧ Own W (wr.heap.size + 1) #[.int .i64 y, .int .i64 (accD y rest pre).1, .int .i64 (accD y rest pre).2] 94 ∧ Own W w.heap.size #[.int .i64 0, .int .i64 0, .int .i64 0] 94) ∧ Below w.heap.size w W)
          (fun _ _ _ => False)
          (OwnFrom.and (Own.from (fun s A B row hs hg hr => ⟨own_kept hs.1 hg hr, own_kept hs.2.1 hg hr, own_kept hs.2.2 hg hr⟩) _) (ownFrom_below (Nat.le_refl _) (by simp; omega)))
          (fun _ _ _ _ _ hs _ _ => hs)
          ⟨⟨oR, oD, oO⟩, Below.alloc hx3 (by omega) _⟩
          ?a1 ?assign ?body ?done ?stop
        case assign =>
          intro l x W K hK
          gi_wp2
          exact hK
        case seq =>
          intro l J Jx W hW _ _ hY h0
          refine months_in 4 l (wr.heap.size + 2) w.heap.size y (by omega) (by omega) (by omega) J Jx hY W ?_ h0 |>.mono ?_
          rotate_left
          · rintro e W' ⟨h1, ⟨ys, h2, h3⟩ | ⟨pre, h2⟩⟩
            · exact ⟨h1, .inl ⟨ys, h2, h3⟩⟩
            · exact ⟨h1, .inr ⟨pre, trivial, h2⟩⟩
          intro wr' hkb
          exact ⟨hkb.2.trans ((hW.cell (p := ⟨_, 0, none⟩) (by simp; omega)).trans hb0.1), (hV3.mono (Ext.ple ((Ext.new W3 _).then hW))).below hkb.1 hwV⟩
        case body =>
          rintro l pre x W ⟨⟨o1, o2, o3⟩, hB⟩ hlen
          have hx := dayM_372 y x
          have hs := Lib.hid (accD_snoc y rest pre x)
          obtain ⟨c1, f1⟩ := o1.facts
          obtain ⟨c2, f2⟩ := o2.facts
          have l1 := o1.lt
          have l2 := o2.lt
          by_cases e : dayM y x.val ≤ rest
          · have hs2 : Hid (accD y rest (pre ++ [x]) = ((x.val : Int) + 1, rest - dayM y x.val + 1)) := by show _ = _; rw [hs.out, if_pos e]
            clear hs
            have FIN : ∀ W : World, (Own W wr.heap.size #[.int .i64 rest] 3 ∧ Own W (wr.heap.size + 1) #[.int .i64 y, .int .i64 (accD y rest pre).1, .int .i64 (accD y rest pre).2] 94 ∧ Own W w.heap.size #[.int .i64 0, .int .i64 0, .int .i64 0] 94) → Below w.heap.size w W →
                KeepsOthers W ((W.drew.setCell ⟨wr.heap.size + 1, 1, none⟩ (.int .i64 ((x.val : Int) + 1))).setCell ⟨wr.heap.size + 1, 2, none⟩ (.int .i64 (rest - dayM y x.val + 1))) ∧
                KB w.heap.size (wr.heap.size + 2) W ((W.drew.setCell ⟨wr.heap.size + 1, 1, none⟩ (.int .i64 ((x.val : Int) + 1))).setCell ⟨wr.heap.size + 1, 2, none⟩ (.int .i64 (rest - dayM y x.val + 1))) ∧
                ((Own ((W.drew.setCell ⟨wr.heap.size + 1, 1, none⟩ (.int .i64 ((x.val : Int) + 1))).setCell ⟨wr.heap.size + 1, 2, none⟩ (.int .i64 (rest - dayM y x.val + 1))) wr.heap.size #[.int .i64 rest] 3 ∧
                  Own ((W.drew.setCell ⟨wr.heap.size + 1, 1, none⟩ (.int .i64 ((x.val : Int) + 1))).setCell ⟨wr.heap.size + 1, 2, none⟩ (.int .i64 (rest - dayM y x.val + 1))) (wr.heap.size + 1) #[.int .i64 y, .int .i64 (accD y rest (pre ++ [x])).1, .int .i64 (accD y rest (pre ++ [x])).2] 94 ∧
                  Own ((W.drew.setCell ⟨wr.heap.size + 1, 1, none⟩ (.int .i64 ((x.val : Int) + 1))).setCell ⟨wr.heap.size + 1, 2, none⟩ (.int .i64 (rest - dayM y x.val + 1))) w.heap.size #[.int .i64 0, .int .i64 0, .int .i64 0] 94) ∧
                  Below w.heap.size w ((W.drew.setCell ⟨wr.heap.size + 1, 1, none⟩ (.int .i64 ((x.val : Int) + 1))).setCell ⟨wr.heap.size + 1, 2, none⟩ (.int .i64 (rest - dayM y x.val + 1)))) := by
              rintro W ⟨o1, o2, o3⟩ hB
              have hg : w.heap.size ≤ wr.heap.size + 1 := by omega
              have hb' : Below w.heap.size W ((W.drew.setCell ⟨wr.heap.size + 1, 1, none⟩ (.int .i64 ((x.val : Int) + 1))).setCell ⟨wr.heap.size + 1, 2, none⟩ (.int .i64 (rest - dayM y x.val + 1))) := ((Below.drew (Below.refl w.heap.size W)).setCell (p := ⟨wr.heap.size + 1, 1, none⟩) hg _).setCell (p := ⟨wr.heap.size + 1, 2, none⟩) hg _
              refine ⟨((KeepsOthers.drew W).trans (KeepsOthers.setCell _ _ _)).trans (KeepsOthers.setCell _ _ _), ⟨hb', ?_⟩, ⟨(o1.drew.setOther (by simp) _).setOther (by simp) _, ?_, (o3.drew.setOther (by simp; omega) _).setOther (by simp; omega) _⟩, hB.trans hb'⟩
              · rw [cell_set_other (by simp), cell_set_other (by simp)]; rfl
              · have h := (o2.drew.set 1 (.int .i64 ((x.val : Int) + 1))).set 2 (.int .i64 (rest - dayM y x.val + 1))
                rw [hs2.out]
                exact h
            have hw1 : IntKind.i64.wrap (rest - dayM y x.val) = rest - dayM y x.val := by rw [IntKind.wrap_i64]; omega
            have hw2 : IntKind.i64.wrap (rest - dayM y x.val + 1) = rest - dayM y x.val + 1 := by rw [IntKind.wrap_i64]; omega
            gi_wp2
            (refine wpIn_region_any (by kernel_rfl) (wpAny_in (noDefer_of (by kernel_rfl)) _ _ _ _ ?_); change wpAny _ _ _ _ _ _ _ (World.drew _))
            (refine wpAny_take (i := 0) (v := ?_) rfl (by kernel_rfl) (by kernel_rfl) (by kernel_rfl) (fun _ _ _ h => h) (Or.inl ⟨by rfl, ?_⟩) ?_; rotate_left; (focus ((intro w; go_simp); try (with_reducible rfl))); (try simp only [Act.put, List.setIfInBounds_toArray, List.set_cons_zero, List.set_cons_succ]))
            (refine wpAny_take (i := 2) (v := ?_) rfl (by kernel_rfl) (by kernel_rfl) (by kernel_rfl) (fun _ _ _ h => h) (Or.inl ⟨by rfl, ?_⟩) ?_; rotate_left; (focus ((intro w; go_simp); try (with_reducible rfl))); (try simp only [Act.put, List.setIfInBounds_toArray, List.set_cons_zero, List.set_cons_succ]))
            (refine wpAny_take (i := 5) (v := ?_) rfl (by kernel_rfl) (by kernel_rfl) (by kernel_rfl) (fun _ _ _ h => h) (Or.inl ⟨by rfl, ?_⟩) ?_; rotate_left; (focus ((intro w; go_simp); try (with_reducible rfl))); (try simp only [Act.put, List.setIfInBounds_toArray, List.set_cons_zero, List.set_cons_succ]))
            (refine wpAny_ready (rs := [1, 6]) (by kernel_rfl) (by simp) ?_; refine AllReady.cons rfl (fun K hK => ?_) (AllReady.cons rfl (fun K hK => ?_) AllReady.nil); (focus (go_simp; refine hK _ _ ?_; clear hK K)); rotate_left; (focus (go_simp; refine hK _ _ ?_; clear hK K)); rotate_left)
            · (refine wpAny_take (i := 3) (v := ?_) rfl (by kernel_rfl) (by kernel_rfl) (by kernel_rfl) (fun _ _ _ h => h) (Or.inl ⟨by rfl, ?_⟩) ?_; rotate_left; (focus ((intro w; go_simp); try (with_reducible rfl))); (try simp only [Act.put, List.setIfInBounds_toArray, List.set_cons_zero, List.set_cons_succ]))
              (refine wpAny_take (i := 4) (v := ?_) rfl (by kernel_rfl) (by kernel_rfl) (by kernel_rfl) (fun _ _ _ h => h) (Or.inl ⟨by rfl, ?_⟩) ?_; rotate_left; (focus ((intro w; go_simp); try (with_reducible rfl))); (try simp only [Act.put, List.setIfInBounds_toArray, List.set_cons_zero, List.set_cons_succ]))
              (refine wpAny_ready (rs := [6]) (by kernel_rfl) (by simp) ?_; refine AllReady.cons rfl (fun K hK => ?_) AllReady.nil; go_simp; refine hK _ _ ?_; clear hK K)
              (refine wpAny_take (i := 7) (v := ?_) rfl (by kernel_rfl) (by kernel_rfl) (by kernel_rfl) (fun _ _ _ h => h) (Or.inl ⟨by rfl, ?_⟩) ?_; rotate_left; (focus ((intro w; go_simp); try (with_reducible rfl))); (try simp only [Act.put, List.setIfInBounds_toArray, List.set_cons_zero, List.set_cons_succ]))
              (refine wpAny_ready (rs := [8]) (by kernel_rfl) (by simp) ?_; refine AllReady.cons rfl (fun K hK => ?_) AllReady.nil; go_simp; refine hK _ _ ?_; clear hK K)
              refine wpAny_done (by kernel_rfl) ?_ _
              show Exit.inBlock 3 _ .normal _ _
              gi_wp2
              exact FIN W ⟨o1, o2, o3⟩ hB
            · (refine wpAny_ready (rs := [1]) (by kernel_rfl) (by simp) ?_; refine AllReady.cons rfl (fun K hK => ?_) AllReady.nil; go_simp; refine hK _ _ ?_; clear hK K)
              (refine wpAny_take (i := 3) (v := ?_) rfl (by kernel_rfl) (by kernel_rfl) (by kernel_rfl) (fun _ _ _ h => h) (Or.inl ⟨by rfl, ?_⟩) ?_; rotate_left; (focus ((intro w; go_simp); try (with_reducible rfl))); (try simp only [Act.put, List.setIfInBounds_toArray, List.set_cons_zero, List.set_cons_succ]))
              (refine wpAny_take (i := 4) (v := ?_) rfl (by kernel_rfl) (by kernel_rfl) (by kernel_rfl) (fun _ _ _ h => h) (Or.inl ⟨by rfl, ?_⟩) ?_; rotate_left; (focus ((intro w; go_simp); try (with_reducible rfl))); (try simp only [Act.put, List.setIfInBounds_toArray, List.set_cons_zero, List.set_cons_succ]))
              (refine wpAny_take (i := 7) (v := ?_) rfl (by kernel_rfl) (by kernel_rfl) (by kernel_rfl) (fun _ _ _ h => h) (Or.inl ⟨by rfl, ?_⟩) ?_; rotate_left; (focus ((intro w; go_simp); try (with_reducible rfl))); (try simp only [Act.put, List.setIfInBounds_toArray, List.set_cons_zero, List.set_cons_succ]))
              (refine wpAny_ready (rs := [8]) (by kernel_rfl) (by simp) ?_; refine AllReady.cons rfl (fun K hK => ?_) AllReady.nil; go_simp; refine hK _ _ ?_; clear hK K)
              refine wpAny_done (by kernel_rfl) ?_ _
              show Exit.inBlock 3 _ .normal _ _
              gi_wp2
              exact FIN W ⟨o1, o2, o3⟩ hB
          · have hs2 : Hid (accD y rest (pre ++ [x]) = accD y rest pre) := by show _ = _; rw [hs.out, if_neg e]
            clear hs
            gi_wp2
            exact ⟨KeepsOthers.refl _, KB.rfl' _ _ _, ⟨o1, by rw [hs2.out]; exact o2, o3⟩, hB⟩
        case done =>
          rintro D xs W hD rfl ⟨⟨o1, o2, o3⟩, hB⟩ hK
          obtain ⟨g1, g2, g3, g4, g5⟩ := accD_all y rest r0 r1
          obtain ⟨c2, f2⟩ := o2.facts
          obtain ⟨c3, f3⟩ := o3.facts
          generalize accD y rest (List.finRange 12) = md at *
          obtain ⟨mm, dd⟩ := md
          replace g5 := Lib.hid g5
          dsimp only at g1 g2 g3 g4 c2 o2
          gi_wp2
          go_wp2_with fail
          have o4 := ((o3.set 0 (.int .i64 y)).set 1 (.int .i64 mm)).set 2 (.int .i64 dd)
          have b4 : Below w.heap.size w (((W.setCell ⟨w.heap.size, 0, none⟩ (.int .i64 y)).setCell ⟨w.heap.size, 1, none⟩ (.int .i64 mm)).setCell ⟨w.heap.size, 2, none⟩ (.int .i64 dd)) :=
            ((hB.setCell (p := ⟨w.heap.size, 0, none⟩) (Nat.le_refl _) _).setCell (p := ⟨w.heap.size, 1, none⟩) (Nat.le_refl _) _).setCell (p := ⟨w.heap.size, 2, none⟩) (Nat.le_refl _) _
          have hDw : wr.heap.size + 2 < D := by simp at hD; omega
          have k4 : (((W.setCell ⟨w.heap.size, 0, none⟩ (.int .i64 y)).setCell ⟨w.heap.size, 1, none⟩ (.int .i64 mm)).setCell ⟨w.heap.size, 2, none⟩ (.int .i64 dd)).heap[D]? = some (Obj.deferred (some [])) := by
            rw [Below.heap_setCell _ _ _ _ (show D ≠ w.heap.size by omega), Below.heap_setCell _ _ _ _ (show D ≠ w.heap.size by omega), Below.heap_setCell _ _ _ _ (show D ≠ w.heap.size by omega)]
            exact hK
          generalize ((W.setCell ⟨w.heap.size, 0, none⟩ (.int .i64 y)).setCell ⟨w.heap.size, 1, none⟩ (.int .i64 mm)).setCell ⟨w.heap.size, 2, none⟩ (.int .i64 dd) = W4 at *
          have b5 := belowK_b (w := wr) (Nat.le_refl _) W4 D _ (.deferred none) (by omega) k4 rfl rfl
          obtain ⟨c4, -⟩ := o4.facts
          have r0' := (b5.cell (p := ⟨w.heap.size, 0, none⟩) (show w.heap.size < wr.heap.size by omega)).trans (c4 0)
          have r1' := (b5.cell (p := ⟨w.heap.size, 1, none⟩) (show w.heap.size < wr.heap.size by omega)).trans (c4 1)
          have r2' := (b5.cell (p := ⟨w.heap.size, 2, none⟩) (show w.heap.size < wr.heap.size by omega)).trans (c4 2)
          simp at r0' r1' r2'
          refine ⟨by simp, .inl ⟨_, _, rfl, run_takeDeferred k4, ?_⟩⟩
          have hdv : dateV d = (y, mm, dd) := dateV_eq ⟨by omega, by omega, by omega, by omega, by omega, by have h1 := g5.out; have h2 := r3.out; omega⟩
          refine ⟨.tuple #[.agg #[.int .i64 y, .int .i64 mm, .int .i64 dd], .int .i64 0], by simp [results, Tryd.results61, go_sem, r0', r1', r2'], ?_⟩
          unfold DateP
          rw [hDE.out, hdv]
          exact ⟨rfl, b4.trans (b5.mono (by omega))⟩
        case stop =>
          rintro D c pre W _ _ h _
          exact h.elim
  · have hD : Hid (dateE d = ((0, 0, 0), 5)) := if_neg hr
    refine wpIn_wide.2 ?_
    go_wp2_with fail
    refine RetP_at (civilIn_c d 0 131072 _) ?_
    rw [inB_f hr]
    go_wp2_with fail
    exact ⟨.tuple #[.agg #[.int .i64 0, .int .i64 0, .int .i64 0], .int .i64 5], by simp [results, Tryd.results61, go_sem], by unfold DateP; rw [hD.out]; exact ⟨rfl, (by repeat (first | (with_reducible assumption) | (with_reducible exact Ext.rfl' _) | (with_reducible exact Ext.new _ _) | (with_reducible refine Ext.alloc' ?_ _) | (with_reducible refine Ext.drew' ?_) | (with_reducible refine Ext.drewN' ?_ _) | (with_reducible refine Ext.set' ?_ ?_ _; rotate_left; (focus (first | omega | (simp; done) | (simp; omega)))) | (with_reducible refine Ext.then (b := ?_) ?_ ?_; rotate_left; rotate_left; (with_reducible assumption))))⟩⟩
theorem date_c (d : Int) (w : World) (hV : VL (ph w)) : Calls Tryd.prog 61 #[.int .i64 d] w (DateP w d) := (callsIn_wide (n := 5)).1 (date_in d w hV)
end Go.Proofs.YtcmdekhhclgdcaaDoor
