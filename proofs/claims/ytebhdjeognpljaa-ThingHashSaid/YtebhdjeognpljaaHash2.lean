/- package hash: Sum. -/
import Derived.RangeFuncFrom
import Derived.Test.YtebhdjeognpljaaHash
namespace Go.Proofs.Ytebhdjeognpljaa
open Go.RowKit Go.Shelf
set_option linter.unusedSimpArgs false
set_option linter.unusedVariables false
attribute [local go_sem] Oper.semAt_some
theorem mix_p (s m : Int) (w : World) : Calls Try.prog 76 #[.int .u64 s, .int .u64 m] w fun e w' => e = .returned (.int .u64 (mixI s m)) ∧ w = w' := by
  go_enter Try.func76, Try.ntmps76
  go_wp2_with fail
  go_ret
  exact ⟨rfl, rfl⟩
theorem wordsS_p (s : ByteArray) (w : World) : Calls Try.prog 75 #[.string s] w fun e w' => e = .returned (.func (.func 90) #[] #[.pointer (some ⟨w.heap.size, 0, none⟩)]) ∧ w' = w.alloc (.cells #[.string s] 9) := by
  go_enter Try.func75, Try.ntmps75
  go_wp2_with fail
  go_ret
  exact ⟨rfl, rfl⟩
def foldM (s : Int) (l : List Int) : Int := l.foldl mixI s
theorem foldM_snoc (s : Int) (l : List Int) (x : Int) : foldM s (l ++ [x]) = mixI (foldM s l) x := by simp [foldM]
theorem KB.put {n₀ Bs : Nat} {w : World} (hn : n₀ ≤ w.heap.size) (hB : Bs < w.heap.size) (W : World) (l : Nat) (o o' : Obj) (hl : w.heap.size ≤ l) (h : W.heap[l]? = some o) (h1 : o.isCells = false) (h2 : o.isWalk = false) : KB n₀ Bs W (W.putObj l o') :=
  ⟨belowK_b (w := w) hn W l o o' hl h h1 h2, (belowK_b (w := w) (n₀ := w.heap.size) (Nat.le_refl _) W l o o' hl h h1 h2).cell (p := ⟨Bs, 0, none⟩) hB⟩
theorem cell_new_l (W : World) (v : Value) (t : TypeId) : (W.alloc (.cells #[v] t)).cell? ⟨W.heap.size, 0, none⟩ = some v ∧ (W.alloc (.cells #[v] t)).frozen? ⟨W.heap.size, 0, none⟩ = false :=
  have h := World.alloc_heap_new W (.cells #[v] t)
  ⟨by unfold World.cell?; rw [h]; rfl, by unfold World.frozen?; rw [h]; rfl⟩
theorem cell_alloc_l {W : World} {a : Addr} {v : Value} (o : Obj) (h : W.cell? a = some v) : (W.alloc o).cell? a = some v := cell_kept h (World.grownBy_alloc W o none) (fun r e => by cases e)
theorem frozen_alloc_l {W : World} {a : Addr} {v : Value} (o : Obj) (h : W.cell? a = some v) (hf : W.frozen? a = false) : (W.alloc o).frozen? a = false := (frozen_kept h (World.grownBy_alloc W o none) (fun r e => by cases e)).trans hf
theorem cell_set_other {W : World} {b B j : Nat} {v : Value} (h : b ≠ B) : (W.setCell ⟨b, j, none⟩ v).cell? ⟨B, 0, none⟩ = W.cell? ⟨B, 0, none⟩ := by
  unfold World.cell?
  rw [Below.heap_setCell _ _ _ _ (fun e => h e.symm)]
def sumI (zs : List UInt8) (l : List Int) : Int := mixI (foldM (mixI (mixI (foldM 0 (wordsOf zs)) (IntKind.u64.wrap zs.length)) (IntKind.u64.wrap l.length)) (l.map IntKind.u64.wrap)) 0
set_option maxRecDepth 100000 in
set_option maxHeartbeats 2000000 in
theorem sum_in (s : ByteArray) (vl : Value) (l : List Int) (w : World) (hl : IntsR (ph w) vl l) (hs : s.data.toList.length ≤ 1000000) (hll : l.length ≤ 1000000) :
    CallsIn Fence.wide 5 Try.prog 47 #[.string s, vl] w fun e W' => e = .returned (.int .u64 (sumI s.data.toList l)) ∧ Below w.heap.size w W' := by
  obtain ⟨a, c, rfl, -, hl⟩ := hl.form
  refine callsIn_of_wp_marks Try.func47 rfl trivial ?_ rfl
  simp only [Try.ntmps47, List.size_toArray, List.length_cons, List.length_nil, Nat.reduceAdd, Nat.reduceSub, Array.replicate_succ, Array.replicate_zero, List.push_toArray, List.append_toArray, List.nil_append, List.cons_append]
  gi_wp2_with (refine ⟨trivial, ?_⟩; gi_at_call 75; refine (callsIn_wide.2 (wordsS_p _ _)).mono ?_; rintro e w' ⟨rfl, rfl⟩)
  have hs0 := cell_new_l w (.int .u64 0) 49
  have hb0 := cell_new_l (w.alloc (.cells #[.int .u64 0] 49)) (.string s) 9
  rw [World.size_alloc] at hb0
  have hB0 : Below w.heap.size w ((w.alloc (.cells #[.int .u64 0] 49)).alloc (.cells #[.string s] 9)) := ((Below.refl _ w).alloc (Nat.le_refl _) _).alloc (by simp) _
  have hsz : ((w.alloc (.cells #[.int .u64 0] 49)).alloc (.cells #[.string s] 9)).heap.size = w.heap.size + 2 := by simp
  refine wpIn_rangeFunc_ownF rfl (by omega) (gf := 90) (lb := #[.pointer (some ⟨w.heap.size + 1, 0, none⟩)]) rfl trivial (enters_of Try.func90 (by kernel_rfl) rfl)
    (encs := fun x : Int => #[.int .u64 x]) (Kp := KB w.heap.size (w.heap.size + 1)) (S := fun ys => ys = wordsOf s.data.toList) (Sp := fun _ => True) (N := s.data.toList.length)
    (w0 := (w.alloc (.cells #[.int .u64 0] 49)).alloc (.cells #[.string s] 9))
    ?seq KB.then (KB.put (by simp; omega) (by simp)) (Below.refl _ _) (fun _ => rfl)
    (fun pre W => (W.cell? ⟨w.heap.size, 0, none⟩ = some (.int .u64 (foldM 0 pre)) ∧ W.frozen? ⟨w.heap.size, 0, none⟩ = false) ∧ Below w.heap.size w W)
    (fun _ _ _ => False)
    (OwnFrom.and (Own.from (fun s A B row hs hg hr => ⟨cell_kept hs.1 hg hr, (frozen_kept hs.1 hg hr).trans hs.2⟩) _) (ownFrom_below (Nat.le_refl _) (by simp; omega)))
    (fun _ _ _ _ _ hs _ _ => hs)
    ⟨⟨cell_alloc_l _ hs0.1, frozen_alloc_l _ hs0.1 hs0.2⟩, hB0⟩
    ?a1 ?assign ?body ?done ?stop
  case assign =>
    intro l x W K hK
    gi_wp2
    exact hK
  case seq =>
    intro l J Jx W hW _ _ hY h0
    refine wordsS_in 4 l (w.heap.size + 1) w.heap.size s s.data.toList (by omega) hs J Jx hY W ?_ h0 |>.mono ?_
    rotate_left
    · rintro e W' ⟨h1, ⟨ys, h2, h3⟩ | ⟨pre, h2⟩⟩
      · exact ⟨h1, .inl ⟨ys, h2, h3⟩⟩
      · exact ⟨h1, .inr ⟨pre, trivial, h2⟩⟩
    intro wr hkb
    exact ⟨hkb.2.trans ((hW.cell (p := ⟨_, 0, none⟩) (by simp)).trans hb0.1), rfl⟩
  case body =>
    rintro l pre x W ⟨⟨hc, hf⟩, hB⟩ _
    gi_wp2
    refine ⟨trivial, ?_⟩
    refine (CallsIn.inRound l (callsIn_wide.2 (mix_p _ _ _))).mono ?_
    rintro e w' ⟨rfl, rfl⟩
    gi_wp2
    refine ⟨KeepsOthers.setCell _ _ _, ⟨(Below.refl w.heap.size W).setCell (p := ⟨w.heap.size, 0, none⟩) (Nat.le_refl _) _, cell_set_other (by omega)⟩, ⟨?_, ?_⟩, hB.setCell (p := ⟨w.heap.size, 0, none⟩) (Nat.le_refl _) _⟩
    · rw [foldM_snoc]; exact World.cell?_setCell_same' _ _ _ (by rw [hc]; rfl)
    · rw [World.frozen?_setCell]; exact hf
  case done =>
    rintro D xs W hD rfl ⟨⟨hc, hf⟩, hB⟩ hK
    have hl2 := hl.mono mono_IntR (Ext.ple hB)
    gi_wp2_with (refine ⟨trivial, ?_⟩; gi_at_call 76; refine (callsIn_wide.2 (mix_p _ _ _)).mono ?_; rintro e w' ⟨rfl, rfl⟩)
    generalize hm : mixI (mixI (foldM 0 (wordsOf s.data.toList)) _) _ = m at *
    gi_loopw [26] (fun i wr => ∃ k : Nat, k ≤ l.length ∧ i = .int .i64 k ∧ (wr.cell? ⟨w.heap.size, 0, none⟩ = some (.int .u64 (foldM m ((l.map IntKind.u64.wrap).take k))) ∧ wr.frozen? ⟨w.heap.size, 0, none⟩ = false) ∧ Below w.heap.size w wr ∧ wr.heap[D]? = some (.deferred (some []))) (fun i _ => l.length - (intOf i).toNat)
    case atStart =>
      exact ⟨0, Nat.zero_le _, rfl, ⟨World.cell?_setCell_same' _ _ _ (by rw [hc]; rfl), by rw [World.frozen?_setCell]; exact hf⟩, hB.setCell (p := ⟨w.heap.size, 0, none⟩) (Nat.le_refl _) _, (KeepsOthers.setCell _ _ _).same D _ hK rfl⟩
    case round =>
      obtain ⟨k, hk, rfl, ⟨hc, hf⟩, hB, hK⟩ := hrel
      have hl3 := hl.mono mono_IntR (Ext.ple hB)
      by_cases hlt : k < l.length
      · obtain ⟨b, o, rfl, hcx, -, hbl⟩ := IntsR.at hl3 k hlt
        have hs1 : Hid (foldM m ((l.map IntKind.u64.wrap).take (k + 1)) = mixI (foldM m ((l.map IntKind.u64.wrap).take k)) (IntKind.u64.wrap l[k])) := by
          show _ = _; rw [List.take_add_one, List.getElem?_eq_getElem (by simpa using hlt), Option.toList, foldM_snoc]; simp
        generalize foldM m ((l.map IntKind.u64.wrap).take k) = y at *
        generalize l[k] = x at *
        clear hl3 hl2 hl
        gi_wp2_with (refine ⟨trivial, ?_⟩; gi_at_call 76; refine (callsIn_wide.2 (mix_p _ _ _)).mono ?_; rintro e w' ⟨rfl, rfl⟩)
        go_roundw
        case rel => exact ⟨k + 1, by omega, by go_num, ⟨by rw [hs1.out]; exact World.cell?_setCell_same' _ _ _ (by rw [hc]; rfl), by rw [World.frozen?_setCell]; exact hf⟩, hB.setCell (p := ⟨w.heap.size, 0, none⟩) (Nat.le_refl _) _, (KeepsOthers.setCell _ _ _).same D _ hK rfl⟩
        case measure => simp [intOf]; omega
      · clear hl3 hl2 hl
        have hfin : mixI (foldM m ((l.map IntKind.u64.wrap).take k)) 0 = sumI s.data.toList l := by
          rw [List.take_of_length_le (by simp; omega), ← hm]
          have e1 : IntKind.u64.wrap (s.data.toList.length : Int) = IntKind.u64.wrap (s.size : Int) := by congr 1
          have e2 : IntKind.u64.wrap (l.length : Int) = (l.length : Int) := by unfold IntKind.wrap; simp [IntKind.bits, IntKind.signed]; omega
          rw [sumI, e1, e2]
        replace hfin := Lib.hid hfin
        generalize foldM m ((l.map IntKind.u64.wrap).take k) = y at *
        gi_wp2_with (refine ⟨trivial, ?_⟩; gi_at_call 76; refine (callsIn_wide.2 (mix_p _ _ _)).mono ?_; rintro e w' ⟨rfl, rfl⟩)
        refine ⟨by simp, .inl ⟨_, _, rfl, run_takeDeferred hK, ?_⟩⟩
        refine ⟨_, results_tmp rfl _ _ _, ?_, hB.trans (belowK_b (w := w) (Nat.le_refl _) _ D _ _ (by simp at hD; omega) hK rfl rfl)⟩
        rw [← hfin.out]; rfl
  case stop =>
    rintro D c pre W _ _ h _
    exact h.elim
end Go.Proofs.Ytebhdjeognpljaa
