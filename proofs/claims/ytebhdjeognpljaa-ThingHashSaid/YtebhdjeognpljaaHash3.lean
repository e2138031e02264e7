/- package hash: Bytes. -/
import Derived.Maps.AppendAt
import Derived.Test.YtebhdjeognpljaaHash2
namespace Go.Proofs.Ytebhdjeognpljaa
open Go.RowKit Go.Shelf
set_option linter.unusedSimpArgs false
set_option linter.unusedVariables false
attribute [local go_sem] Oper.semAt_some
theorem wordsB_p (a : Option Addr) (n c : Nat) (w : World) : Calls Try.prog 46 #[.slice a n c] w fun e w' => e = .returned (.func (.func 74) #[] #[.pointer (some ⟨w.heap.size, 0, none⟩)]) ∧ w' = w.alloc (.cells #[.slice a n c] 46) := by
  go_enter Try.func46, Try.ntmps46
  go_wp2_with fail
  go_ret
  exact ⟨rfl, rfl⟩
theorem cells_ints {h : PH} : ∀ (l : List Int), (∀ x ∈ l, I64 x) → Cells h IntR 1 (l.map (Value.int .i64)) l
  | [], _ => rfl
  | x :: l, hx => ⟨[.int .i64 x], l.map (Value.int .i64), rfl, rfl, ⟨rfl, hx x (by simp)⟩, cells_ints l fun y hy => hx y (by simp [hy])⟩
theorem ownsRow_OwnS {w : World} {base n : Nat} {v : Value} {l : List Int} (h : w.ownsRow base 3 1 v n (l.map (Value.int .i64))) (hx : ∀ x ∈ l, I64 x) : OwnS base noH w IntR 1 3 v l := by
  obtain ⟨h1, ⟨rfl, rfl⟩ | ⟨g, cap, cur, rfl, h2, h3, h4, h5, h6, h7⟩⟩ := h
  · exact .inl ⟨rfl, by simpa using h1⟩
  · have hn : l.length = n := by simpa using h1
    subst hn
    exact .inr ⟨g, cap, cur, rfl, h2, rfl, h3, h4, h5, h6, by rw [h7]; exact cells_ints l hx⟩
theorem appended1 {W w1 : World} {n₀ : Nat} {e : TypeId} {size : Nat} {v : Value} {k : Nat} {xs : List Value} {tmp : Obj} (hrow : W.ownsRow n₀ e size v k xs) (hn₀ : n₀ ≤ W.heap.size) (hgrow : (W.alloc tmp).grownBy w1 v.ownBlock) : KeepsOthers W w1 ∧ Below n₀ W w1 := by
  constructor
  · refine (KeepsOthers.alloc W tmp).trans (KeepsOthers.of_grownBy hgrow fun j o ej hj => ?_)
    rcases (hrow.alloc tmp).2 with ⟨rfl, _⟩ | ⟨g, cap, cur, rfl, _, hgb, _⟩
    · simp [Value.ownBlock] at ej
    · obtain rfl : g = j := by simpa [Value.ownBlock] using ej
      rw [hgb] at hj; cases hj; rfl
  · refine ((Below.refl n₀ W).alloc hn₀ tmp).grown hgrow (by simp; omega) fun j ej => ?_
    rcases hrow.2 with ⟨rfl, _⟩ | ⟨g, cap, cur, rfl, hb, _, _⟩
    · simp [Value.ownBlock] at ej
    · obtain rfl : g = j := by simpa [Value.ownBlock] using ej
      exact hb
def w64 (x : Int) : Int := IntKind.i64.wrap x
theorem w64_i64 (x : Int) : I64 (w64 x) := by
  unfold w64 I64 IntKind.wrap; simp [IntKind.bits, IntKind.signed]; split <;> omega
theorem w64_len (n : Nat) (h : n ≤ 1000000) : w64 n = n := by
  unfold w64 IntKind.wrap; simp only [IntKind.bits, IntKind.signed]; simp; omega
theorem wordsOf_len (zs : List UInt8) : (wordsOf zs).length = (zs.length + 7) / 8 := by rw [wordsOf, wordsTo_len]
/-- what Bytes returns -/
def bytesI (s : ByteArray) (zs : List UInt8) : Int := sumI s.data.toList ((wordsOf zs).map w64 ++ [(zs.length : Int)])
set_option maxRecDepth 100000 in
set_option maxHeartbeats 2000000 in
theorem bytes_in (s : ByteArray) (vb : Value) (zs : List UInt8) (w : World) (hb : BytesR (ph w) vb zs) (hs : s.data.toList.length ≤ 1000000) (hz : zs.length ≤ 100000) :
    CallsIn Fence.wide 7 Try.prog 23 #[.string s, vb] w fun e W' => e = .returned (.int .u64 (bytesI s zs)) ∧ Below w.heap.size w W' := by
  obtain ⟨i0, hi, hz0, hz1, hz2⟩ := info_parts infoInt
  obtain ⟨va, vc, rfl, hlen, hb⟩ := hb.form
  refine callsIn_of_wp_marks Try.func23 rfl trivial ?_ rfl
  simp only [Try.ntmps23, List.size_toArray, List.length_cons, List.length_nil, Nat.reduceAdd, Nat.reduceSub, Array.replicate_succ, Array.replicate_zero, List.push_toArray, List.append_toArray, List.nil_append, List.cons_append]
  gi_wp2_with (refine ⟨trivial, ?_⟩; gi_at_call 46; refine (callsIn_wide.2 (wordsB_p _ _ _ _)).mono ?_; rintro e w' ⟨rfl, rfl⟩)
  have bO := Boxed.new w 22 (.slice none 0 0)
  have bN := Boxed.new (w.alloc (.cells #[.slice none 0 0] 22)) 46 (.slice va zs.length vc)
  rw [World.size_alloc] at bN
  have hB0 : Below w.heap.size w ((w.alloc (.cells #[.slice none 0 0] 22)).alloc (.cells #[.slice va zs.length vc] 46)) := ((Below.refl _ w).alloc (Nat.le_refl _) _).alloc (by simp) _
  refine wpIn_rangeFunc_ownF rfl (by omega) (gf := 74) (lb := #[.pointer (some ⟨w.heap.size + 1, 0, none⟩)]) rfl trivial (enters_of Try.func74 (by kernel_rfl) rfl)
    (encs := fun x : Int => #[.int .u64 x]) (Kp := KB w.heap.size (w.heap.size + 1)) (S := fun ys => ys = wordsOf zs) (Sp := fun _ => True) (N := zs.length)
    (w0 := (w.alloc (.cells #[.slice none 0 0] 22)).alloc (.cells #[.slice va zs.length vc] 46))
    ?seq KB.then (KB.put (by simp; omega) (by simp)) (Below.refl _ _) (fun _ => rfl)
    (fun pre W => ((∃ v, Boxed W w.heap.size 22 v ∧ W.ownsRow w.heap.size 3 1 v pre.length ((pre.map w64).map (Value.int .i64)) ∧ True) ∧ Boxed W (w.heap.size + 1) 46 (.slice va zs.length vc)) ∧ Below w.heap.size w W)
    (fun _ _ _ => False)
    (OwnFrom.and (OwnFrom.and (Own.from (holdsRow_own w.heap.size w.heap.size 22 3 1 (fun pre : List Int => pre.length) (fun pre : List Int => (pre.map w64).map (Value.int .i64)) (fun pre v => True)) _) (Own.from (boxed_own _ _ _) _)) (ownFrom_below (Nat.le_refl _) (by simp; omega)))
    (fun _ _ _ _ _ hs _ _ => hs)
    ⟨⟨⟨_, bO.alloc _, World.ownsRow_nil _ _ _ _, trivial⟩, bN⟩, hB0⟩
    ?a1 ?assign ?body ?done ?stop
  case assign =>
    intro l x W K hK
    gi_wp2
    exact hK
  case seq =>
    intro l J Jx W hW _ _ hY h0
    refine wordsB_in 6 l (w.heap.size + 1) w.heap.size (.slice va zs.length vc) zs (by omega) (by omega) J Jx hY W ?_ h0 |>.mono ?_
    rotate_left
    · rintro e W' ⟨h1, ⟨ys, h2, h3⟩ | ⟨pre, h2⟩⟩
      · exact ⟨h1, .inl ⟨ys, h2, h3⟩⟩
      · exact ⟨h1, .inr ⟨pre, trivial, h2⟩⟩
    intro wr hkb
    exact ⟨hkb.2.trans ((hW.cell (p := ⟨_, 0, none⟩) (by simp)).trans bN.cell), hb.mono mono_ByteR (Ext.ple ((hB0.trans (hW.mono (by simp; omega))).trans hkb.1))⟩
  case body =>
    rintro l pre x W ⟨⟨⟨v, hv, hrow, -⟩, hN⟩, hB⟩ hlt
    have hc := hv.cell
    have hconv : IntKind.i64.wrap x = w64 x := rfl
    gi_wp2_with (gi_at_builtin; refine wpListIn_append_own _ rfl _ _ 22 rfl w.heap.size 3 i0 (.int .i64 0) 1 8 Try.underlying22 hi hz0 hz1 hz2 rfl (by decide) _ _ _ rfl (hrow.alloc _) ⟨W.heap.size, 0, none⟩ 1 1 [.int .i64 (w64 x)] rfl rfl (cell_one_new _ _ _) (by simp [Value.oneCell']) (by simp only [maxLen]; omega) (by omega) (by have := hB.size; simp; omega) ?_; intro v' w1 hown' hgrow _; obtain ⟨g', cap', rfl⟩ := ownsRow_succ hown'; obtain ⟨hv1, hv2, hr2, hk2, hb2⟩ := hv.appended (by decide) hrow hB.size (Nat.le_refl _) hown' hgrow; have hc1 := hv1.cell; have hf1 := hv1.frozen; have hN1 := ((hN.alloc _).kept hgrow (hN.not_row (by decide) hrow)).other (B' := w.heap.size) (by omega) (.slice (some ⟨g', 0, none⟩) (pre.length + 1) cap'))
    exact ⟨hk2, ⟨hb2, hN1.cell.trans hN.cell.symm⟩, ⟨⟨_, hv2, by simpa using hr2, trivial⟩, hN1⟩, hB.trans hb2⟩
  case done =>
    rintro D xs W hD rfl ⟨⟨⟨v, hv, hrow, -⟩, hN⟩, hB⟩ hK
    have hc := hv.cell
    have hwl := Lib.hid (wordsOf_len zs)
    gi_wp2_with (gi_at_builtin; refine wpListIn_append_own _ rfl _ _ 22 rfl w.heap.size 3 i0 (.int .i64 0) 1 8 Try.underlying22 hi hz0 hz1 hz2 rfl (by decide) _ _ _ rfl (hrow.alloc _) ⟨W.heap.size, 0, none⟩ 1 1 [.int .i64 zs.length] rfl rfl (cell_one_new _ _ _) (by simp [Value.oneCell']) (by have := hwl.out; simp only [maxLen]; omega) (by have := hwl.out; omega) (by have := hB.size; simp; omega) ?_; intro v' w1 hown' hgrow _; obtain ⟨g', cap', rfl⟩ := ownsRow_succ hown')
    obtain ⟨hk1, hb1⟩ := appended1 hrow hB.size hgrow
    clear hgrow
    have hx : ∀ x ∈ (wordsOf zs).map w64 ++ [(zs.length : Int)], I64 x := by
      intro x hx
      rcases List.mem_append.1 hx with h | h
      · obtain ⟨y, -, rfl⟩ := List.mem_map.1 h
        exact w64_i64 y
      · obtain rfl := List.mem_singleton.1 h
        unfold I64; omega
    have hS := (ownsRow_OwnS (l := (wordsOf zs).map w64 ++ [(zs.length : Int)]) (by simpa using hown') hx).rep mono_IntR (noH_le _)
    refine ⟨trivial, ?_⟩
    refine (callsIn_wide.2 (callsIn_wide.1 (sum_in s _ _ w1 hS hs (by have := hwl.out; simp; omega)))).mono ?_
    rintro e W' ⟨rfl, hb3⟩
    have hD1 : D < W.heap.size := (Array.getElem?_eq_some_iff.1 hK).1
    have hK1 := hk1.same D _ hK rfl
    have hK2 := (hb3.block D (Array.getElem?_eq_some_iff.1 hK1).1).trans hK1
    have hfin : Hid (bytesI s zs = sumI s.data.toList ((wordsOf zs).map w64 ++ [(zs.length : Int)])) := rfl
    generalize sumI s.data.toList ((wordsOf zs).map w64 ++ [(zs.length : Int)]) = y at *
    gi_wp2
    refine ⟨by simp, .inl ⟨_, _, rfl, run_takeDeferred hK2, ?_⟩⟩
    refine ⟨_, results_tmp rfl _ _ _, ?_, ((hB.trans hb1).trans (hb3.mono (Nat.le_trans hB.size hb1.size))).trans (belowK_b (w := w) (Nat.le_refl _) _ D _ _ (by simp at hD; omega) hK2 rfl rfl)⟩
    rw [hfin.out]; rfl
  case stop =>
    rintro D c pre W _ _ h _
    exact h.elim
end Go.Proofs.Ytebhdjeognpljaa
