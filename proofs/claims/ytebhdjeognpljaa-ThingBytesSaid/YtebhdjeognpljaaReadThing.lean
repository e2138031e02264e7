/- thing.read: the walk. -/
import Derived.Test.YtebhdjeognpljaaMemY
import Derived.Test.YtebhdjeognpljaaRefOrder
namespace Go.Proofs.Ytebhdjeognpljaa
open Go.RowKit
set_option linter.unusedSimpArgs false
set_option linter.unusedVariables false
/-- thing t is handed back, the reader is in state s -/
def TReadP (HR : PH) (w : World) (g : Nat) (t : Thing) (ok : Bool) (s : RS) (e : Ending) (w' : World) : Prop :=
  ∃ H' cs, e = .returned (.tuple #[.agg cs.toArray, .bool ok]) ∧ ThingR H' cs t ∧ PLe H' (up noH w w') ∧ Rd HR w' g s ∧ ExtW w w' g none
theorem grown_set (w : World) (b j : Nat) (v : Value) : w.grownBy (w.setCell ⟨b, j, none⟩ v) (some b) :=
  ⟨rfl, rfl, rfl, by simp, fun k hk hne => by rw [Below.heap_setCell _ _ _ _ (fun e => hne (by rw [e]))]⟩
theorem up_size {w w0 w' : World} (h : w0.heap.size = w.heap.size) : up noH w0 w' = up noH w w' := by
  unfold up; rw [h]
/-- the thing's three slices are written into the result's box: what is handed back -/
theorem tread_fin {HR : PH} {w w2 : World} {g : Nat} {s : RS} {L : List Chunk} {H : PH} {c0 : Array Value} {v1 v2 v3 : Value} {cls : List Int} {vals : List Val} {parts : List Thing} {s0 : RS} (hR0 : Rd HR w g s0) (hM : MemX w.heap.size L H w2) (hR : Rd HR w2 g s) (hX : ExtW w w2 g none)
    (h0 : L[0]? = some (box w.heap.size c0 29)) (hc : c0.size = 3) (i1 i2 i3 : Nat) (h1 : L[i1]? = some (own mono_IntR 1 3 v1 cls)) (h2 : L[i2]? = some (own mono_ValR 3 41 v2 vals)) (h3 : L[i3]? = some (own mono_ThingR 3 29 v3 parts)) (p1 : 0 < i1) (p2 : i1 < i2) (p3 : i2 < i3) :
    ∃ H', ThingR H' [v1, v2, v3] (.mk cls vals parts) ∧ PLe H' (up noH w (((w2.setCell ⟨w.heap.size, 0, none⟩ v1).setCell ⟨w.heap.size, 1, none⟩ v2).setCell ⟨w.heap.size, 2, none⟩ v3)) ∧
      Own (((w2.setCell ⟨w.heap.size, 0, none⟩ v1).setCell ⟨w.heap.size, 1, none⟩ v2).setCell ⟨w.heap.size, 2, none⟩ v3) w.heap.size #[v1, v2, v3] 29 ∧
      Rd HR (((w2.setCell ⟨w.heap.size, 0, none⟩ v1).setCell ⟨w.heap.size, 1, none⟩ v2).setCell ⟨w.heap.size, 2, none⟩ v3) g s ∧ ExtW w (((w2.setCell ⟨w.heap.size, 0, none⟩ v1).setCell ⟨w.heap.size, 1, none⟩ v2).setCell ⟨w.heap.size, 2, none⟩ v3) g none := by
  obtain ⟨w0, hw0, hMm⟩ := hM
  have hg := hR0.lt
  have hHb := hR0.bound
  have l0 : 0 < L.length := (List.getElem?_eq_some_iff.1 h0).1
  have hM5 := ((hMm.set 0 h0 0 v1).set 0 (List.getElem?_set_self l0) 1 v2).set 0 (List.getElem?_set_self (by simpa using l0)) 2 v3
  have hX5 := ((hX.grown (grown_set w2 w.heap.size 0 v1) (fun k e => by cases e; omega)).grown (grown_set _ w.heap.size 1 v2) (fun k e => by cases e; omega)).grown (grown_set _ w.heap.size 2 v3) (fun k e => by cases e; omega)
  have hR5 := ((hR.grown (B := w.heap.size) (grown_set w2 w.heap.size 0 v1) (fun k e => by cases e; omega) hg hHb).grown (B := w.heap.size) (grown_set _ w.heap.size 1 v2) (fun k e => by cases e; omega) hg hHb).grown (B := w.heap.size) (grown_set _ w.heap.size 2 v3) (fun k e => by cases e; omega) hg hHb
  simp only [List.set_set] at hM5
  have hO := hM5.box 0 (List.getElem?_set_self l0)
  have e0 : ((c0.setIfInBounds 0 v1).setIfInBounds 1 v2).setIfInBounds 2 v3 = #[v1, v2, v3] := by
    obtain ⟨l⟩ := c0
    match l, hc with
    | [a, b, c], _ => rfl
  rw [e0] at hO
  obtain ⟨H1, g1, hM6, r1⟩ := hM5.freezeS i1 (by rw [List.getElem?_set_ne (by omega)]; exact h1)
  obtain ⟨H2, g2, hM7, r2⟩ := hM6.freezeS i2 (by rw [List.getElem?_set_ne (by omega), List.getElem?_set_ne (by omega)]; exact h2)
  obtain ⟨H3, g3, hM8, r3⟩ := hM7.freezeS i3 (by rw [List.getElem?_set_ne (by omega), List.getElem?_set_ne (by omega), List.getElem?_set_ne (by omega)]; exact h3)
  refine ⟨H3, ?_, by rw [← up_size hw0]; exact hM8.ub, hO, hR5, hX5⟩
  rw [thingR_iff]
  exact ⟨_, _, _, rfl, r1.mono mono_IntR (g2.trans g3), r2.mono mono_ValR g3, r3⟩
def Small (s : RS) : Prop := ∀ l, s = some l → l.length ≤ 1000000000
theorem small_int {s : RS} (h : Small s) : Small (intS s).2 := by
  intro r hr
  cases s with
  | none => cases hr
  | some b =>
    have h1 := (intS_some (n := (intS (some b)).1) (r := r)).1 (Prod.ext rfl hr)
    have h2 := h b rfl
    rw [h1.1] at h2
    simp at h2; omega
theorem small_list {s : RS} (h : Small s) : Small (listS intS s).2 := by
  intro r hr
  cases s with
  | none => rw [listI_none] at hr; cases hr
  | some b =>
    have h1 := (listI_some (xs := (listS intS (some b)).1) (r := r)).1 (Prod.ext rfl hr)
    have h2 := h b rfl
    rw [h1.1] at h2
    simp at h2; omega
theorem small_vals (n : Nat) : ∀ {s : RS}, Small s → Small (valsS n s).2 := by
  induction n with
  | zero => intro s h; exact h
  | succ n ih => intro s h; exact ih (small_int (small_int (small_int h)))
theorem small_parts {f : RS → (Thing × Bool) × RS} (hf : ∀ s, Small s → Small (f s).2) (n : Nat) : ∀ {s : RS}, Small s → Small (partsS f n s).2 := by
  induction n with
  | zero => intro s h; exact h
  | succ n ih =>
    intro s h
    rw [partsS]
    split
    · exact ih (hf s h)
    · exact hf s h
theorem small_read (n : Nat) : ∀ (s : RS), Small s → Small (readS n s).2 := by
  induction n with
  | zero => intro s h; exact small_int (small_list h)
  | succ n ih =>
    intro s h
    rw [readS_succ, readT]
    split
    · exact small_int (small_list h)
    · split
      · exact small_int (small_vals _ (small_int (small_list h)))
      · exact small_parts ih _ (small_int (small_vals _ (small_int (small_list h))))
set_option maxRecDepth 100000 in
set_option maxHeartbeats 4000000 in
theorem tread_c {HR : PH} (n : Nat) (hn : n ≤ 8) : ∀ (g : Nat) (s : RS) (w : World), Rd HR w g s → (∀ l, s = some l → l.length ≤ 1000000000) →
    Calls Try.prog 62 #[.pointer (some ⟨g, 0, none⟩), .int .i64 ((9 : Int) - n)] w (TReadP HR w g (readS n s).1.1 (readS n s).1.2 (readS n s).2) := by
  induction n with
  | zero =>
    intro g s w hR hl
    go_enter Try.func62, Try.ntmps62
    go_wp2_with fail
    refine (rints_c g s _ (hR.keep (by repeat (first | (with_reducible assumption) | (with_reducible exact Ext.rfl' _) | (with_reducible exact Ext.new _ _) | (with_reducible refine Ext.alloc' ?_ _) | (with_reducible refine Ext.drew' ?_) | (with_reducible refine Ext.drewN' ?_ _) | (with_reducible refine Ext.set' ?_ ?_ _; rotate_left; (focus (first | omega | (simp; done) | (simp; omega)))) | (with_reducible refine Ext.then (b := ?_) ?_ ?_; rotate_left; rotate_left; (with_reducible assumption))))) hl).mono ?_
    rintro e w1 ⟨v, rfl, hS, hR1, hX1⟩
    have hg := hR.lt
    have hM := (MemX.start w).step (fun w0 h => h.new zeroT 29)
    have hM1 := hM.take hX1 hg hS mono_IntR
    have hX2 := ((Ext.new w _).toW g none).then hX1 (fun i h => by cases h)
    obtain ⟨va, vc, rfl, hvl⟩ := hS.form
    clear hM hS hX1
    go_wp2_with fail
    have hr0 : Hid (readS 0 s = ((.mk (listS intS s).1 [] [], false), (intS (listS intS s).2).2)) := rfl
    generalize (listS intS s).1 = xs at *
    generalize (listS intS s).2 = s1 at *
    have hM2 := hM1.step (fun w0 h => h.new #[.slice va xs.length vc, .slice none 0 0, .slice none 0 0] 29)
    clear hM1
    refine (rint_c g _ _ (hR1.keep (by repeat (first | (with_reducible assumption) | (with_reducible exact Ext.rfl' _) | (with_reducible exact Ext.new _ _) | (with_reducible refine Ext.alloc' ?_ _) | (with_reducible refine Ext.drew' ?_) | (with_reducible refine Ext.drewN' ?_ _) | (with_reducible refine Ext.set' ?_ ?_ _; rotate_left; (focus (first | omega | (simp; done) | (simp; omega)))) | (with_reducible refine Ext.then (b := ?_) ?_ ?_; rotate_left; rotate_left; (with_reducible assumption)))))).mono ?_
    rintro e w2 ⟨rfl, hR3, hX3⟩
    have hX4 := (hX2.then ((Ext.new w1 _).toW g none) (fun i h => by cases h)).then hX3 (fun i h => by cases h)
    have hM3 := hM2.reader hX3 hg
    clear hM2 hX3 hR1 hX2
    generalize (intS s1).1 = y at *
    obtain ⟨w0, hw0, hMm⟩ := hM3
    have hO4 := hMm.box 0 rfl
    have hO6 := hMm.box 2 rfl
    obtain ⟨h6c, h6f⟩ := hO6.facts
    obtain ⟨h4c, h4f⟩ := hO4.facts
    go_wp2_with fail
    have hHb := hR.bound
    have hM5 := ((hMm.set 0 rfl 0 (.slice va xs.length vc)).set 0 rfl 1 (.slice none 0 0)).set 0 rfl 2 (.slice none 0 0)
    have hX5 := ((hX4.grown (grown_set w2 w.heap.size 0 (.slice va xs.length vc)) (fun k e => by cases e; omega)).grown (grown_set _ w.heap.size 1 (.slice none 0 0)) (fun k e => by cases e; omega)).grown (grown_set _ w.heap.size 2 (.slice none 0 0)) (fun k e => by cases e; omega)
    have hR5 := ((hR3.grown (B := w.heap.size) (grown_set w2 w.heap.size 0 (.slice va xs.length vc)) (fun k e => by cases e; omega) hg hHb).grown (B := w.heap.size) (grown_set _ w.heap.size 1 (.slice none 0 0)) (fun k e => by cases e; omega) hg hHb).grown (B := w.heap.size) (grown_set _ w.heap.size 2 (.slice none 0 0)) (fun k e => by cases e; omega) hg hHb
    obtain ⟨H', -, hM6, hrep⟩ := hM5.freezeS 1 rfl
    have hO := hM5.box 0 rfl
    have hc0 := hO.facts.1 0
    have hc1 := hO.facts.1 1
    have hc2 := hO.facts.1 2
    simp at hc0 hc1 hc2
    rw [hr0.out]
    refine bodyPost_ret (v := .tuple #[.agg #[.slice va xs.length vc, .slice none 0 0, .slice none 0 0], .bool false]) (by simp [results, Try.results62, go_sem, hc0, hc1, hc2]) rfl ⟨H', [.slice va xs.length vc, .slice none 0 0, .slice none 0 0], rfl, ?_, by rw [← up_size hw0]; exact hM6.ub, hR5, hX5⟩
    rw [thingR_iff]
    exact ⟨_, _, _, rfl, hrep, SliceRep.nil _ _ _, SliceRep.nil _ _ _⟩
  | succ n ih =>
    intro g s w hR hl
    have ih := Lib.hid (ih (by omega))
    go_enter Try.func62, Try.ntmps62
    go_wp2_with fail
    refine (rints_c g s _ (hR.keep (by repeat (first | (with_reducible assumption) | (with_reducible exact Ext.rfl' _) | (with_reducible exact Ext.new _ _) | (with_reducible refine Ext.alloc' ?_ _) | (with_reducible refine Ext.drew' ?_) | (with_reducible refine Ext.drewN' ?_ _) | (with_reducible refine Ext.set' ?_ ?_ _; rotate_left; (focus (first | omega | (simp; done) | (simp; omega)))) | (with_reducible refine Ext.then (b := ?_) ?_ ?_; rotate_left; rotate_left; (with_reducible assumption))))) hl).mono ?_
    rintro e w1 ⟨v, rfl, hS, hR1, hX1⟩
    have hg := hR.lt
    have hM := (MemX.start w).step (fun w0 h => h.new zeroT 29)
    have hM1 := ((hM.take hX1 hg hS mono_IntR).step (fun w0 h => h.nil mono_ValR 3 41)).step (fun w0 h => h.nil mono_ThingR 3 29)
    have hX2 := ((Ext.new w _).toW g none).then hX1 (fun i h => by cases h)
    obtain ⟨va, vc, rfl, hvl⟩ := hS.form
    clear hM hS hX1
    go_wp2_with fail
    have hsm1 : Small (listS intS s).2 := small_list hl
    have hr0 : Hid (readS (n + 1) s = readT (readS n) (listS intS s).1 (listS intS s).2) := rfl
    generalize (listS intS s).1 = xs at *
    generalize (listS intS s).2 = s1 at *
    have hM2 := hM1.step (fun w0 h => h.new #[.slice va xs.length vc, .slice none 0 0, .slice none 0 0] 29)
    clear hM1
    refine (rint_c g _ _ (hR1.keep (by repeat (first | (with_reducible assumption) | (with_reducible exact Ext.rfl' _) | (with_reducible exact Ext.new _ _) | (with_reducible refine Ext.alloc' ?_ _) | (with_reducible refine Ext.drew' ?_) | (with_reducible refine Ext.drewN' ?_ _) | (with_reducible refine Ext.set' ?_ ?_ _; rotate_left; (focus (first | omega | (simp; done) | (simp; omega)))) | (with_reducible refine Ext.then (b := ?_) ?_ ?_; rotate_left; rotate_left; (with_reducible assumption)))))).mono ?_
    rintro e w2 ⟨rfl, hR3, hX3⟩
    have hX4 := (hX2.then ((Ext.new w1 _).toW g none) (fun i h => by cases h)).then hX3 (fun i h => by cases h)
    have hM3 := hM2.reader hX3 hg
    have hsz1 : w.heap.size ≤ w1.heap.size := hX2.size
    clear hM2 hX3 hR1 hX2
    have hy := intS_i64 s1
    by_cases hbad : (intS s1).1 < 0 ∨ 32 < (intS s1).1
    · have hr1 : Hid (readS (n + 1) s = ((.mk xs [] [], false), (intS s1).2)) := by
        show _ = _; rw [hr0.out, readT, if_pos hbad]
      clear hr0 ih
      generalize (intS s1).1 = y at *
      obtain ⟨H', f1, f2, f3, f4, f5⟩ := tread_fin hR hM3 hR3 hX4 rfl rfl 1 2 3 rfl rfl rfl (by omega) (by omega) (by omega)
      obtain ⟨w0, hw0, hMm⟩ := hM3
      have hO4 := hMm.box 0 rfl
      have hO6 := hMm.box 4 rfl
      obtain ⟨h6c, h6f⟩ := hO6.facts
      obtain ⟨h4c, h4f⟩ := hO4.facts
      have hc0 := f3.facts.1 0
      have hc1 := f3.facts.1 1
      have hc2 := f3.facts.1 2
      simp at hc0 hc1 hc2
      have hlev : ¬ ((9 : Int) - ((n + 1 : Nat) : Int) > 8) := by omega
      rcases hbad with hb | hb
      all_goals
        go_wp2_with fail
        rw [hr1.out]
        refine bodyPost_ret (v := .tuple #[.agg #[.slice va xs.length vc, .slice none 0 0, .slice none 0 0], .bool false]) (by simp [results, Try.results62, go_sem, hc0, hc1, hc2]) rfl ⟨H', [.slice va xs.length vc, .slice none 0 0, .slice none 0 0], rfl, f1, f2, f4, f5⟩
    · generalize hy0 : (intS s1).1 = y at *
      generalize hs2 : (intS s1).2 = s2 at *
      obtain ⟨k, rfl⟩ : ∃ k : Nat, y = k := ⟨y.toNat, by omega⟩
      go_wp2_with fail
      clear hy
      have hk32 : k ≤ 32 := by omega
      clear hbad
      go_loopw [27] (fun i wr => ∃ (j : Nat) (vs : List Val) (v2 : Value) (s' : RS), j ≤ k ∧ i = .int .i64 j ∧ vs.length = j ∧
          MemX w.heap.size [box w.heap.size zeroT 29, own mono_IntR 1 3 (.slice va xs.length vc) xs, own mono_ValR 3 41 v2 vs, own mono_ThingR 3 29 (.slice none 0 0) ([] : List Thing), box w1.heap.size #[.slice va xs.length vc, v2, .slice none 0 0] 29] noH wr ∧
          Rd HR wr g s' ∧ ExtW w wr g none ∧ Hid (valsS k s2 = (vs ++ (valsS (k - j) s').1, (valsS (k - j) s').2))) (fun i _ => k - (intOf i).toNat)
      case atStart => exact ⟨0, [], _, s2, by omega, rfl, rfl, hM3, hR3, hX4, Lib.hid (by simp)⟩
      case round =>
        clear hM3 hR3 hX4
        obtain ⟨j, vs, v2, s', hjk, rfl, rfl, hM, hRj, hX, heq⟩ := hrel
        obtain ⟨a2, c2, rfl, hl2⟩ : ∃ a cap, v2 = .slice a vs.length cap ∧ vs.length ≤ 9223372036854775807 := by
          obtain ⟨w0, hw0, hMm⟩ := hM
          exact hMm.form 2 rfl
        by_cases hlt : vs.length < k
        · have hv3 : I64 (intS s').1 := intS_i64 _
          have hv4 : I64 (intS (intS s').2).1 := intS_i64 _
          have hv5 : I64 (intS (intS (intS s').2).2).1 := intS_i64 _
          go_wp2_with fail
          (refine Ph.wp_region_I 11 (S := rdSys HR [box w.heap.size zeroT 29, own mono_IntR 1 3 (.slice va xs.length vc) xs, own mono_ValR 3 41 (.slice a2 vs.length c2) vs, own mono_ThingR 3 29 (.slice none 0 0) ([] : List Thing), box w1.heap.size #[.slice va xs.length vc, .slice a2 vs.length c2, .slice none 0 0] 29] w.heap.size g wr [3, 5, 7] (fun c => match c with | 0 => s' | 1 => (intS s').2 | 2 => (intS (intS s').2).2 | _ => (intS (intS (intS s').2).2).2)) ?h0 (by kernel_rfl) (by kernel_rfl) (by kernel_rfl) ?_; (case h0 => (exact ⟨hM.step (fun w0 m => m.ext (by repeat (first | (with_reducible assumption) | (with_reducible exact Ext.rfl' _) | (with_reducible exact Ext.new _ _) | (with_reducible refine Ext.alloc' ?_ _) | (with_reducible refine Ext.drew' ?_) | (with_reducible refine Ext.drewN' ?_ _) | (with_reducible refine Ext.set' ?_ ?_ _; rotate_left; (focus (first | omega | (simp; done) | (simp; omega)))) | (with_reducible refine Ext.then (b := ?_) ?_ ?_; rotate_left; rotate_left; (with_reducible assumption))))), hRj.keep (by repeat (first | (with_reducible assumption) | (with_reducible exact Ext.rfl' _) | (with_reducible exact Ext.new _ _) | (with_reducible refine Ext.alloc' ?_ _) | (with_reducible refine Ext.drew' ?_) | (with_reducible refine Ext.drewN' ?_ _) | (with_reducible refine Ext.set' ?_ ?_ _; rotate_left; (focus (first | omega | (simp; done) | (simp; omega)))) | (with_reducible refine Ext.then (b := ?_) ?_ ?_; rotate_left; rotate_left; (with_reducible assumption)))), (Ext.drew' (Ext.rfl' _)).toW g none⟩)); simp only [List.toList_toArray, List.take_succ_cons, List.take_zero, List.drop_succ_cons, List.drop_zero])
          (refine Ph.walkI_is (u := ?_) rfl (by simp) rfl ?_ ?_ (by simp) (by simp [rdSys]); rotate_left; (focus (intro A w' cc hG hA K hK; (simp only [List.map_cons, List.map_nil, knows, Is, Op.operands, Call.operands, List.lookup_cons, List.lookup_nil, Nat.reduceBEq, Bool.false_eq_true, if_false, if_true, Act.eval, Array.getD_eq_getD_getElem?, List.getElem?_toArray, List.getElem?_cons_succ, List.getElem?_cons_zero, Option.getD_some, and_true, true_and, List.append_toArray, List.nil_append, List.cons_append, List.toList_toArray, Array.toList_append] at hA); first | fail | (go_simp; exact hK _ (by repeat (first | (with_reducible assumption) | (with_reducible exact Ext.rfl' _) | (with_reducible exact Ext.new _ _) | (with_reducible refine Ext.alloc' ?_ _) | (with_reducible refine Ext.drew' ?_) | (with_reducible refine Ext.drewN' ?_ _) | (with_reducible refine Ext.set' ?_ ?_ _; rotate_left; (focus (first | omega | (simp; done) | (simp; omega)))) | (with_reducible refine Ext.then (b := ?_) ?_ ?_; rotate_left; rotate_left; (with_reducible assumption))))))); (try simp only [List.nil_append, List.cons_append]))
          (refine Ph.walkI_is (u := ?_) rfl (by simp) rfl ?_ ?_ (by simp) (by simp [rdSys]); rotate_left; (focus (intro A w' cc hG hA K hK; (simp only [List.map_cons, List.map_nil, knows, Is, Op.operands, Call.operands, List.lookup_cons, List.lookup_nil, Nat.reduceBEq, Bool.false_eq_true, if_false, if_true, Act.eval, Array.getD_eq_getD_getElem?, List.getElem?_toArray, List.getElem?_cons_succ, List.getElem?_cons_zero, Option.getD_some, and_true, true_and, List.append_toArray, List.nil_append, List.cons_append, List.toList_toArray, Array.toList_append] at hA); first | (obtain ⟨⟨w0', e0', hMm'⟩, hRd', hX'⟩ := hG; obtain ⟨qc, qf⟩ := (hMm'.box 4 rfl).facts; go_simp; exact hK _ (by repeat (first | (with_reducible assumption) | (with_reducible exact Ext.rfl' _) | (with_reducible exact Ext.new _ _) | (with_reducible refine Ext.alloc' ?_ _) | (with_reducible refine Ext.drew' ?_) | (with_reducible refine Ext.drewN' ?_ _) | (with_reducible refine Ext.set' ?_ ?_ _; rotate_left; (focus (first | omega | (simp; done) | (simp; omega)))) | (with_reducible refine Ext.then (b := ?_) ?_ ?_; rotate_left; rotate_left; (with_reducible assumption))))) | (go_simp; exact hK _ (by repeat (first | (with_reducible assumption) | (with_reducible exact Ext.rfl' _) | (with_reducible exact Ext.new _ _) | (with_reducible refine Ext.alloc' ?_ _) | (with_reducible refine Ext.drew' ?_) | (with_reducible refine Ext.drewN' ?_ _) | (with_reducible refine Ext.set' ?_ ?_ _; rotate_left; (focus (first | omega | (simp; done) | (simp; omega)))) | (with_reducible refine Ext.then (b := ?_) ?_ ?_; rotate_left; rotate_left; (with_reducible assumption))))))); (try simp only [List.nil_append, List.cons_append]))
          (refine Ph.walkI_is (u := ?_) rfl (by simp) rfl ?_ ?_ (by simp) (by simp [rdSys]); rotate_left; (focus (intro A w' cc hG hA K hK; (simp only [List.map_cons, List.map_nil, knows, Is, Op.operands, Call.operands, List.lookup_cons, List.lookup_nil, Nat.reduceBEq, Bool.false_eq_true, if_false, if_true, Act.eval, Array.getD_eq_getD_getElem?, List.getElem?_toArray, List.getElem?_cons_succ, List.getElem?_cons_zero, Option.getD_some, and_true, true_and, List.append_toArray, List.nil_append, List.cons_append, List.toList_toArray, Array.toList_append] at hA); first | fail | (go_simp; exact hK _ (by repeat (first | (with_reducible assumption) | (with_reducible exact Ext.rfl' _) | (with_reducible exact Ext.new _ _) | (with_reducible refine Ext.alloc' ?_ _) | (with_reducible refine Ext.drew' ?_) | (with_reducible refine Ext.drewN' ?_ _) | (with_reducible refine Ext.set' ?_ ?_ _; rotate_left; (focus (first | omega | (simp; done) | (simp; omega)))) | (with_reducible refine Ext.then (b := ?_) ?_ ?_; rotate_left; rotate_left; (with_reducible assumption))))))); (try simp only [List.nil_append, List.cons_append]))
          (refine Ph.walkI_chain (u := ?_) 0 rfl rfl (by simp) rfl ?_ ?_; rotate_left; (focus (intro A w' hG hA K hK; (simp only [List.map_cons, List.map_nil, knows, Is, Op.operands, Call.operands, List.lookup_cons, List.lookup_nil, Nat.reduceBEq, Bool.false_eq_true, if_false, if_true, Act.eval, Array.getD_eq_getD_getElem?, List.getElem?_toArray, List.getElem?_cons_succ, List.getElem?_cons_zero, Option.getD_some, and_true, true_and, List.append_toArray, List.nil_append, List.cons_append, List.toList_toArray, Array.toList_append] at hA); (go_simp; refine (rint_c g _ _ hG.2.1).mono ?_; rintro e w'' ⟨rfl, hR'', hX''⟩; exact hK _ hX'' ⟨hG.1.reader hX'' hg, hR'', hG.2.2.then hX'' (fun i hi => by cases hi)⟩))); (try simp only [List.nil_append, List.cons_append]))
          (refine Ph.walkI_is (u := ?_) rfl (by simp) rfl ?_ ?_ (by simp) (by simp [rdSys]); rotate_left; (focus (intro A w' cc hG hA K hK; (simp only [List.map_cons, List.map_nil, knows, Is, Op.operands, Call.operands, List.lookup_cons, List.lookup_nil, Nat.reduceBEq, Bool.false_eq_true, if_false, if_true, Act.eval, Array.getD_eq_getD_getElem?, List.getElem?_toArray, List.getElem?_cons_succ, List.getElem?_cons_zero, Option.getD_some, and_true, true_and, List.append_toArray, List.nil_append, List.cons_append, List.toList_toArray, Array.toList_append] at hA); first | fail | (go_simp; exact hK _ (by repeat (first | (with_reducible assumption) | (with_reducible exact Ext.rfl' _) | (with_reducible exact Ext.new _ _) | (with_reducible refine Ext.alloc' ?_ _) | (with_reducible refine Ext.drew' ?_) | (with_reducible refine Ext.drewN' ?_ _) | (with_reducible refine Ext.set' ?_ ?_ _; rotate_left; (focus (first | omega | (simp; done) | (simp; omega)))) | (with_reducible refine Ext.then (b := ?_) ?_ ?_; rotate_left; rotate_left; (with_reducible assumption))))))); (try simp only [List.nil_append, List.cons_append]))
          (refine Ph.walkI_chain (u := ?_) 1 rfl rfl (by simp) rfl ?_ ?_; rotate_left; (focus (intro A w' hG hA K hK; (simp only [List.map_cons, List.map_nil, knows, Is, Op.operands, Call.operands, List.lookup_cons, List.lookup_nil, Nat.reduceBEq, Bool.false_eq_true, if_false, if_true, Act.eval, Array.getD_eq_getD_getElem?, List.getElem?_toArray, List.getElem?_cons_succ, List.getElem?_cons_zero, Option.getD_some, and_true, true_and, List.append_toArray, List.nil_append, List.cons_append, List.toList_toArray, Array.toList_append] at hA); (go_simp; refine (rint_c g _ _ hG.2.1).mono ?_; rintro e w'' ⟨rfl, hR'', hX''⟩; exact hK _ hX'' ⟨hG.1.reader hX'' hg, hR'', hG.2.2.then hX'' (fun i hi => by cases hi)⟩))); (try simp only [List.nil_append, List.cons_append]))
          (refine Ph.walkI_is (u := ?_) rfl (by simp) rfl ?_ ?_ (by simp) (by simp [rdSys]); rotate_left; (focus (intro A w' cc hG hA K hK; (simp only [List.map_cons, List.map_nil, knows, Is, Op.operands, Call.operands, List.lookup_cons, List.lookup_nil, Nat.reduceBEq, Bool.false_eq_true, if_false, if_true, Act.eval, Array.getD_eq_getD_getElem?, List.getElem?_toArray, List.getElem?_cons_succ, List.getElem?_cons_zero, Option.getD_some, and_true, true_and, List.append_toArray, List.nil_append, List.cons_append, List.toList_toArray, Array.toList_append] at hA); first | fail | (go_simp; exact hK _ (by repeat (first | (with_reducible assumption) | (with_reducible exact Ext.rfl' _) | (with_reducible exact Ext.new _ _) | (with_reducible refine Ext.alloc' ?_ _) | (with_reducible refine Ext.drew' ?_) | (with_reducible refine Ext.drewN' ?_ _) | (with_reducible refine Ext.set' ?_ ?_ _; rotate_left; (focus (first | omega | (simp; done) | (simp; omega)))) | (with_reducible refine Ext.then (b := ?_) ?_ ?_; rotate_left; rotate_left; (with_reducible assumption))))))); (try simp only [List.nil_append, List.cons_append]))
          (refine Ph.walkI_chain (u := ?_) 2 rfl rfl (by simp) rfl ?_ ?_; rotate_left; (focus (intro A w' hG hA K hK; (simp only [List.map_cons, List.map_nil, knows, Is, Op.operands, Call.operands, List.lookup_cons, List.lookup_nil, Nat.reduceBEq, Bool.false_eq_true, if_false, if_true, Act.eval, Array.getD_eq_getD_getElem?, List.getElem?_toArray, List.getElem?_cons_succ, List.getElem?_cons_zero, Option.getD_some, and_true, true_and, List.append_toArray, List.nil_append, List.cons_append, List.toList_toArray, Array.toList_append] at hA); (go_simp; refine (rint_c g _ _ hG.2.1).mono ?_; rintro e w'' ⟨rfl, hR'', hX''⟩; exact hK _ hX'' ⟨hG.1.reader hX'' hg, hR'', hG.2.2.then hX'' (fun i hi => by cases hi)⟩))); (try simp only [List.nil_append, List.cons_append]))
          (refine Ph.walkI_is (u := ?_) rfl (by simp) rfl ?_ ?_ (by simp) (by simp [rdSys]); rotate_left; (focus (intro A w' cc hG hA K hK; (simp only [List.map_cons, List.map_nil, knows, Is, Op.operands, Call.operands, List.lookup_cons, List.lookup_nil, Nat.reduceBEq, Bool.false_eq_true, if_false, if_true, Act.eval, Array.getD_eq_getD_getElem?, List.getElem?_toArray, List.getElem?_cons_succ, List.getElem?_cons_zero, Option.getD_some, and_true, true_and, List.append_toArray, List.nil_append, List.cons_append, List.toList_toArray, Array.toList_append] at hA); first | fail | (go_simp; exact hK _ (by repeat (first | (with_reducible assumption) | (with_reducible exact Ext.rfl' _) | (with_reducible exact Ext.new _ _) | (with_reducible refine Ext.alloc' ?_ _) | (with_reducible refine Ext.drew' ?_) | (with_reducible refine Ext.drewN' ?_ _) | (with_reducible refine Ext.set' ?_ ?_ _; rotate_left; (focus (first | omega | (simp; done) | (simp; omega)))) | (with_reducible refine Ext.then (b := ?_) ?_ ?_; rotate_left; rotate_left; (with_reducible assumption))))))); (try simp only [List.nil_append, List.cons_append]))
          (refine Ph.walkI_is (u := ?_) rfl (by simp) rfl ?_ ?_ (by simp) (by simp [rdSys]); rotate_left; (focus (intro A w' cc hG hA K hK; (simp only [List.map_cons, List.map_nil, knows, Is, Op.operands, Call.operands, List.lookup_cons, List.lookup_nil, Nat.reduceBEq, Bool.false_eq_true, if_false, if_true, Act.eval, Array.getD_eq_getD_getElem?, List.getElem?_toArray, List.getElem?_cons_succ, List.getElem?_cons_zero, Option.getD_some, and_true, true_and, List.append_toArray, List.nil_append, List.cons_append, List.toList_toArray, Array.toList_append] at hA); first | fail | (go_simp; exact hK _ (by repeat (first | (with_reducible assumption) | (with_reducible exact Ext.rfl' _) | (with_reducible exact Ext.new _ _) | (with_reducible refine Ext.alloc' ?_ _) | (with_reducible refine Ext.drew' ?_) | (with_reducible refine Ext.drewN' ?_ _) | (with_reducible refine Ext.set' ?_ ?_ _; rotate_left; (focus (first | omega | (simp; done) | (simp; omega)))) | (with_reducible refine Ext.then (b := ?_) ?_ ?_; rotate_left; rotate_left; (with_reducible assumption))))))); (try simp only [List.nil_append, List.cons_append]))
          have hxs := hX.size
          (refine Ph.walkI_step (fun v w' => ∃ g', v = .slice (some ⟨g', 0, none⟩) 1 1 ∧ Own w' g' #[.int .i64 (intS s').1, .int .i64 (intS (intS s').2).1, .int .i64 (intS (intS (intS s').2).2).1] 41 ∧ wr.heap.size ≤ g') rfl (by simp) rfl (fun c v a b _ ⟨g', q1, q2, q3⟩ hL => ⟨g', q1, q2.keepW hL (by omega) (by simp), q3⟩) ?_ ?_ (by simp) (by simp [rdSys]); (focus (intro A w' cc hG hA K hK; (simp only [List.map_cons, List.map_nil, knows, Is, Op.operands, Call.operands, List.lookup_cons, List.lookup_nil, Nat.reduceBEq, Bool.false_eq_true, if_false, if_true, Act.eval, Array.getD_eq_getD_getElem?, List.getElem?_toArray, List.getElem?_cons_succ, List.getElem?_cons_zero, Option.getD_some, and_true, true_and, List.append_toArray, List.nil_append, List.cons_append, List.toList_toArray, Array.toList_append] at hA); (have hs' := hG.2.2.size; go_simp; exact hK _ _ (Ext.new _ _) ⟨_, rfl, Own.new _ _ _, by omega⟩))); (try simp only [List.nil_append, List.cons_append]))
          (refine Ph.walkI_nil ?_; simp only [List.nil_append, List.cons_append, fins, Is, forall_eq, Act.put, List.setIfInBounds_toArray, List.set_cons_zero, List.set_cons_succ])
          rintro w3 hG3 v39 ⟨g', rfl, ho, hge⟩
          obtain ⟨⟨w0, hw0, hMm⟩, hR4, hX4⟩ := hG3
          clear hM hRj
          at_builtin
          refine wpList_append_M 2 rfl _ _ 27 rfl Try.underlying27 infoVal rfl rfl rfl (hMm) rfl ( srcArr (xs := [(valS s').1]) ho ⟨[_, _, _], [], rfl, rfl, ⟨rfl, hv3, hv4, hv5⟩, rfl⟩ rfl) one_ValR ?c3 ?c4 ?c5
          case c3 => simp; omega
          case c4 => simp; omega
          case c5 =>
          intro v' w5 hM5
          obtain ⟨a5, c5, rfl, -⟩ := hM5.form 2 rfl
          rw [show (vs ++ [(valS s').1]).length = vs.length + 1 by simp] at hM5
          have hM6 := hM5.set 4 rfl 1 (.slice a5 (vs.length + 1) c5)
          have hR6 := hMm.rd hM6 hR4 (fun k o h => by rw [hw0]; exact hR.bound k o h) (by omega)
          have hX6 := hMm.xw hM6 (hX.then hX4 (fun i h => by cases h)) hw0
          have hO5 := hM5.box 4 rfl
          obtain ⟨q5c, q5f⟩ := hO5.facts
          have heq6 : Hid (valsS k s2 = ((vs ++ [(valS s').1]) ++ (valsS (k - (vs.length + 1)) (valS s').2).1, (valsS (k - (vs.length + 1)) (valS s').2).2)) := by
            show _ = _
            rw [heq.out, show k - vs.length = (k - (vs.length + 1)) + 1 by omega, valsS, List.append_assoc]; rfl
          clear hMm hR4 hX4 hM5 hX heq ho
          go_wp2_with fail
          go_roundw
          case rel => exact ⟨vs.length + 1, _, .slice a5 (vs.length + 1) c5, (valS s').2, by omega, by go_num, by simp, ⟨w0, hw0, hM6⟩, hR6, hX6, heq6⟩
          case measure => simp [intOf]; omega
        · obtain rfl : k = vs.length := by omega
          rw [Nat.sub_self] at heq
          have hr1 : Hid (readS (n + 1) s = if (intS s').1 < 0 ∨ 96 < (intS s').1 then ((.mk xs vs [], false), (intS s').2) else ((.mk xs vs (partsS (readS n) (intS s').1.toNat (intS s').2).1.1, (partsS (readS n) (intS s').1.toNat (intS s').2).1.2), (partsS (readS n) (intS s').1.toNat (intS s').2).2)) := by
            show _ = _
            rw [hr0.out, readT, hy0, hs2, if_neg (by omega), Int.toNat_natCast, heq.out]
            simp only [valsS, List.append_nil]
          have hsm : Small s' := by
            have h1 := small_vals vs.length (s := s2) (by rw [← hs2]; exact small_int hsm1)
            rw [heq.out] at h1; exact h1
          clear hr0 hy0 hs2 heq
          go_wp2_with fail
          refine (rint_c g _ _ hRj).mono ?_
          rintro e w3 ⟨rfl, hR4, hX4⟩
          have hM4 := hM.reader hX4 hg
          have hX5 := hX.then hX4 (fun i h => by cases h)
          have hy := intS_i64 s'
          have hsm3 := small_int hsm
          clear hM hRj hX hX4 hsm
          by_cases hbad : (intS s').1 < 0 ∨ 96 < (intS s').1
          · have hr2 : Hid (readS (n + 1) s = ((.mk xs vs [], false), (intS s').2)) := by
              show _ = _; rw [hr1.out, if_pos hbad]
            clear hr1 ih
            generalize (intS s').1 = y at *
            obtain ⟨H', f1, f2, f3, f4, f5⟩ := tread_fin hR hM4 hR4 hX5 rfl rfl 1 2 3 rfl rfl rfl (by omega) (by omega) (by omega)
            obtain ⟨w0, hw0, hMm⟩ := hM4
            obtain ⟨h6c, h6f⟩ := (hMm.box 4 rfl).facts
            obtain ⟨h4c, h4f⟩ := (hMm.box 0 rfl).facts
            have hc0 := f3.facts.1 0
            have hc1 := f3.facts.1 1
            have hc2 := f3.facts.1 2
            simp at hc0 hc1 hc2
            rcases hbad with hb | hb
            all_goals
              go_wp2_with fail
              rw [hr2.out]
              refine bodyPost_ret (v := .tuple #[.agg #[.slice va xs.length vc, .slice a2 vs.length c2, .slice none 0 0], .bool false]) (by simp [results, Try.results62, go_sem, hc0, hc1, hc2]) rfl ⟨H', [.slice va xs.length vc, .slice a2 vs.length c2, .slice none 0 0], rfl, f1, f2, f4, f5⟩
          · have hr2 : Hid (readS (n + 1) s = ((.mk xs vs (partsS (readS n) (intS s').1.toNat (intS s').2).1.1, (partsS (readS n) (intS s').1.toNat (intS s').2).1.2), (partsS (readS n) (intS s').1.toNat (intS s').2).2)) := by
              show _ = _; rw [hr1.out, if_neg hbad]
            clear hr1
            generalize (intS s').1 = y at *
            generalize (intS s').2 = s3 at *
            obtain ⟨m, rfl⟩ : ∃ m : Nat, y = m := ⟨y.toNat, by omega⟩
            rw [Int.toNat_natCast] at hr2
            have hm96 : m ≤ 96 := by omega
            clear hy
            go_wp2_with fail
            clear hbad
            go_loopw [53] (fun i wr => ∃ (ps : List Thing) (v3 : Value) (s4 : RS) (H : PH), ps.length ≤ m ∧ i = .int .i64 ps.length ∧
              MemX w.heap.size [box w.heap.size zeroT 29, own mono_IntR 1 3 (.slice va xs.length vc) xs, own mono_ValR 3 41 (.slice a2 vs.length c2) vs, own mono_ThingR 3 29 v3 ps, box w1.heap.size #[.slice va xs.length vc, .slice a2 vs.length c2, v3] 29] H wr ∧
              Rd HR wr g s4 ∧ ExtW w wr g none ∧ Small s4 ∧ Hid (partsS (readS n) m s3 = ((ps ++ (partsS (readS n) (m - ps.length) s4).1.1, (partsS (readS n) (m - ps.length) s4).1.2), (partsS (readS n) (m - ps.length) s4).2))) (fun i _ => m - (intOf i).toNat)
            case atStart => exact ⟨[], _, s3, noH, by simp, rfl, hM4, hR4, hX5, hsm3, Lib.hid (by simp)⟩
            case round =>
              clear hM4 hR4 hX5 hsm3
              obtain ⟨ps, v3, s4, H, hpm, rfl, hM, hR4, hX, hsm, heq⟩ := hrel
              obtain ⟨a3, c3, rfl, hl3⟩ : ∃ a cap, v3 = .slice a ps.length cap ∧ ps.length ≤ 9223372036854775807 := by
                obtain ⟨w0, hw0, hMm⟩ := hM
                exact hMm.form 3 rfl
              by_cases hlt2 : ps.length < m
              · obtain ⟨⟨⟨p, ok⟩, s5⟩, hq⟩ : ∃ r, readS n s4 = r := ⟨_, rfl⟩
                have hc := ih.out g s4 wr hR4 hsm
                have hsm5 := small_read n s4 hsm
                have heq6 : partsS (readS n) (m - ps.length) s4 = if ok then ((p :: (partsS (readS n) (m - (ps.length + 1)) s5).1.1, (partsS (readS n) (m - (ps.length + 1)) s5).1.2), (partsS (readS n) (m - (ps.length + 1)) s5).2) else (([], false), s5) := by
                  rw [show m - ps.length = (m - (ps.length + 1)) + 1 by omega, partsS, hq]
                rw [heq6] at heq
                rw [hq] at hc hsm5
                simp only [] at hc hsm5
                clear hq heq6 hsm
                go_wp2_with fail
                rw [show (9 : Int) - ((n : Int) + 1) + 1 = 9 - (n : Int) by omega]
                refine hc.mono ?_
                rintro e w5 ⟨H5, cs, rfl, hT, hU, hR5, hX5⟩
                obtain ⟨H2, -, q2, hM5⟩ := hM.join hX5 hg hU
                replace hT := mono_ThingR _ _ _ _ q2 hT
                have hX6 := hX.then hX5 (fun i h => by cases h)
                obtain ⟨b1, d1, b2, d2, b3, d3, rfl, -⟩ := hT.form
                clear hM hR4 hX hX5 q2 hc
                have hb6 := Ext.new w5 (.cells #[.slice b1 p.cls.length d1, .slice b2 p.vals.length d2, .slice b3 p.parts.length d3] 29)
                have hMX := hM5.step (fun w0 m => m.ext hb6)
                have hRX := hR5.keep hb6
                have hXX := hX6.then (hb6.toW g none) (fun i h => by cases h)
                cases ok with
                | false =>
                  have hr3 : Hid (readS (n + 1) s = ((.mk xs vs ps, false), s5)) := by
                    show _ = _; rw [hr2.out, heq.out]; simp
                  clear hr2 heq
                  obtain ⟨H', f1, f2, f3, f4, f5⟩ := tread_fin hR hMX hRX hXX rfl rfl 1 2 3 rfl rfl rfl (by omega) (by omega) (by omega)
                  obtain ⟨w0, hw0, hMm⟩ := hMX
                  obtain ⟨h6c, h6f⟩ := (hMm.box 4 rfl).facts
                  obtain ⟨h4c, h4f⟩ := (hMm.box 0 rfl).facts
                  have hc0 := f3.facts.1 0
                  have hc1 := f3.facts.1 1
                  have hc2 := f3.facts.1 2
                  simp at hc0 hc1 hc2
                  go_wp2_with fail
                  rw [hr3.out]
                  refine bodyPost_ret (v := .tuple #[.agg #[.slice va xs.length vc, .slice a2 vs.length c2, .slice a3 ps.length c3], .bool false]) (by simp [results, Try.results62, go_sem, hc0, hc1, hc2]) rfl ⟨H', [.slice va xs.length vc, .slice a2 vs.length c2, .slice a3 ps.length c3], rfl, f1, f2, f4, f5⟩
                | true =>
                  simp only [if_true] at heq
                  obtain ⟨w0, hw0, hMm⟩ := hMX
                  obtain ⟨h6c, h6f⟩ := (hMm.box 4 rfl).facts
                  go_wp2_with (at_builtin; refine wpList_append_M 3 rfl _ _ 23 rfl Try.underlying23 infoThing rfl rfl rfl (hMm.ext (by repeat (first | (with_reducible assumption) | (with_reducible exact Ext.rfl' _) | (with_reducible exact Ext.new _ _) | (with_reducible refine Ext.alloc' ?_ _) | (with_reducible refine Ext.drew' ?_) | (with_reducible refine Ext.drewN' ?_ _) | (with_reducible refine Ext.set' ?_ ?_ _; rotate_left; (focus (first | omega | (simp; done) | (simp; omega)))) | (with_reducible refine Ext.then (b := ?_) ?_ ?_; rotate_left; rotate_left; (with_reducible assumption))))) rfl (srcArr (xs := [p]) (cur := #[.slice b1 p.cls.length d1, .slice b2 p.vals.length d2, .slice b3 p.parts.length d3]) (Own.new' _ _ _ (by simp)) ⟨[_, _, _], [], rfl, rfl, hT, rfl⟩ rfl) one_ThingR ?c3 ?c4 ?c5)
                  case c3 => simp; omega
                  case c4 => simp; omega
                  case c5 =>
                  intro v' w7 hM7
                  obtain ⟨a7, c7, rfl, -⟩ := hM7.form 3 rfl
                  rw [show (ps ++ [p]).length = ps.length + 1 by simp] at hM7
                  have hM8 := hM7.set 4 rfl 2 (.slice a7 (ps.length + 1) c7)
                  have hR8 := hMm.rd hM8 hRX (fun k o h => by rw [hw0]; exact hR.bound k o h) (by omega)
                  have hX8 := hMm.xw hM8 hXX hw0
                  obtain ⟨q5c, q5f⟩ := (hM7.box 4 rfl).facts
                  have heq8 : Hid (partsS (readS n) m s3 = (((ps ++ [p]) ++ (partsS (readS n) (m - (ps.length + 1)) s5).1.1, (partsS (readS n) (m - (ps.length + 1)) s5).1.2), (partsS (readS n) (m - (ps.length + 1)) s5).2)) := by
                    show _ = _
                    rw [heq.out, List.append_assoc]; rfl
                  clear hMm hM7 heq hr2 h6c h6f hRX hXX hM5 hX6 hR5
                  go_wp2_with fail
                  go_roundw
                  case rel => exact ⟨ps ++ [p], .slice a7 (ps.length + 1) c7, s5, H2, by simp; omega, by simp, ⟨w0, hw0, hM8⟩, hR8, hX8, hsm5, by simpa using heq8⟩
                  case measure => simp [intOf]; omega
              · obtain rfl : m = ps.length := by omega
                rw [Nat.sub_self] at heq
                have hr3 : Hid (readS (n + 1) s = ((.mk xs vs ps, true), s4)) := by
                  show _ = _; rw [hr2.out, heq.out]; simp [partsS]
                clear hr2 heq
                obtain ⟨H', f1, f2, f3, f4, f5⟩ := tread_fin hR hM hR4 hX rfl rfl 1 2 3 rfl rfl rfl (by omega) (by omega) (by omega)
                obtain ⟨w0, hw0, hMm⟩ := hM
                obtain ⟨h6c, h6f⟩ := (hMm.box 4 rfl).facts
                obtain ⟨h4c, h4f⟩ := (hMm.box 0 rfl).facts
                have hc0 := f3.facts.1 0
                have hc1 := f3.facts.1 1
                have hc2 := f3.facts.1 2
                simp at hc0 hc1 hc2
                go_wp2_with fail
                rw [hr3.out]
                refine bodyPost_ret (v := .tuple #[.agg #[.slice va xs.length vc, .slice a2 vs.length c2, .slice a3 ps.length c3], .bool true]) (by simp [results, Try.results62, go_sem, hc0, hc1, hc2]) rfl ⟨H', [.slice va xs.length vc, .slice a2 vs.length c2, .slice a3 ps.length c3], rfl, f1, f2, f4, f5⟩
end Go.Proofs.Ytebhdjeognpljaa
