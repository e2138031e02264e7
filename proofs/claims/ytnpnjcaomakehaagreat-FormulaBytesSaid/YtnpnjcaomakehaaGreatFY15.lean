/- Lemmas for FY, part 16: the documented examples of formulas: class, not, of, lives, and more. -/
import Derived.Test.YtnpnjcaomakehaaGreatFY03
import Derived.Test.YtnpnjcaomakehaaGreatFY04
import Derived.Test.YtnpnjcaomakehaaGreatFY05
import Derived.Test.YtnpnjcaomakehaaGreatFY06
import Derived.Test.YtnpnjcaomakehaaGreatFY11
import Derived.Test.YtnpnjcaomakehaaGreatFY13
import Derived.Test.YtnpnjcaomakehaaGreatFY14
set_option linter.unusedSimpArgs false
set_option linter.unusedVariables false
namespace Go.Proofs.YtnpnjcaomakehaaGreat
open Go.RowKit Go.Shelf
def FmIs (f : Fm) (h : PH) (v : Value) : Prop := ∃ a3 c3 a4 c4, v = fmV f a3 c3 a4 c4 ∧ FmR h (fmC f a3 c3 a4 c4) f
theorem FmIs.mono {f : Fm} {h h' : PH} {v : Value} (k : FmIs f h v) (hl : PLe h h') : FmIs f h' v := by
  obtain ⟨a3, c3, a4, c4, e, r⟩ := k
  exact ⟨a3, c3, a4, c4, e, mono_FmR _ _ _ _ hl r⟩
abbrev FmS (f : Fm) : Value → World → Prop := fun v w => FmIs f (ph w) v
theorem stab_FmS {W : World} (f : Fm) : Stable W (FmS f) := fun v w w' _ h e => h.mono e.ple
def RetF (w : World) (f : Fm) (e : Ending) (w' : World) : Prop := ∃ v, e = .returned v ∧ Ext w w' ∧ FmIs f (ph w') v
theorem class7_c (n : Int) (w : World) : Calls Tryz.prog 63 #[.int .i64 n] w (RetV w (fmV (clsF n) none 0 none 0)) := by
  show Calls Tryz.prog 63 #[.int .i64 n] w (RetV w (.agg #[.int .i64 1, .int .i64 n, .slice none 0 0, .slice none 0 0]))
  go_enter Tryz.func63, Tryz.ntmps63
  go_wp2_with fail
  have ho := Own.new w #[.int .i64 1, .int .i64 n, .slice none 0 0, .slice none 0 0] 50
  have hx := Ext.new w (.cells #[.int .i64 1, .int .i64 n, .slice none 0 0, .slice none 0 0] 50)
  generalize w.alloc _ = w9 at *
  obtain ⟨q, -⟩ := ho.facts
  have q0 : _ = some (Value.int .i64 1) := q 0
  have q1 : _ = some (Value.int .i64 n) := q 1
  have q2 : _ = some (Value.slice none 0 0) := q 2
  have q3 : _ = some (Value.slice none 0 0) := q 3
  refine bodyPost_ret (v := .agg #[.int .i64 1, .int .i64 n, .slice none 0 0, .slice none 0 0]) (by simp [results, Tryz.results63, go_sem, q0, q1, q2, q3]) rfl ?_
  exact ⟨rfl, hx⟩
theorem cls_is (n : Int) (hn : I64 n) (h : PH) : FmIs (clsF n) h (fmV (clsF n) none 0 none 0) := ⟨_, _, _, _, rfl, clsF_R h hn⟩
theorem litN {w : World} (l : List (FmT (ph w))) (hn : l.length ≤ 1000) : FmsR (ph (w.alloc (.cells (l.flatMap encT).toArray 50))) (.slice (some ⟨w.heap.size, 0, none⟩) l.length l.length) (l.map FmT.f) := by
  have hfl : (l.flatMap encT).length = l.length * 4 := gflat_len encT 4 (fun _ => rfl) l
  have hc : Cells (ph w) FmR 4 (l.flatMap encT) (l.map FmT.f) := cells_F (flat_cells (E := TR (H := ph w)) (H := ph w) encT 4 (fun _ => rfl) l fun _ _ => rfl)
  have hm := ((Mem.start w (ph w) (fun _ _ h => h)).new' (l.flatMap encT).toArray 50 (n := w.heap.size) rfl).asOwn 0 rfl mono_FmR (sz := 4) (xs := l.map FmT.f) (n := l.length) (by simp) (by simp [maxLen]; omega) (by simpa using hfl) (by
    rw [List.length_map, ← hfl]
    show Cells (ph w) FmR 4 ((l.flatMap encT).take (l.flatMap encT).length) _
    rw [List.take_length]; exact hc)
  have h := hm.rep 0 rfl
  rw [List.length_map] at h
  exact h
theorem RetF_at {P : Program} {g : FuncId} {args : Array Value} {w : World} {f : Fm} {K : Ending → World → Prop} (h : Calls P g args w (RetF w f)) (hK : ∀ v w', Ext w w' → FmIs f (ph w') v → K (.returned v) w') : Calls P g args w K :=
  h.mono (by rintro e w' ⟨v, rfl, hx, hf⟩; exact hK v w' hx hf)
set_option maxRecDepth 100000 in
set_option maxHeartbeats 2000000 in
theorem not7w_c (f : Fm) (v : Value) (w : World) (hr : FmIs f (ph w) v) : Calls Tryz.prog 64 #[v] w (RetF w (.mk 6 0 [] [f])) := by
  obtain ⟨a3, c3, a4, c4, rfl, hr⟩ := hr
  have hM := ((((Mem.start w (ph w) (fun _ _ h => h)).new' #[.int .i64 f.op, .int .i64 f.n, .slice a3 f.inn.length c3, .slice a4 f.kids.length c4] 50 (n := w.heap.size) rfl).new' #[.int .i64 6, .int .i64 0, .slice none 0 0, .slice (some ⟨w.heap.size + 1 + 1, 0, none⟩) 1 1] 50 (n := w.heap.size + 1) (by simp)).new' #[.int .i64 f.op, .int .i64 f.n, .slice a3 f.inn.length c3, .slice a4 f.kids.length c4] 50 (n := w.heap.size + 1 + 1) (by simp)).asOwn 2 rfl mono_FmR (sz := 4) (xs := [f]) (n := 1) (by simp) (by simp [maxLen]) rfl ⟨_, [], rfl, rfl, hr, rfl⟩
  simp only [List.cons_append, List.nil_append, List.set_cons_succ, List.set_cons_zero] at hM
  have hR5 := hM.rep 2 rfl
  go_enter Tryz.func64, Tryz.ntmps64
  go_wp2_with fail
  generalize World.alloc _ _ = w9 at *
  obtain ⟨q, -⟩ := (hM.box 1 rfl).facts
  have q0 : _ = some (Value.int .i64 6) := q 0
  have q1 : _ = some (Value.int .i64 0) := q 1
  have q2 : _ = some (Value.slice none 0 0) := q 2
  have q3 : _ = some (Value.slice (some ⟨w.heap.size + 1 + 1, 0, none⟩) 1 1) := q 3
  refine bodyPost_ret (v := .agg #[.int .i64 6, .int .i64 0, .slice none 0 0, .slice (some ⟨w.heap.size + 1 + 1, 0, none⟩) 1 1]) (by simp [results, Tryz.results64, go_sem, q0, q1, q2, q3]) rfl ?_
  exact ⟨_, rfl, hM.ex, none, 0, some ⟨w.heap.size + 1 + 1, 0, none⟩, 1, rfl, FmR.of (f := .mk 6 0 [] [f]) (by simp [Fm.op, I64]) (by simp [Fm.n, I64]) (SliceRep.nil _ _ _) hR5⟩
theorem of7_c (op : Int) (ks : List Fm) (v : Value) (w : World) (ho : I64 op) (hr : FmsR (ph w) v ks) : Calls Tryz.prog 66 #[.int .i64 op, v] w (RetF w (.mk op 0 [] ks)) := by
  obtain ⟨a, c, rfl, -, hr⟩ := hr.form
  go_enter Tryz.func66, Tryz.ntmps66
  go_wp2_with fail
  have o1 := Own.new w #[.int .i64 op, .int .i64 0, .slice none 0 0, .slice a ks.length c] 50
  have hx := Ext.new w (.cells #[.int .i64 op, .int .i64 0, .slice none 0 0, .slice a ks.length c] 50)
  generalize w.alloc _ = w9 at *
  obtain ⟨q, -⟩ := o1.facts
  have q0 : _ = some (Value.int .i64 op) := q 0
  have q1 : _ = some (Value.int .i64 0) := q 1
  have q2 : _ = some (Value.slice none 0 0) := q 2
  have q3 : _ = some (Value.slice a ks.length c) := q 3
  refine bodyPost_ret (v := .agg #[.int .i64 op, .int .i64 0, .slice none 0 0, .slice a ks.length c]) (by simp [results, Tryz.results66, go_sem, q0, q1, q2, q3]) rfl ?_
  exact ⟨_, rfl, hx, none, 0, a, c, rfl, FmR.of (f := .mk op 0 [] ks) ho (by simp [Fm.n, I64]) (SliceRep.nil _ _ _) (hr.mono mono_FmR hx.ple)⟩
def P2 : List (List Int) := [[], [0]]
def TxOne : Thing := .mk [1] [] []
theorem okP2 : ParOk P2 (fun n => n) where
  pos := by decide
  le := by decide
  inc := by
    intro l hl
    simp only [P2, List.mem_cons, List.not_mem_nil, or_false] at hl
    rcases hl with rfl | rfl <;> simp [ascTx]
  inn := by
    intro c l h p hp
    match c, h with
    | 0, h => cases h; cases hp
    | 1, h => cases h; simp at hp; subst hp; simp [P2]
  rk := by
    intro c l p h hp
    match c, h with
    | 0, h => cases h; cases hp
    | 1, h => cases h; simp at hp; omega
theorem hold_c0 : hold P2 (clsF 0) TxOne = true := by
  rw [hold_eq]
  have h : isTx P2 1 0 := ⟨by decide, by decide, by decide, by decide, .step (ps := P2) (c := 1) (p := 0) (d := 0) (l := [0]) rfl (by simp) (.refl 0)⟩
  show (if (1 : Int) = 1 then [(1 : Int)].any fun c => B (isTx P2 c 0) else _) = true
  rw [if_pos rfl, List.any_cons, (B_iff).2 h]; rfl
theorem hold_n0 : hold P2 (.mk 6 0 [] [clsF 0]) TxOne = false := by
  rw [hold_6 (f := .mk 6 0 [] [clsF 0]) rfl rfl, hold_c0]; rfl
theorem TxOne_ok : validV TxOne = 0 ∧ TxOne.clsLt 2 ∧ TxOne.bulk ≤ 1000000 := by
  have hz : TxOne.size = 1 := by rw [Thing.size_eq]; rfl
  have hd : TxOne.deep = 1 := by rw [Thing.deep_eq]; rfl
  have hf : TxOne.formed := (Thing.formed_iff _).2 ⟨by simp [TxOne, Thing.vals], (fun k h => by
    have h' : k < 1 := h
    obtain rfl : k = 0 := by omega
    exact ⟨(by show (0 : Int) ≤ 1; decide), (by show (1 : Int) < 64; decide), fun h0 => by omega⟩), (fun k h => by cases h), by simp [TxOne, Thing.parts]⟩
  refine ⟨?_, ?_, ?_⟩
  · unfold validV
    rw [if_pos ⟨by omega, by omega⟩]
    exact if_pos hf
  · rw [Thing.clsLt_iff]; simp [TxOne, Thing.cls, Thing.parts]
  · simp [TxOne, Thing.bulk, bulks]
def pArg : Fm := .mk 6 0 [] [.mk 4 0 [] [clsF 0, .mk 6 0 [] [clsF 1]]]
def pRes : Fm := .mk 5 0 [] [.mk 6 0 [] [clsF 0], clsF 1]
def sArg : Fm := .mk 4 0 [] [noF, clsF 1, clsF 1]
theorem p_law : pushE pArg = (pRes, 0) := by kernel_rfl
theorem s_law : simpleE sArg = (clsF 1, 0) := by kernel_rfl
theorem p2_rows {w : World} {g g' : Nat} {T T' : TypeId} (h1 : Own w g #[.int .i64 0] T) (h2 : Own w g' #[.slice none 0 0, .slice (some ⟨g, 0, none⟩) 1 1] T') : RowsR (ph w) (.slice (some ⟨g', 0, none⟩) 2 2) P2 := by
  refine ⟨_, 2, rfl, Nat.le_refl _, by simp [maxLen], .inr ⟨g', 0, rfl, ⟨[.slice none 0 0], rfl, fun j hj => ?_, ⟨_, rfl, SliceRep.nil _ _ _⟩⟩, ⟨[.slice (some ⟨g, 0, none⟩) 1 1], rfl, fun j hj => ?_, ⟨_, rfl, ints1 h1 (by simp [I64])⟩⟩, trivial⟩⟩
  · obtain rfl : j = 0 := by omega
    rw [← cell_ph]; exact h2.facts.1 0
  · obtain rfl : j = 0 := by omega
    rw [← cell_ph]; exact h2.facts.1 1
theorem t1_R {w : World} {g : Nat} {T : TypeId} (h1 : Own w g #[.int .i64 1] T) : ThingR (ph w) [.slice (some ⟨g, 0, none⟩) 1 1, .slice none 0 0, .slice none 0 0] TxOne :=
  thingR_iff.2 ⟨_, _, _, rfl, ints1 h1 (by simp [I64]), SliceRep.nil _ _ _, SliceRep.nil _ _ _⟩
abbrev FmsS (l : List Fm) : Value → World → Prop := fun v w => FmsR (ph w) v l
theorem stab_FmsS {W : World} (l : List Fm) : Stable W (FmsS l) := fun v w w' _ h e => h.mono mono_FmR e.ple
set_option maxRecDepth 100000 in
set_option maxHeartbeats 8000000 in
theorem lives07_c (w : World) : Calls Tryz.prog 26 #[] w (RetV w (.bool true)) := by
  obtain ⟨t1, t2, t3⟩ := TxOne_ok
  have hc0 := hold_c0
  have hn0 := hold_n0
  have v0 : validF (clsF 0) = 0 := by kernel_rfl
  have w0 : wholeN 2 (clsF 0) = true := by kernel_rfl
  have v1 : validF (.mk 6 0 [] [clsF 0]) = 0 := by kernel_rfl
  have w1 : wholeN 2 (.mk 6 0 [] [clsF 0]) = true := by kernel_rfl
  have ha := p_law
  have hs := s_law
  go_enter Tryz.func26, Tryz.ntmps26
  have o1 := Own.new w #[.int .i64 0] 3
  have o2 := Own.new' (w.alloc (.cells #[.int .i64 0] 3)) #[.slice none 0 0, .slice (some ⟨w.heap.size, 0, none⟩) 1 1] 22 (n := w.heap.size + 1) (by simp)
  have hx := (Ext.new w (.cells #[.int .i64 0] 3)).then (Ext.new (w.alloc (.cells #[.int .i64 0] 3)) (.cells #[.slice none 0 0, .slice (some ⟨w.heap.size, 0, none⟩) 1 1] 22))
  have hrows := p2_rows (o1.alloc (.cells #[.slice none 0 0, .slice (some ⟨w.heap.size, 0, none⟩) 1 1] 22)) o2
  clear o1 o2
  go_wp2_with fail
  generalize World.alloc _ _ = wa at *
  refine (newTx_c okP2 _ _ hrows).mono ?_
  rintro e wb ⟨B, rfl, hxb, hT⟩
  replace hx := hx.then hxb
  clear hrows hxb
  have o3 := Own.new wb #[.int .i64 1] 3
  have o4 := Own.new' (wb.alloc (.cells #[.int .i64 1] 3)) #[.slice (some ⟨wb.heap.size, 0, none⟩) 1 1, .slice none 0 0, .slice none 0 0] 107 (n := wb.heap.size + 1) (by simp)
  have hx4 := (Ext.new wb (.cells #[.int .i64 1] 3)).then (Ext.new (wb.alloc (.cells #[.int .i64 1] 3)) (.cells #[.slice (some ⟨wb.heap.size, 0, none⟩) 1 1, .slice none 0 0, .slice none 0 0] 107))
  replace o3 := o3.alloc (.cells #[.slice (some ⟨wb.heap.size, 0, none⟩) 1 1, .slice none 0 0, .slice none 0 0] 107)
  go_upto_region 5 with (fail)
  generalize World.alloc _ _ = W at *
  generalize wb.heap.size + 1 = g3 at *
  generalize wb.heap.size = g2 at *
  replace hT := hT.keep hx4
  replace hx := hx.then hx4
  have hTh := t1_R o3
  clear hx4 o3
  have u0 : W.cell? ⟨g3, 0, none⟩ = some (.slice (some ⟨g2, 0, none⟩) 1 1) := o4.facts.1 0
  have u1 : W.cell? ⟨g3, 1, none⟩ = some (.slice none 0 0) := o4.facts.1 1
  have u2 : W.cell? ⟨g3, 2, none⟩ = some (.slice none 0 0) := o4.facts.1 2
  have ul := o4.lt
  have hH1 := fun W' (e : Ext W W') => fholds_c (ps := P2) (by decide) B (clsF 0) TxOne _ _ W' (hT.keep e) (clsF_R (ph W') (n := 0) (by simp [I64])) (mono_ThingR _ _ _ _ e.ple hTh) v0 w0 t1 t2 t3
  have hH2 := fun W' (e : Ext W W') cs (hf : FmR (ph W') cs (.mk 6 0 [] [clsF 0])) => fholds_c (ps := P2) (by decide) B (.mk 6 0 [] [clsF 0]) TxOne _ _ W' (hT.keep e) hf (mono_ThingR _ _ _ _ e.ple hTh) v1 w1 t1 t2 t3
  rw [hc0] at hH1
  rw [hn0] at hH2
  replace hH1 := Lib.hid hH1
  replace hH2 := Lib.hid hH2
  clear v0 v1 w0 w1 t1 t2 t3 hc0 hn0 hT hTh
  (refine wp_region_I 9 (by kernel_rfl) (by kernel_rfl) ?_; simp only [List.toList_toArray, List.take_succ_cons, List.take_zero, List.drop_succ_cons, List.drop_zero])
  (refine wiA rfl (by simp) rfl ?_; (try simp only [List.nil_append, List.cons_append]))
  (refine walkI_is (u := ?_) rfl (by simp) rfl ?_ ?_; rotate_left; (focus (intro A w' hS hA K hK; (simp only [List.map_cons, List.map_nil, knows, Is, Op.operands, Call.operands, List.lookup_cons, List.lookup_nil, Nat.reduceBEq, Bool.false_eq_true, if_false, if_true, Act.eval, Array.getD_eq_getD_getElem?, List.getElem?_toArray, List.getElem?_cons_succ, List.getElem?_cons_zero, Option.getD_some, and_true, true_and, List.append_toArray, List.nil_append, List.cons_append, List.toList_toArray, Array.toList_append, Option.toArray, List.append_nil] at hA); first | (go_simp; refine RetV_at (class7_c 0 _) ?_; intro w'' hx''; exact hK _ hx'') | (obtain ⟨hSc, hSf, hSs⟩ := hS.cells; go_simp; exact hK _ xN))); (try simp only [List.nil_append, List.cons_append]))
  (refine wiA rfl (by simp) rfl ?_; (try simp only [List.nil_append, List.cons_append]))
  (refine walkI_is (u := ?_) rfl (by simp) rfl ?_ ?_; rotate_left; (focus (intro A w' hS hA K hK; (simp only [List.map_cons, List.map_nil, knows, Is, Op.operands, Call.operands, List.lookup_cons, List.lookup_nil, Nat.reduceBEq, Bool.false_eq_true, if_false, if_true, Act.eval, Array.getD_eq_getD_getElem?, List.getElem?_toArray, List.getElem?_cons_succ, List.getElem?_cons_zero, Option.getD_some, and_true, true_and, List.append_toArray, List.nil_append, List.cons_append, List.toList_toArray, Array.toList_append, Option.toArray, List.append_nil] at hA); first | (go_simp; refine (hH1.out _ hS).mono ?_; rintro e w9 ⟨rfl, hx9⟩; exact hK _ hx9) | (obtain ⟨hSc, hSf, hSs⟩ := hS.cells; go_simp; exact hK _ xN))); (try simp only [List.nil_append, List.cons_append]))
  iterate 5 (refine wiA rfl (by simp) rfl ?_; (try simp only [List.nil_append, List.cons_append]))
  (refine walkI_nil ?_; simp only [List.nil_append, List.cons_append, fins, Is, forall_eq, Act.put, List.setIfInBounds_toArray, List.set_cons_zero, List.set_cons_succ])
  intro W5 hx5
  replace hx := hx.then hx5
  replace hH2 := Lib.hid (fun W' (e : Ext W5 W') => hH2.out W' (hx5.then e))
  replace u0 := hx5.cell1 u0
  replace u1 := hx5.cell1 u1
  replace u2 := hx5.cell1 u2
  replace ul := cell_lt u0
  clear hx5 hH1 o4
  go_upto_region 6 with (fail)
  (refine wp_region_I 10 (by kernel_rfl) (by kernel_rfl) ?_; simp only [List.toList_toArray, List.take_succ_cons, List.take_zero, List.drop_succ_cons, List.drop_zero])
  (refine wiA rfl (by simp) rfl ?_; (try simp only [List.nil_append, List.cons_append]))
  (refine walkI_is (u := ?_) rfl (by simp) rfl ?_ ?_; rotate_left; (focus (intro A w' hS hA K hK; (simp only [List.map_cons, List.map_nil, knows, Is, Op.operands, Call.operands, List.lookup_cons, List.lookup_nil, Nat.reduceBEq, Bool.false_eq_true, if_false, if_true, Act.eval, Array.getD_eq_getD_getElem?, List.getElem?_toArray, List.getElem?_cons_succ, List.getElem?_cons_zero, Option.getD_some, and_true, true_and, List.append_toArray, List.nil_append, List.cons_append, List.toList_toArray, Array.toList_append, Option.toArray, List.append_nil] at hA); first | (go_simp; refine RetV_at (class7_c 0 _) ?_; intro w'' hx''; exact hK _ hx'') | (obtain ⟨hSc, hSf, hSs⟩ := hS.cells; go_simp; exact hK _ xN))); (try simp only [List.nil_append, List.cons_append]))
  (refine walkI_step (FmS (.mk 6 0 [] [clsF 0])) rfl (by simp) rfl (stab_FmS _) ?_ ?_; (focus (intro A w' hS hA K hK; (simp only [List.map_cons, List.map_nil, knows, Is, Op.operands, Call.operands, List.lookup_cons, List.lookup_nil, Nat.reduceBEq, Bool.false_eq_true, if_false, if_true, Act.eval, Array.getD_eq_getD_getElem?, List.getElem?_toArray, List.getElem?_cons_succ, List.getElem?_cons_zero, Option.getD_some, and_true, true_and, List.append_toArray, List.nil_append, List.cons_append, List.toList_toArray, Array.toList_append, Option.toArray, List.append_nil] at hA); (go_simp; refine RetF_at (not7w_c (clsF 0) _ _ (cls_is 0 (by simp [I64]) _)) ?_; intro v w'' hx'' hf; exact hK _ _ hx'' hf))); (try simp only [List.nil_append, List.cons_append]))
  (refine wiA rfl (by simp) rfl ?_; (try simp only [List.nil_append, List.cons_append]))
  (refine walkI_is (u := ?_) rfl (by simp) rfl ?_ ?_; rotate_left; (focus (intro A w' hS hA K hK; (simp only [List.map_cons, List.map_nil, knows, Is, Op.operands, Call.operands, List.lookup_cons, List.lookup_nil, Nat.reduceBEq, Bool.false_eq_true, if_false, if_true, Act.eval, Array.getD_eq_getD_getElem?, List.getElem?_toArray, List.getElem?_cons_succ, List.getElem?_cons_zero, Option.getD_some, and_true, true_and, List.append_toArray, List.nil_append, List.cons_append, List.toList_toArray, Array.toList_append, Option.toArray, List.append_nil] at hA); first | (obtain ⟨hA1, ⟨f3, g3', f4, g4, hA2, hA3⟩, hA4⟩ := hA; go_simp; refine (hH2.out _ hS _ hA3).mono ?_; rintro e w9 ⟨rfl, hx9⟩; exact hK _ hx9) | (obtain ⟨hSc, hSf, hSs⟩ := hS.cells; go_simp; exact hK _ xN))); (try simp only [List.nil_append, List.cons_append]))
  iterate 5 (refine wiA rfl (by simp) rfl ?_; (try simp only [List.nil_append, List.cons_append]))
  (refine walkI_nil ?_; simp only [List.nil_append, List.cons_append, fins, Is, forall_eq, Act.put, List.setIfInBounds_toArray, List.set_cons_zero, List.set_cons_succ])
  rintro W6 hx6 v36 -
  replace hx := hx.then hx6
  clear hx6 hH2 u0 u1 u2 ul
  have i4 : I64 4 := by simp [I64]
  have i5 : I64 5 := by simp [I64]
  have i0 : I64 0 := by simp [I64]
  have i1 : I64 1 := by simp [I64]
  go_wp2_with fail
  refine RetV_at (class7_c 0 _) ?_
  intro W7 hx7
  replace hx := hx.then hx7
  clear hx7
  go_wp2_with fail
  refine RetV_at (class7_c 1 _) ?_
  intro W8 hx8
  replace hx := hx.then hx8
  clear hx8
  go_wp2_with fail
  refine RetF_at (not7w_c (clsF 1) _ _ (cls_is 1 i1 _)) ?_
  rintro v44 W9 hx9 ⟨f3, g3', f4, g4, rfl, hf⟩
  replace hx := hx.then hx9
  clear hx9
  have hL := litN (w := W9) [⟨clsF 0, none, 0, none, 0, clsF_R _ i0⟩, ⟨.mk 6 0 [] [clsF 1], f3, g3', f4, g4, hf⟩] (by simp)
  replace hx := hx.then (Ext.new W9 (.cells (fmC (clsF 0) none 0 none 0 ++ fmC (.mk 6 0 [] [clsF 1]) f3 g3' f4 g4).toArray 50))
  go_wp2_with fail
  refine RetF_at (of7_c 4 [clsF 0, .mk 6 0 [] [clsF 1]] _ _ i4 hL) ?_
  intro v46 W10 hx10 hf10
  replace hx := hx.then hx10
  clear hx10 hL hf
  go_wp2_with fail
  refine RetF_at (not7w_c _ _ _ hf10) ?_
  rintro v47 W11 hx11 ⟨f3, g3', f4, g4, rfl, hf⟩
  replace hx := hx.then hx11
  clear hx11 hf10
  have hP := fpush_c pArg (fmC pArg f3 g3' f4 g4) W11 hf (by simp [pArg, clsF, Fm.bulk, fbulks])
  rw [ha] at hP
  go_wp2_with fail
  refine hP.mono ?_
  rintro e W12 ⟨b3, d3, b4, d4, rfl, hx12, hp⟩
  dsimp only at hp
  replace hx := hx.then hx12
  clear hx12 hP hf ha
  have o8 := Own.new W12 #[.int .i64 pRes.op, .int .i64 pRes.n, .slice b3 pRes.inn.length d3, .slice b4 pRes.kids.length d4] 50
  have e8 := Ext.new W12 (.cells #[.int .i64 pRes.op, .int .i64 pRes.n, .slice b3 pRes.inn.length d3, .slice b4 pRes.kids.length d4] 50)
  replace hx := hx.then e8
  replace hp := mono_FmR _ _ _ _ e8.ple hp
  dsimp only
  go_upto_region 8 with (fail)
  generalize W12.alloc _ = W13 at *
  generalize W12.heap.size = g8 at *
  clear e8
  go_wp2_with fail
  refine RetV_at (class7_c 1 _) ?_
  intro W14 hx14
  go_wp2_with fail
  refine RetV_at (class7_c 1 _) ?_
  intro W15 hx15
  have hL := litN (w := W15) [⟨noF, none, 0, none, 0, noF_R _⟩, ⟨clsF 1, none, 0, none, 0, clsF_R _ i1⟩, ⟨clsF 1, none, 0, none, 0, clsF_R _ i1⟩] (by simp)
  have hxq := (hx14.then hx15).then (Ext.new W15 (.cells (fmC noF none 0 none 0 ++ (fmC (clsF 1) none 0 none 0 ++ fmC (clsF 1) none 0 none 0)).toArray 50))
  clear hx14 hx15
  go_wp2_with fail
  refine RetF_at (of7_c 4 [noF, clsF 1, clsF 1] _ _ i4 hL) ?_
  rintro v56 W16 hx16 ⟨f3, g3', f4, g4, rfl, hf⟩
  replace hxq := hxq.then hx16
  clear hx16 hL
  have hP := fsimple_c sArg (fmC sArg f3 g3' f4 g4) W16 hf (by simp [sArg, noF, clsF, Fm.bulk, fbulks])
  rw [hs] at hP
  go_wp2_with fail
  refine hP.mono ?_
  rintro e W17 ⟨p3, q3, p4, q4, rfl, hx17, hq⟩
  dsimp only at hq
  replace hxq := hxq.then hx17
  clear hx17 hP hf hs
  have o10 := Own.new W17 #[.int .i64 (clsF 1).op, .int .i64 (clsF 1).n, .slice p3 (clsF 1).inn.length q3, .slice p4 (clsF 1).kids.length q4] 50
  have e10 := Ext.new W17 (.cells #[.int .i64 (clsF 1).op, .int .i64 (clsF 1).n, .slice p3 (clsF 1).inn.length q3, .slice p4 (clsF 1).kids.length q4] 50)
  replace hxq := hxq.then e10
  replace hq := mono_FmR _ _ _ _ e10.ple hq
  replace hp := mono_FmR _ _ _ _ hxq.ple hp
  replace o8 := o8.keep hxq
  replace hx := hx.then hxq
  have n0 : ((0 : Int) != 0) = false := rfl
  dsimp only
  go_upto_region 9 with (fail)
  generalize W17.alloc _ = W18 at *
  generalize W17.heap.size = g10 at *
  clear e10 hxq
  go_upto_region 11 with (fail)
  have u0 : W18.cell? ⟨g8, 0, none⟩ = some (.int .i64 pRes.op) := o8.facts.1 0
  have u1 : W18.cell? ⟨g8, 1, none⟩ = some (.int .i64 pRes.n) := o8.facts.1 1
  have u2 : W18.cell? ⟨g8, 2, none⟩ = some (.slice b3 pRes.inn.length d3) := o8.facts.1 2
  have u3 : W18.cell? ⟨g8, 3, none⟩ = some (.slice b4 pRes.kids.length d4) := o8.facts.1 3
  have ul := o8.lt
  have z0 : W18.cell? ⟨g10, 0, none⟩ = some (.int .i64 (clsF 1).op) := o10.facts.1 0
  have z1 : W18.cell? ⟨g10, 1, none⟩ = some (.int .i64 (clsF 1).n) := o10.facts.1 1
  have z2 : W18.cell? ⟨g10, 2, none⟩ = some (.slice p3 (clsF 1).inn.length q3) := o10.facts.1 2
  have z3 : W18.cell? ⟨g10, 3, none⟩ = some (.slice p4 (clsF 1).kids.length q4) := o10.facts.1 3
  have zl := o10.lt
  have k1 := fun W' (e : Ext W18 W') cs (h : FmR (ph W') cs pRes) => rsameB_c pRes pRes _ cs W' (mono_FmR _ _ _ _ e.ple hp) h (by simp [pRes, clsF, Fm.bulk, fbulks]) (by simp [pRes, clsF, Fm.bulk, fbulks])
  have k2 := fun W' (e : Ext W18 W') => rsameB_c (clsF 1) (clsF 1) _ _ W' (mono_FmR _ _ _ _ e.ple hq) (clsF_R _ i1) (by simp [clsF, Fm.bulk, fbulks]) (by simp [clsF, Fm.bulk, fbulks])
  have hB1 : Proofs.YtnpnjcaomakehaaGreat.B True = true := B_iff.2 trivial
  simp only [eq_self, hB1] at k1 k2
  replace k1 := Lib.hid k1
  replace k2 := Lib.hid k2
  clear hB1 o8 o10 hp hq
  (refine wp_region_I 13 (by kernel_rfl) (by kernel_rfl) ?_; simp only [List.toList_toArray, List.take_succ_cons, List.take_zero, List.drop_succ_cons, List.drop_zero])
  (refine wiA rfl (by simp) rfl ?_; (try simp only [List.nil_append, List.cons_append]))
  (refine walkI_is (u := ?_) rfl (by simp) rfl ?_ ?_; rotate_left; (focus (intro A w' hS hA K hK; (simp only [List.map_cons, List.map_nil, knows, Is, Op.operands, Call.operands, List.lookup_cons, List.lookup_nil, Nat.reduceBEq, Bool.false_eq_true, if_false, if_true, Act.eval, Array.getD_eq_getD_getElem?, List.getElem?_toArray, List.getElem?_cons_succ, List.getElem?_cons_zero, Option.getD_some, and_true, true_and, List.append_toArray, List.nil_append, List.cons_append, List.toList_toArray, Array.toList_append, Option.toArray, List.append_nil] at hA); first | (go_simp; refine RetV_at (class7_c 0 _) ?_; intro w'' hx''; exact hK _ hx'') | (obtain ⟨hSc, hSf, hSs⟩ := hS.cells; go_simp; exact hK _ xN))); (try simp only [List.nil_append, List.cons_append]))
  (refine walkI_step (FmS (.mk 6 0 [] [clsF 0])) rfl (by simp) rfl (stab_FmS _) ?_ ?_; (focus (intro A w' hS hA K hK; (simp only [List.map_cons, List.map_nil, knows, Is, Op.operands, Call.operands, List.lookup_cons, List.lookup_nil, Nat.reduceBEq, Bool.false_eq_true, if_false, if_true, Act.eval, Array.getD_eq_getD_getElem?, List.getElem?_toArray, List.getElem?_cons_succ, List.getElem?_cons_zero, Option.getD_some, and_true, true_and, List.append_toArray, List.nil_append, List.cons_append, List.toList_toArray, Array.toList_append, Option.toArray, List.append_nil] at hA); (go_simp; refine RetF_at (not7w_c (clsF 0) _ _ (cls_is 0 i0 _)) ?_; intro v w'' hx'' hf; exact hK _ _ hx'' hf))); (try simp only [List.nil_append, List.cons_append]))
  (refine walkI_is (u := ?_) rfl (by simp) rfl ?_ ?_; rotate_left; (focus (intro A w' hS hA K hK; (simp only [List.map_cons, List.map_nil, knows, Is, Op.operands, Call.operands, List.lookup_cons, List.lookup_nil, Nat.reduceBEq, Bool.false_eq_true, if_false, if_true, Act.eval, Array.getD_eq_getD_getElem?, List.getElem?_toArray, List.getElem?_cons_succ, List.getElem?_cons_zero, Option.getD_some, and_true, true_and, List.append_toArray, List.nil_append, List.cons_append, List.toList_toArray, Array.toList_append, Option.toArray, List.append_nil] at hA); first | (go_simp; refine RetV_at (class7_c 1 _) ?_; intro w'' hx''; exact hK _ hx'') | (obtain ⟨hSc, hSf, hSs⟩ := hS.cells; go_simp; exact hK _ xN))); (try simp only [List.nil_append, List.cons_append]))
  (refine walkI_step (FmsS [.mk 6 0 [] [clsF 0], clsF 1]) rfl (by simp) rfl (stab_FmsS _) ?_ ?_; (focus (intro A w' hS hA K hK; (simp only [List.map_cons, List.map_nil, knows, Is, Op.operands, Call.operands, List.lookup_cons, List.lookup_nil, Nat.reduceBEq, Bool.false_eq_true, if_false, if_true, Act.eval, Array.getD_eq_getD_getElem?, List.getElem?_toArray, List.getElem?_cons_succ, List.getElem?_cons_zero, Option.getD_some, and_true, true_and, List.append_toArray, List.nil_append, List.cons_append, List.toList_toArray, Array.toList_append, Option.toArray, List.append_nil] at hA); (obtain ⟨⟨f3, g3', f4, g4, hA2, hA3⟩, hA4⟩ := hA; go_simp; exact hK _ _ (Ext.new _ _) (litN (w := w') [⟨.mk 6 0 [] [clsF 0], f3, g3', f4, g4, hA3⟩, ⟨clsF 1, none, 0, none, 0, clsF_R _ i1⟩] (by simp))))); (try simp only [List.nil_append, List.cons_append]))
  (refine walkI_step (FmS pRes) rfl (by simp) rfl (stab_FmS _) ?_ ?_; (focus (intro A w' hS hA K hK; (simp only [List.map_cons, List.map_nil, knows, Is, Op.operands, Call.operands, List.lookup_cons, List.lookup_nil, Nat.reduceBEq, Bool.false_eq_true, if_false, if_true, Act.eval, Array.getD_eq_getD_getElem?, List.getElem?_toArray, List.getElem?_cons_succ, List.getElem?_cons_zero, Option.getD_some, and_true, true_and, List.append_toArray, List.nil_append, List.cons_append, List.toList_toArray, Array.toList_append, Option.toArray, List.append_nil] at hA); (go_simp; refine RetF_at (of7_c 5 _ _ _ i5 hA) ?_; intro v w'' hx'' hf; exact hK _ _ hx'' hf))); (try simp only [List.nil_append, List.cons_append]))
  (refine walkI_is (u := ?_) rfl (by simp) rfl ?_ ?_; rotate_left; (focus (intro A w' hS hA K hK; (simp only [List.map_cons, List.map_nil, knows, Is, Op.operands, Call.operands, List.lookup_cons, List.lookup_nil, Nat.reduceBEq, Bool.false_eq_true, if_false, if_true, Act.eval, Array.getD_eq_getD_getElem?, List.getElem?_toArray, List.getElem?_cons_succ, List.getElem?_cons_zero, Option.getD_some, and_true, true_and, List.append_toArray, List.nil_append, List.cons_append, List.toList_toArray, Array.toList_append, Option.toArray, List.append_nil] at hA); first | (obtain ⟨hA1, f3, g3', f4, g4, hA2, hA3⟩ := hA; go_simp; refine RetV_at (k1.out _ hS _ hA3) ?_; intro w'' hx''; exact hK _ hx'') | (obtain ⟨hSc, hSf, hSs⟩ := hS.cells; go_simp; exact hK _ xN))); (try simp only [List.nil_append, List.cons_append]))
  (refine wiA rfl (by simp) rfl ?_; (try simp only [List.nil_append, List.cons_append]))
  (refine wyA rfl (by simp) rfl rfl rfl ?_; (try simp only [List.nil_append, List.cons_append]))
  (refine walkI_yesis (u := ?_) rfl (by simp) rfl rfl rfl ?_ ?_; rotate_left; (focus (intro A w' hS hA K hK; (simp only [List.map_cons, List.map_nil, knows, Is, Op.operands, Call.operands, List.lookup_cons, List.lookup_nil, Nat.reduceBEq, Bool.false_eq_true, if_false, if_true, Act.eval, Array.getD_eq_getD_getElem?, List.getElem?_toArray, List.getElem?_cons_succ, List.getElem?_cons_zero, Option.getD_some, and_true, true_and, List.append_toArray, List.nil_append, List.cons_append, List.toList_toArray, Array.toList_append, Option.toArray, List.append_nil] at hA); first | (go_simp; refine RetV_at (class7_c 1 _) ?_; intro w'' hx''; exact hK _ hx'') | (obtain ⟨hSc, hSf, hSs⟩ := hS.cells; go_simp; exact hK _ xN))); (try simp only [List.nil_append, List.cons_append]))
  (refine walkI_yesis (u := ?_) rfl (by simp) rfl rfl rfl ?_ ?_; rotate_left; (focus (intro A w' hS hA K hK; (simp only [List.map_cons, List.map_nil, knows, Is, Op.operands, Call.operands, List.lookup_cons, List.lookup_nil, Nat.reduceBEq, Bool.false_eq_true, if_false, if_true, Act.eval, Array.getD_eq_getD_getElem?, List.getElem?_toArray, List.getElem?_cons_succ, List.getElem?_cons_zero, Option.getD_some, and_true, true_and, List.append_toArray, List.nil_append, List.cons_append, List.toList_toArray, Array.toList_append, Option.toArray, List.append_nil] at hA); first | (go_simp; refine RetV_at (k2.out _ hS) ?_; intro w'' hx''; exact hK _ hx'') | (obtain ⟨hSc, hSf, hSs⟩ := hS.cells; go_simp; exact hK _ xN))); (try simp only [List.nil_append, List.cons_append]))
  iterate 2 (refine wiA rfl (by simp) rfl ?_; (try simp only [List.nil_append, List.cons_append]))
  (refine walkI_nil ?_; simp only [List.nil_append, List.cons_append, fins, Is, forall_eq, Act.put, List.setIfInBounds_toArray, List.set_cons_zero, List.set_cons_succ])
  rintro W19 hx19 v83 - v85 - v86 -
  replace hx := hx.then hx19
  go_wp2_with fail
  go_ret
  exact ⟨rfl, hx⟩
theorem valid_of {f : Fm} {cl : Int} (h1 : f.size ≤ 96) (h2 : f.deep ≤ 8) (h3 : wholeN cl f = true) : validF f = 0 := by
  unfold validF
  rw [if_neg (by omega), if_pos (wholeN_B h3)]
def ListQ (w : World) (cl : Int) (e : Ending) (w' : World) : Prop :=
  ∃ v f g h, e = .returned v ∧ Ext w w' ∧ (FmsR (ph w') v [f, g, h] ∧ ∃ b, v = .slice (some ⟨b, 0, none⟩) 3 3) ∧ validF f = 0 ∧ wholeN cl f = true ∧ g.bulk ≤ 7000 ∧ h.bulk ≤ 15000
def ListF (w : World) (l : List Int) (cl at' how by' : Int) (e : Ending) (w' : World) : Prop :=
  ∃ v f g h, e = .returned v ∧ Ext w w' ∧ (FmsR (ph w') v [f, g, h] ∧ ∃ b, v = .slice (some ⟨b, 0, none⟩) 3 3) ∧ validF f = 0 ∧ wholeN cl f = true ∧ g.bulk ≤ 7000 ∧ h.bulk ≤ 15000 ∧ (treeF l cl 5 0 14).1 = f ∧ SpW f at' how by' g ∧ SpW g how at' (by'.tdiv 3) h
theorem spoilt_S (f : Fm) (v : Value) (at' how by' : Int) (w : World) (hr : FmIs f (ph w) v) (i1 : I64 at') (i2 : I64 how) (i3 : I64 by') (hb : f.bulk ≤ 100000) :
    Calls Tryz.prog 29 #[v, .int .i64 at', .int .i64 how, .int .i64 by'] w (fun e w' => ∃ u g, e = .returned u ∧ Ext w w' ∧ FmIs g (ph w') u ∧ g.bulk ≤ 2 * f.bulk + 100 ∧ SpW f at' how by' g) := by
  obtain ⟨a3, c3, a4, c4, rfl, hr⟩ := hr
  refine (spoilt07F_c (H0 := ph w) f _ at' how by' w (fun _ _ h => h) hr i1 i2 i3 hb).mono ?_
  rintro e w' ⟨g, b3, d3, b4, d4, rfl, hg, hb2, hx, hsw⟩
  exact ⟨_, g, rfl, hx, ⟨b3, d3, b4, d4, rfl, mono_FmR _ _ _ _ (up_ple (fun _ _ h => h) hx) hg⟩, hb2, hsw⟩
theorem quo3_I {x : Int} (h : I64 x) : I64 (x.tdiv 3) ∧ IntKind.i64.wrap (x.tdiv 3) = x.tdiv 3 := by
  unfold I64 at *
  have h1 : -9223372036854775808 ≤ x.tdiv 3 ∧ x.tdiv 3 ≤ 9223372036854775807 := by
    rcases Int.le_total 0 x with h0 | h0
    · have := Int.tdiv_eq_ediv_of_nonneg (b := 3) h0; omega
    · have e : x.tdiv 3 = -((-x).tdiv 3) := by rw [Int.neg_tdiv, Int.neg_neg]
      have := Int.tdiv_eq_ediv_of_nonneg (a := -x) (b := 3) (by omega); omega
  exact ⟨h1, by rw [IntKind.wrap_i64]; omega⟩
set_option maxRecDepth 100000 in
set_option maxHeartbeats 4000000 in
theorem some7F_c (l : List Int) (vl : Value) (cl at' how by' : Int) (w : World) (hr : IntsR (ph w) vl l) (hc0 : 0 < cl) (hc1 : cl ≤ 64) (i1 : I64 at') (i2 : I64 how) (i3 : I64 by') :
    Calls Tryz.prog 19 #[vl, .int .i64 cl, .int .i64 at', .int .i64 how, .int .i64 by'] w (ListF w l cl at' how by') := by
  have hr0 := hr
  obtain ⟨xa, xc, rfl, -, -⟩ := hr.form
  have hs := some07F_c l _ cl 14 5 w (fun _ _ h => h) hr0 hc0 hc1 (by omega) (by omega) (by omega)
  rw [show (((5 : Nat) : Int) + 1) = 6 from rfl] at hs
  obtain ⟨j1, j2⟩ := quo3_I i3
  clear hr hr0
  go_enter Tryz.func19, Tryz.ntmps19
  go_wp2_with fail
  refine hs.mono ?_
  rintro e w1 ⟨f, a3, c3, a4, c4, rfl, hF, hw, ⟨hz, hd⟩, hx1, hft⟩
  replace hF := mono_FmR _ _ _ _ (up_ple (noH_le _) hx1) hF
  have hv : validF f = 0 := valid_of (by unfold SzP at hz; omega) (by omega) hw
  have hb := valid_bulk hv
  have e1 := Ext.new w1 (.cells #[.int .i64 f.op, .int .i64 f.n, .slice a3 f.inn.length c3, .slice a4 f.kids.length c4] 50)
  have o11 := Own.new w1 #[.int .i64 f.op, .int .i64 f.n, .slice a3 f.inn.length c3, .slice a4 f.kids.length c4] 50
  replace hF := mono_FmR _ _ _ _ e1.ple hF
  have hx := hx1.then e1
  clear hs hz hd hx1
  go_upto_region 2 with (fail)
  generalize w1.alloc _ = w2 at *
  generalize w1.heap.size = g11 at *
  clear e1
  have u0 : w2.cell? ⟨g11, 0, none⟩ = some (.int .i64 f.op) := o11.facts.1 0
  have u1 : w2.cell? ⟨g11, 1, none⟩ = some (.int .i64 f.n) := o11.facts.1 1
  have u2 : w2.cell? ⟨g11, 2, none⟩ = some (.slice a3 f.inn.length c3) := o11.facts.1 2
  have u3 : w2.cell? ⟨g11, 3, none⟩ = some (.slice a4 f.kids.length c4) := o11.facts.1 3
  have ul := o11.lt
  have hsp := spoilt_S f _ at' how by' w2 ⟨a3, c3, a4, c4, rfl, hF⟩ i1 i2 i3 (by omega)
  go_wp2_with fail
  refine hsp.mono ?_
  rintro e w3 ⟨_, g, rfl, hx3, ⟨b3, d3, b4, d4, rfl, hG⟩, hgb, hsg⟩
  replace hsg := Lib.hid hsg
  have e3 := Ext.new w3 (.cells #[.int .i64 g.op, .int .i64 g.n, .slice b3 g.inn.length d3, .slice b4 g.kids.length d4] 50)
  have o12 := Own.new w3 #[.int .i64 g.op, .int .i64 g.n, .slice b3 g.inn.length d3, .slice b4 g.kids.length d4] 50
  replace hG := mono_FmR _ _ _ _ e3.ple hG
  replace o11 := (o11.keep hx3).keep e3
  replace hF := mono_FmR _ _ _ _ (hx3.then e3).ple hF
  replace hx := (hx.then hx3).then e3
  clear hsp hx3 u0 u1 u2 u3 ul
  go_upto_region 3 with (fail)
  generalize w3.alloc _ = W at *
  generalize w3.heap.size = g12 at *
  clear e3
  have u0 : W.cell? ⟨g11, 0, none⟩ = some (.int .i64 f.op) := o11.facts.1 0
  have u1 : W.cell? ⟨g11, 1, none⟩ = some (.int .i64 f.n) := o11.facts.1 1
  have u2 : W.cell? ⟨g11, 2, none⟩ = some (.slice a3 f.inn.length c3) := o11.facts.1 2
  have u3 : W.cell? ⟨g11, 3, none⟩ = some (.slice a4 f.kids.length c4) := o11.facts.1 3
  have ul := o11.lt
  have y0 : W.cell? ⟨g12, 0, none⟩ = some (.int .i64 g.op) := o12.facts.1 0
  have y1 : W.cell? ⟨g12, 1, none⟩ = some (.int .i64 g.n) := o12.facts.1 1
  have y2 : W.cell? ⟨g12, 2, none⟩ = some (.slice b3 g.inn.length d3) := o12.facts.1 2
  have y3 : W.cell? ⟨g12, 3, none⟩ = some (.slice b4 g.kids.length d4) := o12.facts.1 3
  have yl := o12.lt
  (refine wp_region_I 10 (by kernel_rfl) (by kernel_rfl) ?_; simp only [List.toList_toArray, List.take_succ_cons, List.take_zero, List.drop_succ_cons, List.drop_zero])
  iterate 7 (refine wiA rfl (by simp) rfl ?_; (try simp only [List.nil_append, List.cons_append]))
  (refine walkI_step ((fun v w' => ∃ h, FmIs h (ph w') v ∧ h.bulk ≤ 2 * g.bulk + 100 ∧ Hid (SpW g how at' (by'.tdiv 3) h))) rfl (by simp) rfl ((fun v w w' _ ⟨h, k1, k2⟩ e => ⟨h, k1.mono e.ple, k2⟩)) ?_ ?_; (focus (intro A w' hS hA K hK; (simp only [List.map_cons, List.map_nil, knows, Is, Op.operands, Call.operands, List.lookup_cons, List.lookup_nil, Nat.reduceBEq, Bool.false_eq_true, if_false, if_true, Act.eval, Array.getD_eq_getD_getElem?, List.getElem?_toArray, List.getElem?_cons_succ, List.getElem?_cons_zero, Option.getD_some, and_true, true_and, List.append_toArray, List.nil_append, List.cons_append, List.toList_toArray, Array.toList_append, Option.toArray, List.append_nil] at hA); (go_simp; refine (spoilt_S g _ how at' (by'.tdiv 3) _ ⟨b3, d3, b4, d4, rfl, mono_FmR _ _ _ _ hS.ple hG⟩ i2 i1 j1 (by omega)).mono ?_; rintro e w9 ⟨u, h, rfl, hx9, hu, hb9, hs9⟩; exact hK _ _ hx9 ⟨h, hu, hb9, Lib.hid hs9⟩))); (try simp only [List.nil_append, List.cons_append]))
  (refine walkI_step ((fun v w' => ∃ h, (FmsR (ph w') v [f, g, h] ∧ ∃ b, v = .slice (some ⟨b, 0, none⟩) 3 3) ∧ h.bulk ≤ 2 * g.bulk + 100 ∧ Hid (SpW g how at' (by'.tdiv 3) h))) rfl (by simp) rfl ((fun v w w' _ ⟨h, k1, k2⟩ e => ⟨h, ⟨k1.1.mono mono_FmR e.ple, k1.2⟩, k2⟩)) ?_ ?_; (focus (intro A w' hS hA K hK; (simp only [List.map_cons, List.map_nil, knows, Is, Op.operands, Call.operands, List.lookup_cons, List.lookup_nil, Nat.reduceBEq, Bool.false_eq_true, if_false, if_true, Act.eval, Array.getD_eq_getD_getElem?, List.getElem?_toArray, List.getElem?_cons_succ, List.getElem?_cons_zero, Option.getD_some, and_true, true_and, List.append_toArray, List.nil_append, List.cons_append, List.toList_toArray, Array.toList_append, Option.toArray, List.append_nil] at hA); (obtain ⟨hA1, hA2, h, ⟨p3, q3, p4, q4, hA3, hA4⟩, hA5⟩ := hA; go_simp; exact hK _ _ (Ext.new _ _) ⟨h, ⟨litN (w := w') [⟨f, a3, c3, a4, c4, mono_FmR _ _ _ _ hS.ple hF⟩, ⟨g, b3, d3, b4, d4, mono_FmR _ _ _ _ hS.ple hG⟩, ⟨h, p3, q3, p4, q4, hA4⟩] (by simp), _, rfl⟩, hA5⟩))); (try simp only [List.nil_append, List.cons_append]))
  (refine walkI_step ((fun v w' => ∃ h, (FmsR (ph w') v [f, g, h] ∧ ∃ b, v = .slice (some ⟨b, 0, none⟩) 3 3) ∧ h.bulk ≤ 2 * g.bulk + 100 ∧ Hid (SpW g how at' (by'.tdiv 3) h))) rfl (by simp) rfl ((fun v w w' _ ⟨h, k1, k2⟩ e => ⟨h, ⟨k1.1.mono mono_FmR e.ple, k1.2⟩, k2⟩)) ?_ ?_; (focus (intro A w' hS hA K hK; (simp only [List.map_cons, List.map_nil, knows, Is, Op.operands, Call.operands, List.lookup_cons, List.lookup_nil, Nat.reduceBEq, Bool.false_eq_true, if_false, if_true, Act.eval, Array.getD_eq_getD_getElem?, List.getElem?_toArray, List.getElem?_cons_succ, List.getElem?_cons_zero, Option.getD_some, and_true, true_and, List.append_toArray, List.nil_append, List.cons_append, List.toList_toArray, Array.toList_append, Option.toArray, List.append_nil] at hA); (go_simp; exact hK _ _ (Ext.rfl' _) hA))); (try simp only [List.nil_append, List.cons_append]))
  (refine walkI_nil ?_; simp only [List.nil_append, List.cons_append, fins, Is, forall_eq, Act.put, List.setIfInBounds_toArray, List.set_cons_zero, List.set_cons_succ])
  rintro W4 hx4 v28 - v29 - v10 ⟨h, hL, hb4, hsh⟩
  go_wp2_with fail
  refine bodyPost_ret (v := v10) (by simp [results, Tryz.results19, go_sem]) rfl ?_
  exact ⟨v10, f, g, h, rfl, hx.then hx4, hL, hv, hw, by omega, by omega, hft.out, hsg.out, hsh.out⟩
theorem some7_c (l : List Int) (vl : Value) (cl at' how by' : Int) (w : World) (hr : IntsR (ph w) vl l) (hc0 : 0 < cl) (hc1 : cl ≤ 64) (i1 : I64 at') (i2 : I64 how) (i3 : I64 by') :
    Calls Tryz.prog 19 #[vl, .int .i64 cl, .int .i64 at', .int .i64 how, .int .i64 by'] w (ListQ w cl) :=
  (some7F_c l vl cl at' how by' w hr hc0 hc1 i1 i2 i3).mono fun e w' ⟨v, f, g, h, e1, e2, e3, e4, e5, e6, e7, _⟩ => ⟨v, f, g, h, e1, e2, e3, e4, e5, e6, e7⟩
end Go.Proofs.YtnpnjcaomakehaaGreat
