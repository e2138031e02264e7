/- TermLater: the walk. -/
import Derived.Test.YtcmdekhhclgdcaaDoorTSome
import Derived.Test.YtcmdekhhclgdcaaDoorTLaw2
namespace Go.Proofs.YtcmdekhhclgdcaaDoor
open Go.RowKit Go.Shelf
set_option linter.unusedSimpArgs false
set_option linter.unusedVariables false
theorem tdiv_i64b {n : Int} (h : I64 n) : I64 (n.tdiv 20) := by
  unfold I64 at *
  by_cases h0 : 0 ≤ n
  · rw [Int.tdiv_eq_ediv_of_nonneg h0]; omega
  · have e : n.tdiv 20 = -((-n).tdiv 20) := by rw [Int.neg_tdiv]; omega
    rw [e, Int.tdiv_eq_ediv_of_nonneg (by omega)]; omega
theorem OwnS.baseB {α : Type} {b0 base : Nat} {H : PH} {w : World} {E : PH → List Value → α → Prop} {sz : Nat} {T : TypeId} {v : Value} {xs : List α} (h : OwnS base H w E sz T v xs) (hb : b0 ≤ base) : OwnS b0 H w E sz T v xs := by
  rcases h with h | ⟨g, cap, cur, rfl, h1, h2⟩
  · exact .inl h
  · exact .inr ⟨g, cap, cur, rfl, by omega, h2⟩
/-- element k of an own slice of acts is written -/
theorem acts_put {w W : World} {g N oc k j : Nat} {xs : List Ac} {x x' : Ac} {u : Value} (hM : Mem w noH [own mono_ActR 19 63 (.slice (some ⟨g, 0, none⟩) N oc) xs] noH W) (hj : j < 19) (hk : xs[k]? = some x) (hx : (actC x).set j u = actC x') (hI : x'.I) :
    Mem w noH [own mono_ActR 19 63 (.slice (some ⟨g, 0, none⟩) N oc) (xs.set k x')] noH (W.setCell ⟨g, k * 19 + j, none⟩ u) := by
  obtain ⟨g', cap, e1, -, -, -, hM1⟩ := hM.setAt 0 rfl k j hj hk (x' := x') (u := u) (actR_set hx fun _ => hI)
  cases e1
  simp only [List.set_cons_zero] at hM1
  exact hM1
theorem turn_step {l : List Ac} {m : Nat} {x : Ac} (h : l[m]? = some x) : ((l.drop m).map turnA).reverse = ((l.drop (m + 1)).map turnA).reverse ++ [turnA x] := by
  obtain ⟨hm, he⟩ := List.getElem?_eq_some_iff.1 h
  rw [List.drop_eq_getElem_cons hm, he, List.map_cons, List.reverse_cons]
theorem turnA_t {x : Ac} (h : x.kind = 9) (h' : x.file = 1) : turnA x = { x with file := 5 } := if_pos ⟨h, h'⟩
theorem turnA_f {x : Ac} (h : ¬ (x.kind = 9 ∧ x.file = 1)) : turnA x = x := if_neg h
/-- append to an empty slice that has a block -/
theorem oper_append_fresh {P : Program} {w : World} {o : Oper} {A : Act} {K : Act → World → Prop} {Q : Exit → Act → World → Prop} (s x : Operand) (t : TypeId) (ho : o.op = .call { callee := .builtin .append, args := #[s, x], argTypes := #[t, t] })
    {e : TypeId} {z : Value} {bytes sz : Nat} {α : Type} {E : PH → List Value → α → Prop} (ht : P.underlying t = some (.slice e)) (hinfo : (P.info? e).map (fun i => (i.zero, i.size, i.bytes)) = some (some z, sz, bytes)) (hzs : z.cells.size = sz)
    {g : Nat} {vx : Value} {ys : List α} (hs : A.eval s = .slice (some ⟨g, 0, none⟩) 0 0) (hx : A.eval x = vx) (hsrc : Src w noH E sz vx ys) (hbytes : ys.length * bytes ≤ 140737488355328) (hcnt : ys.length ≤ 140737488355328)
    (h : ∀ v' w', Ext w w' → ((ys = [] ∧ v' = .slice (some ⟨g, 0, none⟩) 0 0) ∨ OwnS w.heap.size noH w' E sz e v' ys) → K (A.put o.dst v') w') : o.wp P A w K Q := by
  obtain ⟨i, hi, hz0, hz1, hz2⟩ := info_parts hinfo
  have hrun : ∃ v' w', (Builtin.append_ #[t, t] o.type #[.slice (some ⟨g, 0, none⟩) 0 0, vx]).run P w = .ok v' w' ∧ Ext w w' ∧ ((ys = [] ∧ v' = .slice (some ⟨g, 0, none⟩) 0 0) ∨ OwnS w.heap.size noH w' E sz e v' ys) := by
    obtain ⟨a, cap', rfl, hcap', hsrc⟩ := hsrc
    by_cases hy : ys = []
    · subst hy
      exact ⟨_, w, run_append_zero t o.type e i ht hi _ 0 0 (Nat.le_refl _) a cap', Ext.rfl' _, .inl ⟨rfl, rfl⟩⟩
    · rcases hsrc with h | ⟨ad, news, rfl, hnews, hcell⟩
      · exact absurd h hy
      have hlen := hnews.length
      have hpos : 0 < ys.length := List.length_pos_iff.2 hy
      subst hz1
      have hr := run_append_grow (P := P) w t o.type e i z ht hi hz0 ⟨g, 0, none⟩ 0 0 [] (by simp) (fun j v hj => by simp at hj) ad ys.length cap' news hlen hcell (by omega) (by omega) (growslice_fits (by omega) (by rw [hz2, Nat.zero_add]; exact hbytes))
      rw [Nat.zero_add] at hr
      refine ⟨_, _, hr, ⟨rfl, rfl, rfl, by simp, fun k hk => Below.heap_alloc w.drew _ k hk⟩, .inr (.inr ⟨w.heap.size, _, _, rfl, Nat.le_refl _, rfl, heap_alloc_new w.drew _, by simpa using grownCap_ge w ys.length 0 e, grownCap_le_maxLen w ys.length 0 e (by simp only [maxLen]; omega), ?_, ?_⟩)⟩
      · have := grownCap_ge w ys.length 0 e
        simp only [Array.size_append, List.size_toArray, size_zeroCells, hzs, hlen, ← Nat.add_mul, List.length_nil]
        rw [Nat.zero_add, ← Nat.add_mul]
        congr 1; omega
      · simp only [Array.toList_append, List.append_assoc, List.nil_append]
        rw [← hlen, List.take_left' rfl]
        exact hnews
  obtain ⟨v', w', hr, h1, h2⟩ := hrun
  unfold Oper.wp execOp
  simp only [ho, resolve, invoke, builtin, Sem.run_bind, Sem.run_pure, Result.andThen_ok, List.map_toArray, List.map_cons, List.map_nil, hs, hx, hr]
  exact h v' w' h1 h2
set_option maxRecDepth 100000 in
set_option maxHeartbeats 4000000 in
theorem termLater_c (l m kk : List Int) (vl vm vk : Value) (from' months more : Int) (w : World) (hl : IntsR (ph w) vl l) (hm : IntsR (ph w) vm m) (hkk : IntsR (ph w) vk kk) (hf : I64 from') (hmo : I64 months) (hmr : I64 more) (hV : VL (ph w)) :
    Calls Tryd.prog 5 #[vl, vm, vk, .int .i64 from', .int .i64 months, .int .i64 more] w (RetV w (.bool true)) := by
  have har := fun w => around_c from' 120000 w hf (by omega) (by omega)
  obtain ⟨d0, d1⟩ := aroundV_range (m := 120000) hf (by omega)
  generalize aroundV from' 120000 = d at *
  have har2 := fun w => around_c months 30 w hmo (by omega) (by omega)
  obtain ⟨n0, n1⟩ := aroundV_range (m := 30) hmo (by omega)
  generalize aroundV months 30 = n at *
  have hac := fun w hm => acts_c m vm d 6 w hm d0 (by omega) (by omega)
  have hac2 := fun w hm => acts_c kk vk d 6 w hm d0 (by omega) (by omega)
  have ham := fun w => around_c more 20 w hmr (by omega) (by omega)
  obtain ⟨ad0, ad1⟩ := aroundV_range (m := 20) hmr (by omega)
  generalize aroundV more 20 = ad at *
  have hmt := tdiv_i64b hmr
  have hmw : IntKind.i64.wrap (more.tdiv 20) = more.tdiv 20 := by rw [IntKind.wrap_i64]; unfold I64 at hmt; omega
  have hal := fun w => around_c (more.tdiv 20) 40 w hmt (by omega) (by omega)
  obtain ⟨bd0, bd1⟩ := aroundV_range (m := 40) hmt (by omega)
  generalize aroundV (more.tdiv 20) 40 = bd at *
  replace hac2 := Lib.hid hac2
  replace ham := Lib.hid ham
  replace hal := Lib.hid hal
  have hso := some_c l vl w hl
  obtain ⟨la, lc, rfl, llen, hl⟩ := hl.form
  obtain ⟨ma, mc, rfl, mlen, hm⟩ := hm.form
  obtain ⟨ka, kc, rfl, klen, hkk⟩ := hkk.form
  go_enter Tryd.func5, Tryd.ntmps5
  go_wp2_with fail
  refine hso.mono ?_
  rintro e w1 ⟨v, c, rfl, hx1, hc, hcE⟩
  have hown := own_c c v w1 hc
  obtain ⟨a, b, rfl, hW, hH⟩ := id hc
  obtain ⟨wa, wc, rfl, wlen, -⟩ := hW.form
  obtain ⟨ha, hc', rfl, hlen', -⟩ := hH.form
  clear hso hl hW hH
  go_wp2_with fail
  refine RetV_at hown ?_
  intro w2 hx2
  have hx12 := hx1.then hx2
  replace hc := hc.mono hx2.ple
  have hO1 := Proofs.YtcmdekhhclgdcaaDoor.Own.new w2 #[.slice wa c.1.length wc, .slice ha c.2.length hc'] 39
  have hxA := Ext.new w2 (.cells #[.slice wa c.1.length wc, .slice ha c.2.length hc'] 39)
  clear hown
  go_wp2_with fail
  refine RetV_at (har _) ?_
  intro w3 hx3
  go_wp2_with fail
  refine RetV_at (har2 _) ?_
  intro w4 hx4
  have hO1' := ((hO1.keep hx3).keep hx4).alloc (.cells #[.int .i64 d, .int .i64 n] 44)
  have hO2 := Proofs.YtcmdekhhclgdcaaDoor.Own.new w4 #[.int .i64 d, .int .i64 n] 44
  have hx24 := (hxA.then hx3).then hx4
  have hxB := (hx12.then hx24).then (Ext.new w4 (.cells #[.int .i64 d, .int .i64 n] 44))
  replace hc := hc.mono (hx24.then (Ext.new w4 (.cells #[.int .i64 d, .int .i64 n] 44))).ple
  have q0 : _ = some (Value.int .i64 d) := hO2.facts.1 0
  have g1 := hO1'.lt
  have g2 := hO2.lt
  clear har har2 hx24 hx12 hx4 hx3 hx2 hx1 hxA hO1
  go_upto_region 3 with (fail)
  generalize w4.alloc _ = W at *
  go_wp2_with fail
  refine (hac _ (hm.mono mono_IntR hxB.ple)).mono ?_
  rintro e w5 ⟨v1, xs, rfl, hx5, hxl, hfo, ho⟩
  have hA0 := ho.rep mono_ActR (noH_le _)
  clear ho hac hm
  obtain ⟨p1, c1, rfl, -⟩ := hA0.form
  have hO1 := hO1'.keep hx5
  have hO2' := hO2.keep hx5
  replace hc := hc.mono hx5.ple
  have hxC := hxB.then hx5
  have hxlen : xs.length ≤ 6 := by omega
  replace g1 := Nat.lt_of_lt_of_le g1 hx5.size
  replace g2 := Nat.lt_of_lt_of_le g2 hx5.size
  clear hx5 hxB hO1' hO2 q0 hxl
  obtain ⟨f1, -⟩ := hO1.facts
  obtain ⟨f2, -⟩ := hO2'.facts
  have a0 : _ = some (Value.slice wa c.1.length wc) := f1 0
  have a1 : _ = some (Value.slice ha c.2.length hc') := f1 1
  have b0 : _ = some (Value.int .i64 d) := f2 0
  have b1 : _ = some (Value.int .i64 n) := f2 1
  clear f1 f2
  go_upto_region 4 with (fail)
  (refine wp_region_I 6 (by kernel_rfl) (by kernel_rfl) ?_; simp only [List.toList_toArray, List.take_succ_cons, List.take_zero, List.drop_succ_cons, List.drop_zero])
  (refine walkI_step (fun v w' => ∃ g, v = .slice (some ⟨g, 0, none⟩) 0 0 ∧ Proofs.YtcmdekhhclgdcaaDoor.Own w' g #[] 63 ∧ w5.heap.size ≤ g) rfl (by simp) rfl (fun v a b _ ⟨g, q1, q2, q3⟩ e => ⟨g, q1, q2.keep e, q3⟩) ?_ ?_; (focus (intro A w' hS hA K hK; (simp only [List.map_cons, List.map_nil, knows, Is, Op.operands, Call.operands, List.lookup_cons, List.lookup_nil, Nat.reduceBEq, Bool.false_eq_true, if_false, if_true, Act.eval, Array.getD_eq_getD_getElem?, List.getElem?_toArray, List.getElem?_cons_succ, List.getElem?_cons_zero, Option.getD_some, and_true, true_and, List.append_toArray, List.nil_append, List.cons_append, List.toList_toArray, Array.toList_append, Option.toArray, List.append_nil] at hA); (go_simp; exact hK _ _ (Ext.new _ _) ⟨_, rfl, Proofs.YtcmdekhhclgdcaaDoor.Own.new _ _ _, hS.size⟩))); (try simp only [List.nil_append, List.cons_append]))
  (refine walkI_is (u := ?_) rfl (by simp) rfl ?_ ?_; rotate_left; (focus (intro A w' hS hA K hK; (simp only [List.map_cons, List.map_nil, knows, Is, Op.operands, Call.operands, List.lookup_cons, List.lookup_nil, Nat.reduceBEq, Bool.false_eq_true, if_false, if_true, Act.eval, Array.getD_eq_getD_getElem?, List.getElem?_toArray, List.getElem?_cons_succ, List.getElem?_cons_zero, Option.getD_some, and_true, true_and, List.append_toArray, List.nil_append, List.cons_append, List.toList_toArray, Array.toList_append, Option.toArray, List.append_nil] at hA); first | fail | (obtain ⟨hSc, hSf, hSs⟩ := hS.cells; go_simp; exact hK _ (by repeat (first | (with_reducible assumption) | (with_reducible exact Ext.rfl' _) | (with_reducible exact Ext.new _ _) | (with_reducible refine Ext.alloc' ?_ _) | (with_reducible refine Ext.drew' ?_) | (with_reducible refine Ext.drewN' ?_ _) | (with_reducible refine Ext.set' ?_ ?_ _; rotate_left; (focus (first | omega | (simp; done) | (simp; omega)))) | (with_reducible refine Ext.then (b := ?_) ?_ ?_; rotate_left; rotate_left; (with_reducible assumption))))))); (try simp only [List.nil_append, List.cons_append]))
  (refine walkI_step (fun v w' => OwnS w5.heap.size noH w' ActR 19 63 v xs) rfl (by simp) rfl (fun v a b _ h e => h.keep e) ?_ ?_; (focus (intro A w' hS hA K hK; (simp only [List.map_cons, List.map_nil, knows, Is, Op.operands, Call.operands, List.lookup_cons, List.lookup_nil, Nat.reduceBEq, Bool.false_eq_true, if_false, if_true, Act.eval, Array.getD_eq_getD_getElem?, List.getElem?_toArray, List.getElem?_cons_succ, List.getElem?_cons_zero, Option.getD_some, and_true, true_and, List.append_toArray, List.nil_append, List.cons_append, List.toList_toArray, Array.toList_append, Option.toArray, List.append_nil] at hA); (obtain ⟨⟨g, hA1, hA2, hA3⟩, hA4⟩ := hA; refine oper_append_fresh (.tmp 45) (.tmp 46) 24 rfl Tryd.underlying24 infoAct rfl (g := g) (by simpa [Act.eval] using hA1) (by simpa [Act.eval] using hA4) ((Src.ofRep (hA0.mono mono_ActR hS.ple) (PLe.refl _)).free fun _ _ h => h) (by omega) (by omega) ?_; intro v' w'' h1 h2; exact hK _ _ h1 (by rcases h2 with ⟨h2, h3⟩ | h2; (subst h2; rw [h3]; exact .inr ⟨g, 0, #[], rfl, hA3, rfl, hA2.keep h1, by simp, by simp [maxLen], rfl, rfl⟩); exact OwnS.baseB h2 hS.size)))); (try simp only [List.nil_append, List.cons_append]))
  (refine walkI_is (u := ?_) rfl (by simp) rfl ?_ ?_; rotate_left; (focus (intro A w' hS hA K hK; (simp only [List.map_cons, List.map_nil, knows, Is, Op.operands, Call.operands, List.lookup_cons, List.lookup_nil, Nat.reduceBEq, Bool.false_eq_true, if_false, if_true, Act.eval, Array.getD_eq_getD_getElem?, List.getElem?_toArray, List.getElem?_cons_succ, List.getElem?_cons_zero, Option.getD_some, and_true, true_and, List.append_toArray, List.nil_append, List.cons_append, List.toList_toArray, Array.toList_append, Option.toArray, List.append_nil] at hA); first | fail | (obtain ⟨hSc, hSf, hSs⟩ := hS.cells; go_simp; exact hK _ (by repeat (first | (with_reducible assumption) | (with_reducible exact Ext.rfl' _) | (with_reducible exact Ext.new _ _) | (with_reducible refine Ext.alloc' ?_ _) | (with_reducible refine Ext.drew' ?_) | (with_reducible refine Ext.drewN' ?_ _) | (with_reducible refine Ext.set' ?_ ?_ _; rotate_left; (focus (first | omega | (simp; done) | (simp; omega)))) | (with_reducible refine Ext.then (b := ?_) ?_ ?_; rotate_left; rotate_left; (with_reducible assumption))))))); (try simp only [List.nil_append, List.cons_append]))
  (refine walkI_is (u := ?_) rfl (by simp) rfl ?_ ?_; rotate_left; (focus (intro A w' hS hA K hK; (simp only [List.map_cons, List.map_nil, knows, Is, Op.operands, Call.operands, List.lookup_cons, List.lookup_nil, Nat.reduceBEq, Bool.false_eq_true, if_false, if_true, Act.eval, Array.getD_eq_getD_getElem?, List.getElem?_toArray, List.getElem?_cons_succ, List.getElem?_cons_zero, Option.getD_some, and_true, true_and, List.append_toArray, List.nil_append, List.cons_append, List.toList_toArray, Array.toList_append, Option.toArray, List.append_nil] at hA); first | fail | (obtain ⟨hSc, hSf, hSs⟩ := hS.cells; go_simp; exact hK _ (by repeat (first | (with_reducible assumption) | (with_reducible exact Ext.rfl' _) | (with_reducible exact Ext.new _ _) | (with_reducible refine Ext.alloc' ?_ _) | (with_reducible refine Ext.drew' ?_) | (with_reducible refine Ext.drewN' ?_ _) | (with_reducible refine Ext.set' ?_ ?_ _; rotate_left; (focus (first | omega | (simp; done) | (simp; omega)))) | (with_reducible refine Ext.then (b := ?_) ?_ ?_; rotate_left; rotate_left; (with_reducible assumption))))))); (try simp only [List.nil_append, List.cons_append]))
  (refine walkI_is (u := ?_) rfl (by simp) rfl ?_ ?_; rotate_left; (focus (intro A w' hS hA K hK; (simp only [List.map_cons, List.map_nil, knows, Is, Op.operands, Call.operands, List.lookup_cons, List.lookup_nil, Nat.reduceBEq, Bool.false_eq_true, if_false, if_true, Act.eval, Array.getD_eq_getD_getElem?, List.getElem?_toArray, List.getElem?_cons_succ, List.getElem?_cons_zero, Option.getD_some, and_true, true_and, List.append_toArray, List.nil_append, List.cons_append, List.toList_toArray, Array.toList_append, Option.toArray, List.append_nil] at hA); first | fail | (obtain ⟨hSc, hSf, hSs⟩ := hS.cells; go_simp; exact hK _ (by repeat (first | (with_reducible assumption) | (with_reducible exact Ext.rfl' _) | (with_reducible exact Ext.new _ _) | (with_reducible refine Ext.alloc' ?_ _) | (with_reducible refine Ext.drew' ?_) | (with_reducible refine Ext.drewN' ?_ _) | (with_reducible refine Ext.set' ?_ ?_ _; rotate_left; (focus (first | omega | (simp; done) | (simp; omega)))) | (with_reducible refine Ext.then (b := ?_) ?_ ?_; rotate_left; rotate_left; (with_reducible assumption))))))); (try simp only [List.nil_append, List.cons_append]))
  (refine walkI_nil ?_; simp only [List.nil_append, List.cons_append, fins, Is, forall_eq, Act.put, List.setIfInBounds_toArray, List.set_cons_zero, List.set_cons_succ])
  rintro w6 hx6 v45 - v47 ho
  have hM0 := Mem.ofOwnS (hm := mono_ActR) hx6 ho
  obtain ⟨oa, oc, rfl, -⟩ := hM0.form 0 rfl
  clear ho
  have hxD := hxC.then hx6
  go_wp2_with fail
  refine (hac2.out w6 (hkk.mono mono_IntR hxD.ple)).mono ?_
  rintro e w7 ⟨v2, ys, rfl, hx7, hyl, -, ho⟩
  have hA2 := ho.rep mono_ActR (noH_le _)
  clear ho hac2 hkk
  obtain ⟨p2, c2, rfl, -⟩ := hA2.form
  have hylen : ys.length ≤ 6 := by omega
  clear hyl
  replace hM0 := hM0.ext hx7
  have hS := (Src.ofRep (w := w7) hA2 (PLe.refl _)).free (H' := noH) fun _ _ h => h
  go_wp2_with (first | (at_builtin; refine wpList_append_M 0 rfl _ _ 24 rfl Tryd.underlying24 infoAct rfl rfl rfl hM0 rfl hS one_ActR (by first | omega | (simp; omega)) (by omega) ?c5))
  case c5 =>
  intro v8 w8 hM8
  try simp only [List.set_cons_zero] at hM8
  have hB := hM8.rep 0 rfl
  obtain ⟨ba, bc, rfl, -⟩ := hM8.form 0 rfl
  have hx8 := hM8.ex
  clear hM8 hM0 hS hA2
  replace hc := hc.mono hx8.ple
  replace hA0 := hA0.mono mono_ActR hx8.ple
  replace a0 := hx8.cell1 a0
  replace a1 := hx8.cell1 a1
  replace b0 := hx8.cell1 b0
  replace b1 := hx8.cell1 b1
  replace g1 := Nat.lt_of_lt_of_le g1 hx8.size
  replace g2 := Nat.lt_of_lt_of_le g2 hx8.size
  replace hxC := hxC.then hx8
  clear hx8 hx6 hx7 hxD
  obtain ⟨N, hN⟩ : ∃ N, (xs ++ ys).length = N := ⟨_, rfl⟩
  have hN12 : N ≤ 12 := by rw [← hN]; simp; omega
  rw [hN] at hB
  simp only [hN]
  have hB2 : Hid (∀ k : Nat, k < N → ∃ x b o, ba = some ⟨b, o, none⟩ ∧ (xs ++ ys)[k]? = some x ∧ (∀ j u, (actC x)[j]? = some u → w8.cell? ⟨b, o + k * 19 + j, none⟩ = some u) ∧ b < w8.heap.size ∧ x.I) := by
    intro k hk
    obtain ⟨b, o, h1, h2, h3, h4⟩ := ActsR.row hB k (by omega)
    exact ⟨(xs ++ ys)[k], b, o, h1, List.getElem?_eq_getElem _, h2, h3, h4⟩
  have hM0 := (Mem.start w8 noH (noH_le _)).nil mono_ActR 19 63
  simp only [List.nil_append] at hM0
  have hwN : IntKind.i64.wrap ((N : Int) - 1) = (N : Int) - 1 := by rw [IntKind.wrap_i64]; omega
  have hd0 : Hid ([] = (((xs ++ ys).drop N).map turnA).reverse) := by
    show _ = _
    rw [List.drop_of_length_le (by omega)]; rfl
  have hturn : Hid (∀ m x, (xs ++ ys)[m]? = some x → (((xs ++ ys).drop m).map turnA).reverse = (((xs ++ ys).drop (m + 1)).map turnA).reverse ++ [turnA x]) := Lib.hid fun m x h => turn_step h
  have hall : Hid ((((xs ++ ys).drop 0).map turnA).reverse = ((xs ++ ys).map turnA).reverse) := Lib.hid rfl
  replace hN := Lib.hid hN
  go_wp2_with fail
  go_loopw [17, 18] (fun va i wr => ∃ k : Nat, k ≤ N ∧ i = .int .i64 ((k : Int) - 1) ∧ ∃ ts : List Ac, Hid (ts = (((xs ++ ys).drop k).map turnA).reverse) ∧ ts.length ≤ 12 ∧ Mem w8 noH [own mono_ActR 19 63 va ts] noH wr) (fun _ i _ => (intOf i + 1).toNat)
  case atStart => exact ⟨N, by omega, rfl, [], hd0, by simp, hM0⟩
  case round =>
    clear hM0 hd0
    obtain ⟨k, hk, rfl, ts, hts, htl, hM⟩ := hrel
    obtain ⟨ya, yc, rfl, -⟩ := hM.form 0 rfl
    cases k with
    | succ m =>
      rw [show (((m + 1 : Nat) : Int) - 1) = m by omega]
      obtain ⟨x, b, o, rfl, hbx, gc, gl, hI⟩ := hB2.out m (by omega)
      have gc8 := Lib.hid gc
      have gl8 := Lib.hid gl
      replace gc := fun j u h => hM.ex.cell1 (gc j u h)
      replace gl := Nat.lt_of_lt_of_le gl hM.ex.size
      have hmN : decide (m < N) = true := by simp; omega
      have hw2 : IntKind.i64.wrap ((m : Int) - 1) = (m : Int) - 1 := by rw [IntKind.wrap_i64]; omega
      have htm := Lib.hid (hturn.out m x hbx)
      replace hbx := Lib.hid hbx
      have hts12 : Hid (ts.length + 1 ≤ 12) := by
        show _ ≤ _
        rw [hts.out, List.length_reverse, List.length_map, List.length_drop, hN.out]; omega
      have hM6 := hM.allocN (.cells (actC x).toArray 63)
      have hS := Src.lit1 (w := wr.alloc (.cells (actC x).toArray 63)) (b := wr.heap.size) (sz := 19) (E := ActR) (H := noH) (x := x) (cs := actC x) ⟨rfl, hI⟩ rfl (fun j => by rw [(Proofs.YtcmdekhhclgdcaaDoor.Own.new wr (actC x).toArray 63).facts.1 j]; simp)
      replace gc := Lib.hid gc
      go_upto_region 9 with (fail)
      go_upto_region 10 with (first | (refine wpList_load_mid rfl 63 _ rfl _ _ rfl (actC _) _ gc.out Tryd.underlying63 rfl (by kernel_rfl) ?_) | (refine wpList_slice_act rfl _ rfl (x) rfl ?_) | (at_builtin; refine wpList_append_M 0 rfl _ _ 24 rfl Tryd.underlying24 infoAct rfl rfl rfl hM6 rfl hS one_ActR (by simp; omega) (by simp; omega) ?d5))
      case d5 =>
        intro v' w9 hM7
        try simp only [List.set_cons_succ, List.set_cons_zero] at hM7
        obtain ⟨na, nc, rfl, -⟩ := hM7.form 0 rfl
        have c0 : w9.cell? ⟨b, o + m * 19, none⟩ = some (.int .i64 x.kind) := hM7.ex.cell1 (gc8.out 0 _ rfl)
        have c3 : w9.cell? ⟨b, o + m * 19 + 3, none⟩ = some (.int .i64 x.file) := hM7.ex.cell1 (gc8.out 3 _ rfl)
        have gl9 := Nat.lt_of_lt_of_le gl8.out hM7.ex.size
        clear gc gl gc8 gl8 hM6 hS hM
        by_cases hkf : x.kind = 9 ∧ x.file = 1
        · have e1 : (x.kind == 9) = true := by simpa using hkf.1
          have e2 : (x.file == 1) = true := by simpa using hkf.2
          have hrel : Hid (ts ++ [{ x with file := 5 }] = (((xs ++ ys).drop m).map turnA).reverse) := by
            show _ = _
            rw [htm.out, ← hts.out, turnA_t hkf.1 hkf.2]
          obtain ⟨L, hL⟩ : ∃ L, L = ts.length := ⟨_, rfl⟩
          have hkL : (ts ++ [x])[L]? = some x := by rw [hL]; simp
          have hset : Hid ((ts ++ [x]).set L { x with file := 5 } = ts ++ [{ x with file := 5 }]) := by
            show _ = _
            rw [hL]; simp
          have hl2 : (ts ++ [x]).length = L + 1 := by rw [hL]; simp
          have hl3 : Hid ((ts ++ [{ x with file := 5 }]).length = L + 1) := by show _ = _; rw [hL]; simp
          obtain ⟨M, hM9⟩ : ∃ M, M = L + 1 := ⟨_, rfl⟩
          rw [← hM9] at hl2
          rw [hl2] at hM7
          simp only [hl2]
          have hwM : IntKind.i64.wrap ((M : Int) - 1) = (L : Int) := by rw [IntKind.wrap_i64]; have := hts12.out; omega
          have hLM : L < M := by omega
          obtain ⟨g, hg, hgl, hc, hfz, -⟩ := acts_row hM7 hkL
          subst hg
          have q3 : _ = some (Value.int .i64 x.file) := hc 3 _ rfl
          have qf := hfz (L * 19 + 3)
          have hM10 := acts_put (j := 3) (u := .int .i64 5) (x' := { x with file := 5 }) hM7 (by omega) hkL rfl (Ac.I3 hI (by unfold I64; omega))
          rw [hset.out] at hM10
          have hts12' : L + 1 ≤ 12 := by have := hts12.out; omega
          replace hkL := Lib.hid hkL
          replace hL := Lib.hid hL
          replace hM9 := Lib.hid hM9
          clear hc hfz hkf htl
          go_wp2_with fail
          go_roundw
          case rel => exact ⟨m, by omega, rfl, _, hrel, by rw [hl3.out]; exact hts12', hM10⟩
          case measure => first | (simp [intOf]; done) | (simp [intOf]; omega)
        · have hrel : Hid (ts ++ [x] = (((xs ++ ys).drop m).map turnA).reverse) := by
            show _ = _
            rw [htm.out, ← hts.out, turnA_f hkf]
          have hcs : (x.kind == 9) = false ∨ ((x.kind == 9) = true ∧ (x.file == 1) = false) := by
            by_cases h9 : x.kind = 9
            · exact .inr ⟨by simpa using h9, by simp; exact fun h => hkf ⟨h9, h⟩⟩
            · exact .inl (by simpa using h9)
          clear hkf
          rcases hcs with e1 | ⟨e1, e2⟩
          all_goals
            go_wp2_with fail
            go_roundw
            case rel => exact ⟨m, by omega, rfl, _, hrel, by have := hts12.out; simp; omega, by simpa using hM7⟩
            case measure => first | (simp [intOf]; done) | (simp [intOf]; omega)
    | zero =>
      rw [show (((0 : Nat) : Int) - 1) = -1 by omega]
      have hT := hM.rep 0 rfl
      have hx9 := hM.ex
      rw [hall.out] at hts
      clear hM hB2 hturn
      replace hc := hc.mono hx9.ple
      replace hA0 := hA0.mono mono_ActR hx9.ple
      replace hB := hB.mono mono_ActR hx9.ple
      replace a0 := hx9.cell1 a0
      replace a1 := hx9.cell1 a1
      replace b0 := hx9.cell1 b0
      replace b1 := hx9.cell1 b1
      replace g1 := Nat.lt_of_lt_of_le g1 hx9.size
      replace g2 := Nat.lt_of_lt_of_le g2 hx9.size
      have hxD := hxC.then hx9
      obtain ⟨law1, law2, law3, law4⟩ := laterLaw (few := xs) (more := ys) hcE hfo.out d0 d1 n0 n1 ad0 ad1 bd0 bd1
      have hNN : (xs ++ ys).length ≤ 100000 := by rw [hN.out]; omega
      have hE1 := fun w hr hA hV => end_c c xs 0 0 d n (.agg #[.slice wa c.1.length wc, .slice ha c.2.length hc']) (.slice p1 xs.length c1) w hr hA (by omega) hV
      have hE2 := fun w hr hA hV => end_c c (xs ++ ys) 0 0 d n (.agg #[.slice wa c.1.length wc, .slice ha c.2.length hc']) (.slice ba N bc) w hr hA hNN hV
      have hE3 := fun w hr hA hV => end_c c ts 0 0 d n (.agg #[.slice wa c.1.length wc, .slice ha c.2.length hc']) (.slice ya ts.length yc) w hr hA (by omega) hV
      have hE4 := fun w hr hA hV => end_c c xs 0 0 d (n + ad) (.agg #[.slice wa c.1.length wc, .slice ha c.2.length hc']) (.slice p1 xs.length c1) w hr hA (by omega) hV
      have hE5 := fun w hr hA hV => end_c c xs 0 9 (d + bd) n (.agg #[.slice wa c.1.length wc, .slice ha c.2.length hc']) (.slice p1 xs.length c1) w hr hA (by omega) hV
      have hE6 := fun w hr hA hV => end_c c xs 0 9 d n (.agg #[.slice wa c.1.length wc, .slice ha c.2.length hc']) (.slice p1 xs.length c1) w hr hA (by omega) hV
      have e3 : endE c ts 0 0 d n = endE c (xs ++ ys) 0 0 d n := by rw [hts.out]; exact law1
      rw [e3] at hE3
      clear e3 law1 hNN hts hall hN
      generalize endE c xs 0 0 d n = r1 at *
      generalize endE c (xs ++ ys) 0 0 d n = r2 at *
      generalize endE c xs 0 0 d (n + ad) = r4 at *
      generalize endE c xs 0 9 (d + bd) n = r5 at *
      generalize endE c xs 0 9 d n = r6 at *
      obtain ⟨ra, re⟩ := r1
      obtain ⟨rb, rf⟩ := r2
      obtain ⟨ru, rh⟩ := r4
      obtain ⟨rv, ri⟩ := r5
      obtain ⟨rw', rj⟩ := r6
      dsimp only [two] at law2 law3 law4 hE1 hE2 hE3 hE4 hE5 hE6
      have k1 : (re == 0) = false ∨ (re = 0 ∧ (rf == 0) = false ∧ (rh == 0) = false) ∨ (re = 0 ∧ (rf == 0) = false ∧ rh = 0 ∧ ra ≤ ru) ∨ (re = 0 ∧ rf = 0 ∧ ra ≤ rb ∧ (rh == 0) = false) ∨ (re = 0 ∧ rf = 0 ∧ ra ≤ rb ∧ rh = 0 ∧ ra ≤ ru) := by
        simp only [beq_eq_false_iff_ne]
        by_cases q1 : re = 0
        · by_cases q2 : rf = 0
          · have := law2 q1 q2
            by_cases q3 : rh = 0
            · exact .inr (.inr (.inr (.inr ⟨q1, q2, this, q3, law3 q1 q3⟩)))
            · exact .inr (.inr (.inr (.inl ⟨q1, q2, this, q3⟩)))
          · by_cases q3 : rh = 0
            · exact .inr (.inr (.inl ⟨q1, q2, q3, law3 q1 q3⟩))
            · exact .inr (.inl ⟨q1, q2, q3⟩)
        · exact .inl q1
      have k2 : (ri == 0) = false ∨ (ri = 0 ∧ (rj == 0) = false) ∨ (ri = 0 ∧ rj = 0 ∧ rw' ≤ rv) := by
        simp only [beq_eq_false_iff_ne]
        by_cases q1 : ri = 0
        · by_cases q2 : rj = 0
          · exact .inr (.inr ⟨q1, q2, law4 q1 q2⟩)
          · exact .inr (.inl ⟨q1, q2⟩)
        · exact .inl q1
      replace k1 := Lib.hid k1
      replace k2 := Lib.hid k2
      clear law2 law3 law4
      have hO3 := Proofs.YtcmdekhhclgdcaaDoor.Own.new wr #[.int .i64 d, .int .i64 n] 44
      have hxn := Ext.new wr (.cells #[.int .i64 d, .int .i64 n] 44)
      go_upto_region 13 with (fail)
      generalize wr.alloc _ = V at *
      have b0' := hxn.cell1 b0
      have b1' := hxn.cell1 b1
      have g2' := Nat.lt_of_lt_of_le g2 hxn.size
      (refine wp_region_I 5 (by kernel_rfl) (by kernel_rfl) ?_; simp only [List.toList_toArray, List.take_succ_cons, List.take_zero, List.drop_succ_cons, List.drop_zero])
      (repeat (first | (refine walkI_no rfl (by simp) rfl rfl rfl ?_ ?_; (focus (simp [undef]; done)); (try simp only [List.nil_append, List.cons_append])) | (refine walkI_is (u := ?_) rfl (by simp) rfl ?_ ?_; rotate_left; (focus (intro A w' hS hA K hK; (simp only [List.map_cons, List.map_nil, knows, Is, Op.operands, Call.operands, List.lookup_cons, List.lookup_nil, Nat.reduceBEq, Bool.false_eq_true, if_false, if_true, Act.eval, Array.getD_eq_getD_getElem?, List.getElem?_toArray, List.getElem?_cons_succ, List.getElem?_cons_zero, Option.getD_some, and_true, true_and, List.append_toArray, List.nil_append, List.cons_append, List.toList_toArray, Array.toList_append, Option.toArray, List.append_nil] at hA); first | (go_simp; refine RetV_at (ham.out w') ?_; intro w6 hx6; exact hK _ hx6) | (obtain ⟨hSc, hSf, hSs⟩ := hS.cells; go_simp; exact hK _ (by repeat (first | (with_reducible assumption) | (with_reducible exact Ext.rfl' _) | (with_reducible exact Ext.new _ _) | (with_reducible refine Ext.alloc' ?_ _) | (with_reducible refine Ext.drew' ?_) | (with_reducible refine Ext.drewN' ?_ _) | (with_reducible refine Ext.set' ?_ ?_ _; rotate_left; (focus (first | omega | (simp; done) | (simp; omega)))) | (with_reducible refine Ext.then (b := ?_) ?_ ?_; rotate_left; rotate_left; (with_reducible assumption))))))); (try simp only [List.nil_append, List.cons_append])) | (refine walkI_yesis (u := ?_) rfl (by simp) rfl rfl rfl ?_ ?_; rotate_left; (focus (intro A w' hS hA K hK; (simp only [List.map_cons, List.map_nil, knows, Is, Op.operands, Call.operands, List.lookup_cons, List.lookup_nil, Nat.reduceBEq, Bool.false_eq_true, if_false, if_true, Act.eval, Array.getD_eq_getD_getElem?, List.getElem?_toArray, List.getElem?_cons_succ, List.getElem?_cons_zero, Option.getD_some, and_true, true_and, List.append_toArray, List.nil_append, List.cons_append, List.toList_toArray, Array.toList_append, Option.toArray, List.append_nil] at hA); first | (go_simp; refine RetV_at (ham.out w') ?_; intro w6 hx6; exact hK _ hx6) | (obtain ⟨hSc, hSf, hSs⟩ := hS.cells; go_simp; exact hK _ (by repeat (first | (with_reducible assumption) | (with_reducible exact Ext.rfl' _) | (with_reducible exact Ext.new _ _) | (with_reducible refine Ext.alloc' ?_ _) | (with_reducible refine Ext.drew' ?_) | (with_reducible refine Ext.drewN' ?_ _) | (with_reducible refine Ext.set' ?_ ?_ _; rotate_left; (focus (first | omega | (simp; done) | (simp; omega)))) | (with_reducible refine Ext.then (b := ?_) ?_ ?_; rotate_left; rotate_left; (with_reducible assumption))))))); (try simp only [List.nil_append, List.cons_append]))))
      (refine walkI_nil ?_; simp only [List.nil_append, List.cons_append, fins, Is, forall_eq, Act.put, List.setIfInBounds_toArray, List.set_cons_zero, List.set_cons_succ])
      rintro w10 hx10
      have hO3b := hO3.keep hx10
      have f31 := hO3b.facts.2 1
      have c31 : _ = some (Value.int .i64 n) := hO3b.facts.1 1
      have g3 := hO3b.lt
      have hO3c := hO3b.set 1 (.int .i64 (n + ad))
      have hxs : Ext wr (w10.setCell ⟨wr.heap.size, 1, none⟩ (.int .i64 (n + ad))) := (hxn.then hx10).set' (by simp) _
      simp only [List.setIfInBounds_toArray, List.set_cons_succ, List.set_cons_zero] at hO3c
      clear b0' b1' g2'
      go_upto_region 14 with (fail)
      clear c31 f31
      generalize w10.setCell _ _ = W1 at *
      replace g3 := hO3c.lt
      replace hc := hc.mono hxs.ple
      replace hA0 := hA0.mono mono_ActR hxs.ple
      replace hB := hB.mono mono_ActR hxs.ple
      replace hT := hT.mono mono_ActR hxs.ple
      replace a0 := hxs.cell1 a0
      replace a1 := hxs.cell1 a1
      replace b0 := hxs.cell1 b0
      replace b1 := hxs.cell1 b1
      replace g1 := Nat.lt_of_lt_of_le g1 hxs.size
      replace g2 := Nat.lt_of_lt_of_le g2 hxs.size
      replace hxD := hxD.then hxs
      clear hxs hxn hx10 hO3b hO3
      generalize wr.heap.size = z3 at *
      have hO4 := Proofs.YtcmdekhhclgdcaaDoor.Own.new W1 #[.int .i64 d, .int .i64 n] 44
      have hxn := Ext.new W1 (.cells #[.int .i64 d, .int .i64 n] 44)
      go_upto_region 15 with (fail)
      generalize W1.alloc _ = V at *
      have b0' := hxn.cell1 b0
      have b1' := hxn.cell1 b1
      have g2' := Nat.lt_of_lt_of_le g2 hxn.size
      (refine wp_region_I 6 (by kernel_rfl) (by kernel_rfl) ?_; simp only [List.toList_toArray, List.take_succ_cons, List.take_zero, List.drop_succ_cons, List.drop_zero])
      (repeat (first | (refine walkI_no rfl (by simp) rfl rfl rfl ?_ ?_; (focus (simp [undef]; done)); (try simp only [List.nil_append, List.cons_append])) | (refine walkI_is (u := ?_) rfl (by simp) rfl ?_ ?_; rotate_left; (focus (intro A w' hS hA K hK; (simp only [List.map_cons, List.map_nil, knows, Is, Op.operands, Call.operands, List.lookup_cons, List.lookup_nil, Nat.reduceBEq, Bool.false_eq_true, if_false, if_true, Act.eval, Array.getD_eq_getD_getElem?, List.getElem?_toArray, List.getElem?_cons_succ, List.getElem?_cons_zero, Option.getD_some, and_true, true_and, List.append_toArray, List.nil_append, List.cons_append, List.toList_toArray, Array.toList_append, Option.toArray, List.append_nil] at hA); first | (go_simp; refine RetV_at (hal.out w') ?_; intro w6 hx6; exact hK _ hx6) | (obtain ⟨hSc, hSf, hSs⟩ := hS.cells; go_simp; exact hK _ (by repeat (first | (with_reducible assumption) | (with_reducible exact Ext.rfl' _) | (with_reducible exact Ext.new _ _) | (with_reducible refine Ext.alloc' ?_ _) | (with_reducible refine Ext.drew' ?_) | (with_reducible refine Ext.drewN' ?_ _) | (with_reducible refine Ext.set' ?_ ?_ _; rotate_left; (focus (first | omega | (simp; done) | (simp; omega)))) | (with_reducible refine Ext.then (b := ?_) ?_ ?_; rotate_left; rotate_left; (with_reducible assumption))))))); (try simp only [List.nil_append, List.cons_append])) | (refine walkI_yesis (u := ?_) rfl (by simp) rfl rfl rfl ?_ ?_; rotate_left; (focus (intro A w' hS hA K hK; (simp only [List.map_cons, List.map_nil, knows, Is, Op.operands, Call.operands, List.lookup_cons, List.lookup_nil, Nat.reduceBEq, Bool.false_eq_true, if_false, if_true, Act.eval, Array.getD_eq_getD_getElem?, List.getElem?_toArray, List.getElem?_cons_succ, List.getElem?_cons_zero, Option.getD_some, and_true, true_and, List.append_toArray, List.nil_append, List.cons_append, List.toList_toArray, Array.toList_append, Option.toArray, List.append_nil] at hA); first | (go_simp; refine RetV_at (hal.out w') ?_; intro w6 hx6; exact hK _ hx6) | (obtain ⟨hSc, hSf, hSs⟩ := hS.cells; go_simp; exact hK _ (by repeat (first | (with_reducible assumption) | (with_reducible exact Ext.rfl' _) | (with_reducible exact Ext.new _ _) | (with_reducible refine Ext.alloc' ?_ _) | (with_reducible refine Ext.drew' ?_) | (with_reducible refine Ext.drewN' ?_ _) | (with_reducible refine Ext.set' ?_ ?_ _; rotate_left; (focus (first | omega | (simp; done) | (simp; omega)))) | (with_reducible refine Ext.then (b := ?_) ?_ ?_; rotate_left; rotate_left; (with_reducible assumption))))))); (try simp only [List.nil_append, List.cons_append]))))
      (refine walkI_nil ?_; simp only [List.nil_append, List.cons_append, fins, Is, forall_eq, Act.put, List.setIfInBounds_toArray, List.set_cons_zero, List.set_cons_succ])
      rintro w10 hx10
      have hO4b := hO4.keep hx10
      have f31 := hO4b.facts.2 0
      have c31 : _ = some (Value.int .i64 d) := hO4b.facts.1 0
      have g4 := hO4b.lt
      have hO4c := hO4b.set 0 (.int .i64 (d + bd))
      have hxs : Ext W1 (w10.setCell ⟨W1.heap.size, 0, none⟩ (.int .i64 (d + bd))) := (hxn.then hx10).set' (by simp) _
      simp only [List.setIfInBounds_toArray, List.set_cons_succ, List.set_cons_zero] at hO4c
      clear b0' b1' g2'
      go_upto_region 16 with (fail)
      clear c31 f31
      generalize w10.setCell _ _ = W2 at *
      replace g4 := hO4c.lt
      replace hO3c := hO3c.keep hxs
      replace g3 := hO3c.lt
      replace hc := hc.mono hxs.ple
      replace hA0 := hA0.mono mono_ActR hxs.ple
      replace hB := hB.mono mono_ActR hxs.ple
      replace hT := hT.mono mono_ActR hxs.ple
      replace a0 := hxs.cell1 a0
      replace a1 := hxs.cell1 a1
      replace b0 := hxs.cell1 b0
      replace b1 := hxs.cell1 b1
      replace g1 := Nat.lt_of_lt_of_le g1 hxs.size
      replace g2 := Nat.lt_of_lt_of_le g2 hxs.size
      replace hxD := hxD.then hxs
      clear hxs hxn hx10 hO4b hO4
      generalize W1.heap.size = z4 at *
      have u0 : _ = some (Value.int .i64 d) := hO3c.facts.1 0
      have u1 : _ = some (Value.int .i64 (n + ad)) := hO3c.facts.1 1
      have v0 : _ = some (Value.int .i64 (d + bd)) := hO4c.facts.1 0
      have v1 : _ = some (Value.int .i64 n) := hO4c.facts.1 1
      clear hO3c hO4c
      replace hE1 := Lib.hid hE1
      replace hE2 := Lib.hid hE2
      replace hE3 := Lib.hid hE3
      replace hE4 := Lib.hid hE4
      replace hE5 := Lib.hid hE5
      replace hE6 := Lib.hid hE6
      go_wp2_with fail
      refine RetV_at (hE1.out _ hc hA0 (hV.mono hxD.ple)) ?_
      intro y0 hy0
      replace hxD := hxD.then hy0
      replace hc := hc.mono hy0.ple
      replace hA0 := hA0.mono mono_ActR hy0.ple
      replace hB := hB.mono mono_ActR hy0.ple
      replace hT := hT.mono mono_ActR hy0.ple
      replace a0 := hy0.cell1 a0
      replace a1 := hy0.cell1 a1
      replace b0 := hy0.cell1 b0
      replace b1 := hy0.cell1 b1
      replace u0 := hy0.cell1 u0
      replace u1 := hy0.cell1 u1
      replace v0 := hy0.cell1 v0
      replace v1 := hy0.cell1 v1
      replace g1 := Nat.lt_of_lt_of_le g1 hy0.size
      replace g2 := Nat.lt_of_lt_of_le g2 hy0.size
      replace g3 := Nat.lt_of_lt_of_le g3 hy0.size
      replace g4 := Nat.lt_of_lt_of_le g4 hy0.size
      clear hy0 hE1
      go_wp2_with fail
      refine RetV_at (hE2.out _ hc hB (hV.mono hxD.ple)) ?_
      intro y1 hy1
      replace hxD := hxD.then hy1
      replace hc := hc.mono hy1.ple
      replace hA0 := hA0.mono mono_ActR hy1.ple
      replace hB := hB.mono mono_ActR hy1.ple
      replace hT := hT.mono mono_ActR hy1.ple
      replace a0 := hy1.cell1 a0
      replace a1 := hy1.cell1 a1
      replace b0 := hy1.cell1 b0
      replace b1 := hy1.cell1 b1
      replace u0 := hy1.cell1 u0
      replace u1 := hy1.cell1 u1
      replace v0 := hy1.cell1 v0
      replace v1 := hy1.cell1 v1
      replace g1 := Nat.lt_of_lt_of_le g1 hy1.size
      replace g2 := Nat.lt_of_lt_of_le g2 hy1.size
      replace g3 := Nat.lt_of_lt_of_le g3 hy1.size
      replace g4 := Nat.lt_of_lt_of_le g4 hy1.size
      clear hy1 hE2
      go_wp2_with fail
      refine RetV_at (hE3.out _ hc hT (hV.mono hxD.ple)) ?_
      intro y2 hy2
      replace hxD := hxD.then hy2
      replace hc := hc.mono hy2.ple
      replace hA0 := hA0.mono mono_ActR hy2.ple
      replace hB := hB.mono mono_ActR hy2.ple
      replace hT := hT.mono mono_ActR hy2.ple
      replace a0 := hy2.cell1 a0
      replace a1 := hy2.cell1 a1
      replace b0 := hy2.cell1 b0
      replace b1 := hy2.cell1 b1
      replace u0 := hy2.cell1 u0
      replace u1 := hy2.cell1 u1
      replace v0 := hy2.cell1 v0
      replace v1 := hy2.cell1 v1
      replace g1 := Nat.lt_of_lt_of_le g1 hy2.size
      replace g2 := Nat.lt_of_lt_of_le g2 hy2.size
      replace g3 := Nat.lt_of_lt_of_le g3 hy2.size
      replace g4 := Nat.lt_of_lt_of_le g4 hy2.size
      clear hy2 hE3
      go_wp2_with fail
      refine RetV_at (hE4.out _ hc hA0 (hV.mono hxD.ple)) ?_
      intro y3 hy3
      replace hxD := hxD.then hy3
      replace hc := hc.mono hy3.ple
      replace hA0 := hA0.mono mono_ActR hy3.ple
      replace hB := hB.mono mono_ActR hy3.ple
      replace hT := hT.mono mono_ActR hy3.ple
      replace a0 := hy3.cell1 a0
      replace a1 := hy3.cell1 a1
      replace b0 := hy3.cell1 b0
      replace b1 := hy3.cell1 b1
      replace u0 := hy3.cell1 u0
      replace u1 := hy3.cell1 u1
      replace v0 := hy3.cell1 v0
      replace v1 := hy3.cell1 v1
      replace g1 := Nat.lt_of_lt_of_le g1 hy3.size
      replace g2 := Nat.lt_of_lt_of_le g2 hy3.size
      replace g3 := Nat.lt_of_lt_of_le g3 hy3.size
      replace g4 := Nat.lt_of_lt_of_le g4 hy3.size
      clear hy3 hE4
      go_wp2_with fail
      refine RetV_at (hE5.out _ hc hA0 (hV.mono hxD.ple)) ?_
      intro y4 hy4
      replace hxD := hxD.then hy4
      replace hc := hc.mono hy4.ple
      replace hA0 := hA0.mono mono_ActR hy4.ple
      replace hB := hB.mono mono_ActR hy4.ple
      replace hT := hT.mono mono_ActR hy4.ple
      replace a0 := hy4.cell1 a0
      replace a1 := hy4.cell1 a1
      replace b0 := hy4.cell1 b0
      replace b1 := hy4.cell1 b1
      replace u0 := hy4.cell1 u0
      replace u1 := hy4.cell1 u1
      replace v0 := hy4.cell1 v0
      replace v1 := hy4.cell1 v1
      replace g1 := Nat.lt_of_lt_of_le g1 hy4.size
      replace g2 := Nat.lt_of_lt_of_le g2 hy4.size
      replace g3 := Nat.lt_of_lt_of_le g3 hy4.size
      replace g4 := Nat.lt_of_lt_of_le g4 hy4.size
      clear hy4 hE5
      go_wp2_with fail
      refine RetV_at (hE6.out _ hc hA0 (hV.mono hxD.ple)) ?_
      intro y5 hy5
      replace hxD := hxD.then hy5
      replace hc := hc.mono hy5.ple
      replace hA0 := hA0.mono mono_ActR hy5.ple
      replace hB := hB.mono mono_ActR hy5.ple
      replace hT := hT.mono mono_ActR hy5.ple
      replace a0 := hy5.cell1 a0
      replace a1 := hy5.cell1 a1
      replace b0 := hy5.cell1 b0
      replace b1 := hy5.cell1 b1
      replace u0 := hy5.cell1 u0
      replace u1 := hy5.cell1 u1
      replace v0 := hy5.cell1 v0
      replace v1 := hy5.cell1 v1
      replace g1 := Nat.lt_of_lt_of_le g1 hy5.size
      replace g2 := Nat.lt_of_lt_of_le g2 hy5.size
      replace g3 := Nat.lt_of_lt_of_le g3 hy5.size
      replace g4 := Nat.lt_of_lt_of_le g4 hy5.size
      clear hy5 hE6
      have hlv := lives_c y5 (hV.mono hxD.ple)
      go_upto_region 22 with (fail)
      rcases k1.out with k | ⟨rfl, k, k'⟩ | ⟨rfl, k, rfl, k'⟩ | ⟨rfl, rfl, k, k'⟩ | ⟨rfl, rfl, k, rfl, k'⟩
      all_goals rcases k2.out with q | ⟨rfl, q⟩ | ⟨rfl, rfl, q⟩
      all_goals
        clear k1 k2
        go_wp2_with fail
        refine RetV_at hlv ?_
        intro w9 hx9
        go_wp2_with fail
        go_ret
        exact ⟨rfl, hxD.then hx9⟩
theorem termLaterLaw (vl vm vk : Value) (l m kk : List Int) (from' months more : Int) (w : World) (hl : IntsR (ph w) vl l) (hm : IntsR (ph w) vm m) (hk : IntsR (ph w) vk kk) (_ : l.length ≤ 140737488355328) (_ : m.length ≤ 140737488355328) (_ : kk.length ≤ 140737488355328) (hf : I64 from') (hmo : I64 months) (hmr : I64 more) (hV : VL (ph w)) :
    Calls Tryd.prog 5 #[vl, vm, vk, .int .i64 from', .int .i64 months, .int .i64 more] w (RetV w (.bool true)) := termLater_c l m kk vl vm vk from' months more w hl hm hk hf hmo hmr hV
end Go.Proofs.YtcmdekhhclgdcaaDoor
