/- Lemmas for CB, part 10: Spoilt of priorartref11, with bounds that are told, and more. -/
import Derived.Test.YtnpnjcaomakehaaGreatCB08
set_option linter.unusedSimpArgs false
set_option linter.unusedVariables false
namespace Go.Proofs.YtnpnjcaomakehaaGreat
open Go.RowKit Go.Shelf
def SpClB (w : World) (H0 : PH) (Ln Rn Bn : Nat) (e : Ending) (w' : World) : Prop := ∃ v L, e = .returned v ∧ ClsR (up H0 w w') v L ∧ (∀ c ∈ L, c.body.bulk ≤ 2 * Bn + 20000 ∧ c.refs.length ≤ Rn + 20) ∧ L.length ≤ Ln + 40 ∧ Ext w w'
def SpX (w : World) (H0 : PH) (Ln Rn Bn : Nat) (ov : Value) (wx : World) : Prop := ∃ L H, Mem w H0 [own mono_ClR 5 58 ov L] H wx ∧ (∀ c ∈ L, c.body.bulk ≤ 2 * Bn + 20000 ∧ c.refs.length ≤ Rn + 20) ∧ L.length ≤ Ln + 40
theorem SpX.of {w wx : World} {H0 H : PH} {L : List Chunk} {ov : Value} {l : List Cl} {i : Nat} {c' : Cl} {Ln Rn Bn : Nat} (h : Mem w H0 (Proofs.YtnpnjcaomakehaaGreat.own mono_ClR 5 58 ov (l.set i c') :: L) H wx) (hb : ∀ c ∈ l, c.body.bulk ≤ Bn ∧ c.refs.length ≤ Rn) (hl : l.length ≤ Ln) (hc : c'.body.bulk ≤ 2 * Bn + 20000 ∧ c'.refs.length ≤ Rn + 20) : SpX w H0 Ln Rn Bn ov wx := by
  refine ⟨_, H, by simpa using h.pick [0] (by decide), fun c hm => ?_, by rw [List.length_set]; omega⟩
  rcases List.mem_or_eq_of_mem_set hm with h1 | h1
  · have := hb c h1; omega
  · rw [h1]; exact hc
set_option maxRecDepth 100000 in
set_option maxHeartbeats 8000000 in
theorem spoilt11_b {H0 : PH} (Ln Rn Bn : Nat) (hLn : Ln ≤ 1000) (hRn : Rn ≤ 1000) (hBn : Bn ≤ 60000) (v : Value) (l : List Cl) (at' how by' : Int) (w : World) (hl : PLe H0 (ph w)) (hr : ClsR H0 v l) (ia : I64 at') (ihw : I64 how) (ib : I64 by') (hlen : l.length ≤ Ln) (hbl : ∀ c ∈ l, c.body.bulk ≤ Bn ∧ c.refs.length ≤ Rn) :
    Calls Tryz.prog 6 #[v, .int .i64 at', .int .i64 how, .int .i64 by'] w (SpClB w H0 Ln Rn Bn) := by
  obtain ⟨xa, xc, rfl, -, hr⟩ := hr.form
  obtain ⟨i, hi⟩ : ∃ i : Nat, aroundV at' l.length = i ∨ l = [] := by
    by_cases hl0 : l = []
    · exact ⟨0, .inr hl0⟩
    · have h1 : 0 < l.length := List.length_pos_iff.2 hl0
      have := aroundV_range ia (show (0 : Int) < l.length by omega)
      exact ⟨(aroundV at' l.length).toNat, .inl (by omega)⟩
  have hM0 := ((Mem.start w H0 hl).nil mono_ClO 5 58).nil mono_ClO 5 58
  replace hM0 := hM0.pick [0, 7] (by decide)
  simp only [List.cons_append, List.nil_append, List.map_cons, List.map_nil, List.getElem?_cons_zero, List.getElem?_cons_succ, List.getElem?_nil, Option.getD_some, Option.getD_none] at hM0
  replace hi := Lib.hid hi
  go_enter Tryz.func6, Tryz.ntmps6
  go_wp2_with fail
  go_loopw [9, 10] (fun ov vi wr => ∃ (k : Nat) (xs : List (Cl × Option (List Value))) (C : Chunk) (H : PH), k ≤ l.length ∧ vi = .int .i64 k ∧ Hid (xs.map Prod.fst = l.take k ∧ OpenAt i xs) ∧
    Hid ((k ≤ i ∧ C = nop) ∨ (i < k ∧ ∃ (hil : i < l.length) (ra : Option Addr) (rc : Nat) (a3 : Option Addr) (c3 : Nat) (a4 : Option Addr) (c4 : Nat), C = own mono_IntR 1 3 (.slice ra l[i].refs.length rc) l[i].refs ∧ xs[i]? = some (l[i], some (clC l[i] ra rc a3 c3 a4 c4)) ∧ FmR H0 (fmC l[i].body a3 c3 a4 c4) l[i].body)) ∧
    Mem w H0 [own mono_ClO 5 58 ov xs, C] H wr) (fun _ vi _ => l.length - (intOf vi).toNat)
  case atStart => exact ⟨0, [], nop, H0, Nat.zero_le _, rfl, Lib.hid ⟨rfl, fun j x h => by simp at h⟩, Lib.hid (.inl ⟨Nat.zero_le _, rfl⟩), hM0⟩
  case round =>
    clear hM0
    obtain ⟨k, xs, C, H, hk, rfl, hxs, hC, hM⟩ := hrel
    obtain ⟨oa, oc, rfl, -⟩ := hM.form 0 rfl
    have hxl : xs.length = k := by have := congrArg List.length hxs.out.1; simp at this; omega
    by_cases hlt : k < l.length
    · obtain ⟨b, o, a1, c1, a3, c3, a4, c4, rfl, h0, h1, h2, h3, h4, hbl', hrl, hri, hE⟩ := ClsR.atH hr (hM.le.trans hM.ple) k hlt
      have hrl2 := (hbl _ (List.getElem_mem hlt)).2
      have hsrc := Lib.hid (hri.mono mono_IntR (hM.le.trans hM.ple))
      replace hxl := Lib.hid hxl
      go_wp2_with fail
      (refine wp_region_I 15 (by kernel_rfl) (by kernel_rfl) ?_; simp only [List.toList_toArray, List.take_succ_cons, List.take_zero, List.drop_succ_cons, List.drop_zero])
      (refine wiA rfl (by simp) rfl ?_; (try simp only [List.nil_append, List.cons_append]))
      (refine walkI_step (NewSl wr #[] 3 0) rfl (by simp) rfl (stab_NewSl _ _ _ _) ?_ ?_; (focus (intro A w' hS hA K hK; (simp only [List.map_cons, List.map_nil, knows, Is, Op.operands, Call.operands, List.lookup_cons, List.lookup_nil, Nat.reduceBEq, Bool.false_eq_true, if_false, if_true, Act.eval, Array.getD_eq_getD_getElem?, List.getElem?_toArray, List.getElem?_cons_succ, List.getElem?_cons_zero, Option.getD_some, and_true, true_and, List.append_toArray, List.nil_append, List.cons_append, List.toList_toArray, Array.toList_append, Option.toArray, List.append_nil] at hA); (have hs' := hS.size; go_simp; exact hK _ _ (Ext.new _ _) ⟨_, rfl, Own.new _ _ _, by omega⟩))); (try simp only [List.nil_append, List.cons_append]))
      iterate 5 (refine wiA rfl (by simp) rfl ?_; (try simp only [List.nil_append, List.cons_append]))
      (refine walkI_step ((fun v w' => OwnS wr.heap.size noH w' IntR 1 3 v l[k].refs)) rfl (by simp) rfl ((fun v w w' _ h e => h.keep e)) ?_ ?_; (focus (intro A w' hS hA K hK; (simp only [List.map_cons, List.map_nil, knows, Is, Op.operands, Call.operands, List.lookup_cons, List.lookup_nil, Nat.reduceBEq, Bool.false_eq_true, if_false, if_true, Act.eval, Array.getD_eq_getD_getElem?, List.getElem?_toArray, List.getElem?_cons_succ, List.getElem?_cons_zero, Option.getD_some, and_true, true_and, List.append_toArray, List.nil_append, List.cons_append, List.toList_toArray, Array.toList_append, Option.toArray, List.append_nil] at hA); (obtain ⟨⟨g, hA1, hA2, hA3⟩, hA4⟩ := hA; refine oper_append_E (E := IntR) (sz := 1) (H := noH) (base := wr.heap.size) (T := 3) _ _ 22 rfl Tryz.underlying22 infoInt rfl (by simp only [Act.eval, Array.getD_eq_getD_getElem?]; exact hA1) (by simp only [Act.eval, Array.getD_eq_getD_getElem?]; exact hA4) hA3 rfl hA2 ((Src.ofRep (hsrc.out.mono mono_IntR hS.ple) (fun _ _ h => h)).free (fun cs x h => h)) (noH_le _) (by have := hS.size; first | omega | (simp at this; omega)) (by omega) (by omega) ?_; intro v' w'' ho' hx'; exact hK _ _ hx' ho'))); (try simp only [List.nil_append, List.cons_append]))
      iterate 5 (refine wiA rfl (by simp) rfl ?_; (try simp only [List.nil_append, List.cons_append]))
      (refine walkI_step ((fun v w' => ∃ a c, v = .agg #[.slice a l[k].refs.length c, .int .i64 l[k].body.op, .int .i64 l[k].body.n, .slice a3 l[k].body.inn.length c3, .slice a4 l[k].body.kids.length c4] ∧ OwnS wr.heap.size noH w' IntR 1 3 (.slice a l[k].refs.length c) l[k].refs)) rfl (by simp) rfl ((fun v w w' _ ⟨a, c, h1, h2⟩ e => ⟨a, c, h1, h2.keep e⟩)) ?_ ?_; (focus (intro A w' hS hA K hK; (simp only [List.map_cons, List.map_nil, knows, Is, Op.operands, Call.operands, List.lookup_cons, List.lookup_nil, Nat.reduceBEq, Bool.false_eq_true, if_false, if_true, Act.eval, Array.getD_eq_getD_getElem?, List.getElem?_toArray, List.getElem?_cons_succ, List.getElem?_cons_zero, Option.getD_some, and_true, true_and, List.append_toArray, List.nil_append, List.cons_append, List.toList_toArray, Array.toList_append, Option.toArray, List.append_nil] at hA); (obtain ⟨hA1, hA4⟩ := hA; obtain ⟨ea, ec, hA2, -⟩ := hA1.form; rw [hA2] at hA1; go_simp; exact hK _ _ (Ext.rfl' _) ⟨ea, ec, rfl, hA1⟩))); (try simp only [List.nil_append, List.cons_append]))
      (refine walkI_step (LitC wr l[k].refs l[k].body a3 c3 a4 c4) rfl (by simp) rfl (stab_LitC _ _ _ _ _ _ _) ?_ ?_; (focus (intro A w' hS hA K hK; (simp only [List.map_cons, List.map_nil, knows, Is, Op.operands, Call.operands, List.lookup_cons, List.lookup_nil, Nat.reduceBEq, Bool.false_eq_true, if_false, if_true, Act.eval, Array.getD_eq_getD_getElem?, List.getElem?_toArray, List.getElem?_cons_succ, List.getElem?_cons_zero, Option.getD_some, and_true, true_and, List.append_toArray, List.nil_append, List.cons_append, List.toList_toArray, Array.toList_append, Option.toArray, List.append_nil] at hA); (obtain ⟨ea, ec, hA1, hA2⟩ := hA; go_simp; exact hK _ _ (Ext.new _ _) ⟨_, _, _, rfl, Own.new _ _ _, hA2.keep (Ext.new _ _)⟩))); (try simp only [List.nil_append, List.cons_append]))
      (refine walkI_nil ?_; simp only [List.nil_append, List.cons_append, fins, Is, forall_eq, Act.put, List.setIfInBounds_toArray, List.set_cons_zero, List.set_cons_succ])
      rintro w6 hx6 v21 - v27 - v33 - v34 ⟨g6, a6, c6, rfl, ho6, hO6⟩
      obtain ⟨H2, hl2, -, hM2⟩ := hM.take hx6 hO6 mono_IntR (noH_le _)
      simp only [List.cons_append, List.nil_append] at hM2
      clear hM hO6 hsrc hx6 h0 h1 h2 h3 h4
      by_cases hki : k = i
      · subst hki
        obtain ⟨hki', rfl⟩ : k ≤ k ∧ C = nop := by
          rcases hC.out with h | h
          · exact h
          · omega
        have hM6 := hM2.pick [0, 2] (by decide)
        simp only [List.map_cons, List.map_nil, List.getElem?_cons_succ, List.getElem?_cons_zero, Option.getD_some] at hM6
        clear hM2 hC hri
        obtain ⟨H5, rfl⟩ : ∃ H5, H5 = H2 := ⟨_, rfl⟩
        have hS := Src.lit1 (H := H5) (E := ClO) (sz := 5) (w := w6) (b := g6) (x := (l[k], some (clC l[k] a6 c6 a3 c3 a4 c4))) (cs := clC l[k] a6 c6 a3 c3 a4 c4) ⟨rfl, rfl, by simp [clC, fmC, Value.oneCell']⟩ rfl (fun j => by rw [ho6.facts.1]; simp [clC, fmC])
        go_wp2_with (first | (at_builtin; refine wpList_append_M 0 rfl _ _ 24 rfl Tryz.underlying24 infoCl rfl rfl rfl hM6 rfl hS one_ClO ?g1 ?g2 ?g3))
        case g1 => have := hxl.out; simp; omega
        case g2 => have := hxl.out; simp; omega
        case g3 =>
        intro v7 w7 hM7
        try simp only [List.set_cons_zero, List.set_cons_succ] at hM7
        clear hM6 hS ho6
        go_wp2_with fail
        go_roundw
        case rel =>
          refine ⟨k + 1, _, _, _, by omega, by go_num, Lib.hid ⟨?_, ?_⟩, Lib.hid (.inr ⟨by omega, hlt, a6, c6, a3, c3, a4, c4, rfl, ?_, hE⟩), hM7⟩
          · rw [List.map_append, hxs.out.1, List.take_succ_eq_append_getElem hlt]; rfl
          · intro j x hj hn
            rcases getElem?_snoc hj with h | ⟨h, -⟩
            · exact hxs.out.2 j x h hn
            · exact absurd (h.trans hxl.out) hn
          · rw [List.getElem?_append_right (by rw [hxl.out]; exact Nat.le_refl _), hxl.out]; simp
        case measure => simp [intOf]; omega
      · obtain ⟨H5, hl5, hM3, hR5⟩ := hM2.freezeS 2 rfl
        have hcR : ClR H5 (clC l[k] a6 c6 a3 c3 a4 c4) l[k] := ClR.of hR5 (mono_FmR _ _ _ _ (hM3.le) hE)
        have hM6 := hM3.pick [0, 1] (by decide)
        simp only [List.set_cons_succ, List.set_cons_zero, List.map_cons, List.map_nil, List.getElem?_cons_succ, List.getElem?_cons_zero, Option.getD_some] at hM6
        clear hM2 hM3 hri hR5
        have hS := Src.lit1 (H := H5) (E := ClO) (sz := 5) (w := w6) (b := g6) (x := (l[k], none)) (cs := clC l[k] a6 c6 a3 c3 a4 c4) hcR rfl (fun j => by rw [ho6.facts.1]; simp [clC, fmC])
        go_wp2_with (first | (at_builtin; refine wpList_append_M 0 rfl _ _ 24 rfl Tryz.underlying24 infoCl rfl rfl rfl hM6 rfl hS one_ClO ?g1 ?g2 ?g3))
        case g1 => have := hxl.out; simp; omega
        case g2 => have := hxl.out; simp; omega
        case g3 =>
        intro v7 w7 hM7
        try simp only [List.set_cons_zero, List.set_cons_succ] at hM7
        clear hM6 hS ho6
        go_wp2_with fail
        go_roundw
        case rel =>
          refine ⟨k + 1, _, C, _, by omega, by go_num, Lib.hid ⟨?_, ?_⟩, Lib.hid ?_, hM7⟩
          · rw [List.map_append, hxs.out.1, List.take_succ_eq_append_getElem hlt]; rfl
          · intro j x hj hn
            rcases getElem?_snoc hj with h | ⟨h, rfl⟩
            · exact hxs.out.2 j x h hn
            · rfl
          · rcases hC.out with ⟨g1, g2⟩ | ⟨g1, hil, ra, rc, b3, d3, b4, d4, g2, g3, g4⟩
            · exact .inl ⟨by omega, g2⟩
            · exact .inr ⟨by omega, hil, ra, rc, b3, d3, b4, d4, g2, by rw [List.getElem?_append_left (by rw [hxl.out]; exact g1)]; exact g3, g4⟩
        case measure => simp [intOf]; omega
    · obtain rfl : k = l.length := by omega
      by_cases hl0 : l = []
      · have hx0 : xs.length = 0 := by rw [hxl, hl0]; rfl
        have b0 : ((xs.length : Int) == 0) = true := by rw [hx0]; rfl
        obtain ⟨H2, hl2, hM2, hI2⟩ := hM.int1 by' ib
        have hcR : ClR H2 (clC ⟨[by'], noF⟩ (some ⟨wr.heap.size, 0, none⟩) 1 none 0 none 0) ⟨[by'], noF⟩ := ClR.of hI2 (noF_R _)
        have hM3 := (hM2.new' #[.slice (some ⟨wr.heap.size, 0, none⟩) 1 1, .int .i64 0, .int .i64 0, .slice none 0 0, .slice none 0 0] 58 (n := wr.heap.size + 1) (by simp)).asOwn 3 rfl mono_ClR (sz := 5) (xs := [⟨[by'], noF⟩]) (n := 1) (by simp) (by simp [maxLen]) rfl ⟨_, [], rfl, rfl, hcR, rfl⟩
        clear hM hM2 hI2 hcR hxl hx0
        go_wp2_with fail
        go_ret
        refine ⟨_, [⟨[by'], noF⟩], rfl, hM3.repUp 3 rfl, fun c hc => ?_, by simp, hM3.ex⟩
        rw [List.mem_singleton.1 hc]; simp [noF, Fm.bulk, fbulks] <;> omega
      · have hlp : 0 < l.length := List.length_pos_iff.2 hl0
        have b0 : ((xs.length : Int) == 0) = false := by rw [hxl]; simp; omega
        have hie : aroundV at' (xs.length : Int) = i := by
          rcases hi.out with h | h
          · rw [hxl]; exact h
          · exact absurd h hl0
        have hil' : i < l.length := by
          have := aroundV_range ia (show (0 : Int) < l.length by omega)
          rw [hxl] at hie; omega
        rcases hC.out with ⟨h, -⟩ | ⟨-, hil, ra, rc, a3, c3, a4, c4, rfl, hxi, hE⟩
        · omega
        have hmap : Hid (xs.map Prod.fst = l) := by show _ = _; rw [hxs.out.1, List.take_length]
        have hop : Hid (OpenAt i xs) := hxs.out.2
        have hrl := (hbl _ (List.getElem_mem hil)).2
        have hxl2 : 0 < xs.length ∧ xs.length ≤ Ln := by omega
        have hixs : i < xs.length := by omega
        have hbi := (hbl _ (List.getElem_mem hil)).1
        replace hxi := Lib.hid hxi
        replace hbl := Lib.hid hbl
        clear hxs hC hxl hi hl0 hr hlp
        generalize l[i] = X at *
        go_wp2_with fail
        refine RetV_at (around_c at' xs.length _ ia (by omega) (by omega)) ?_
        intro w1 hx1
        rw [hie]
        replace hM := hM.ext hx1
        clear hx1 hie
        go_wp2_with fail
        refine RetV_at (around_c how 6 _ ihw (by omega) (by omega)) ?_
        intro w2 hx2
        obtain ⟨q0, q1⟩ := aroundV_range ihw (show (0 : Int) < 6 by omega)
        generalize aroundV how 6 = q at *
        replace hM := hM.ext hx2
        clear hx2
        go_upto_block 2 with (fail)
        go_cut [9] (fun ov wx => SpX w H0 Ln Rn Bn ov wx)
        case first =>
          obtain ⟨gb, gcap, gcs, e1, gl, gc, gR, gbl⟩ := hM.get 0 rfl i hixs
          cases e1
          have hxe : xs[i] = (X, some (clC X ra rc a3 c3 a4 c4)) := by have := hxi.out; rw [List.getElem?_eq_getElem hixs] at this; exact Option.some.inj this
          rw [hxe] at gR
          obtain ⟨rfl, -, -⟩ := gR
          have g0 : w2.cell? ⟨gb, i * 5, none⟩ = some (.slice ra X.refs.length rc) := gc 0 (by omega)
          have g1 : w2.cell? ⟨gb, i * 5 + 1, none⟩ = some (.int .i64 X.body.op) := gc 1 (by omega)
          have g2 : w2.cell? ⟨gb, i * 5 + 2, none⟩ = some (.int .i64 X.body.n) := gc 2 (by omega)
          have g3 : w2.cell? ⟨gb, i * 5 + 3, none⟩ = some (.slice a3 X.body.inn.length c3) := gc 3 (by omega)
          have g4 : w2.cell? ⟨gb, i * 5 + 4, none⟩ = some (.slice a4 X.body.kids.length c4) := gc 4 (by omega)
          clear gc gl hxe
          obtain rfl | rfl | rfl | rfl | rfl | rfl : q = 0 ∨ q = 1 ∨ q = 2 ∨ q = 3 ∨ q = 4 ∨ q = 5 := by omega
          · -- one more reference
            have hM6 := hM.ext (Ext.new w2 (.cells #[.int .i64 by'] 3))
            have hS := Src.lit1 (H := H) (E := IntR) (sz := 1) (w := w2.alloc (.cells #[.int .i64 by'] 3)) (b := w2.heap.size) (x := by') (cs := [.int .i64 by']) ⟨rfl, ib⟩ rfl (fun j => by rw [(Proofs.YtnpnjcaomakehaaGreat.Own.new _ _ _).facts.1]; simp)
            go_wp2_with (first | (at_builtin; refine wpList_append_M 1 rfl _ _ 22 rfl Tryz.underlying22 infoInt rfl rfl rfl hM6 rfl hS one_IntR (by simp; omega) (by simp; omega) ?f5))
            case f5 =>
            intro v7 w7 hM7
            try simp only [List.set_cons_zero, List.set_cons_succ] at hM7
            have hrs2 : (X.refs ++ [by']).length ≤ Rn + 20 := by simp; omega
            generalize X.refs ++ [by'] = rs2 at hM7 hrs2
            obtain ⟨na, nc, rfl, -⟩ := hM7.form 1 rfl
            obtain ⟨g8, k8, e8, f8, ⟨u8, t8⟩, l8, hM8⟩ := (hM7).setAt 0 rfl i 0 (by omega) hxi.out (u := (.slice na rs2.length nc)) (x' := (X, some ((clC X ra rc a3 c3 a4 c4).set 0 (.slice na rs2.length nc)))) (fun cs h => ClO.set rfl h)
            cases e8
            simp only [List.set_cons_zero, List.set_cons_succ, Nat.add_zero] at hM8 f8 t8
            clear hM hM6 hM7 hS
            go_wp2_with fail
            go_meet
            case rel =>
              obtain ⟨H9, hl9, hM9, hR9⟩ := hM8.freezeS 1 rfl
              simp only [List.set_cons_zero, List.set_cons_succ] at hM9
              exact SpX.of (fill_set i hmap.out hop.out hixs hM9 (c' := ⟨rs2, X.body⟩) ⟨_, _, rfl, hR9, mono_FmR _ _ _ _ hM9.le hE⟩) hbl.out hlen (by constructor <;> first | (dsimp only; omega) | (simp; done) | (simp; omega))
          · -- one reference alone
            go_wp2_with fail
            refine RetV_at (around_c by' xs.length _ ib (by omega) (by omega)) ?_
            intro w6 hx6
            obtain ⟨j0, j1⟩ := aroundV_range ib (show (0 : Int) < xs.length by omega)
            generalize aroundV by' xs.length = y at *
            have hiy : I64 y := by unfold I64; omega
            obtain ⟨H6, hl6, hM6, hI6⟩ := (hM.ext hx6).int1 y hiy
            simp only [List.cons_append, List.nil_append] at hM6
            obtain ⟨g8, k8, e8, f8, ⟨u8, t8⟩, l8, hM8⟩ := (hM6).setAt 0 rfl i 0 (by omega) hxi.out (u := (.slice (some ⟨w6.heap.size, 0, none⟩) 1 1)) (x' := (X, some ((clC X ra rc a3 c3 a4 c4).set 0 (.slice (some ⟨w6.heap.size, 0, none⟩) 1 1)))) (fun cs h => ClO.set rfl h)
            cases e8
            simp only [List.set_cons_zero, List.set_cons_succ, Nat.add_zero] at hM8 f8 t8
            clear hM hM6 hx6 g0 g1 g2 g3 g4
            go_wp2_with fail
            go_meet
            case rel => exact SpX.of (fill_set i hmap.out hop.out hixs hM8 (c' := ⟨[y], X.body⟩) ⟨_, _, rfl, hI6, mono_FmR _ _ _ _ hM8.le hE⟩) hbl.out hlen (by constructor <;> first | (dsimp only; omega) | (simp; done) | (simp; omega))
          · -- the body is spoilt
            have r3 := wrap_I64 (tdiv_I64 ia (k := 3) (by simp))
            have r6 := wrap_I64 (tdiv_I64 ihw (k := 6) (by simp))
            have hsp := Lib.hid (spoilt07_c (H0 := H0) X.body _ _ _ _ w2 (hM.le.trans hM.ple) hE (tdiv_I64 ia (k := 3) (by simp)) (tdiv_I64 ihw (k := 6) (by simp)) ib (by omega))
            go_wp2_with fail
            refine (hsp.out).mono ?_
            rintro e w6 ⟨g, b3, d3, b4, d4, rfl, hF, hgb, hx6⟩
            have hF6 := mono_FmR _ _ _ _ (up_mono hM.le) hF
            have hM6 := hM.up hx6
            generalize up H w2 w6 = H6 at *
            have p1 := hx6.cell1 g1
            have p2 := hx6.cell1 g2
            have p3 := hx6.cell1 g3
            have p4 := hx6.cell1 g4
            have lb := cell_lt p1
            obtain ⟨y1, z1, e1, f1, -, -, hN1⟩ := hM6.setAt 0 rfl i 1 (by omega) hxi.out (u := .int .i64 g.op) (x' := (X, some ((clC X ra rc a3 c3 a4 c4).set 1 (.int .i64 g.op)))) (fun cs h => ClO.set rfl h)
            obtain ⟨y2, z2, e2, f2, -⟩ := hM6.setAt 0 rfl i 2 (by omega) hxi.out (u := .int .i64 g.op) (x' := (X, some ((clC X ra rc a3 c3 a4 c4).set 2 (.int .i64 g.op)))) (fun cs h => ClO.set rfl h)
            obtain ⟨y3, z3, e3, f3, -⟩ := hM6.setAt 0 rfl i 3 (by omega) hxi.out (u := .int .i64 g.op) (x' := (X, some ((clC X ra rc a3 c3 a4 c4).set 3 (.int .i64 g.op)))) (fun cs h => ClO.set rfl h)
            obtain ⟨y4, z4, e4, f4, -⟩ := hM6.setAt 0 rfl i 4 (by omega) hxi.out (u := .int .i64 g.op) (x' := (X, some ((clC X ra rc a3 c3 a4 c4).set 4 (.int .i64 g.op)))) (fun cs h => ClO.set rfl h)
            cases e1; cases e2; cases e3; cases e4
            simp only [List.set_cons_zero] at hN1
            obtain ⟨y5, z5, e5, -, -, -, hN2⟩ := hN1.setAt 0 rfl i 2 (by omega) (List.getElem?_set_self hixs) (u := .int .i64 g.n) (x' := (X, some (((clC X ra rc a3 c3 a4 c4).set 1 (.int .i64 g.op)).set 2 (.int .i64 g.n)))) (fun cs h => ClO.set rfl h)
            simp only [List.length_set] at e5; cases e5
            simp only [List.set_cons_zero, List.set_set] at hN2
            obtain ⟨y5, z5, e5, -, -, -, hN3⟩ := hN2.setAt 0 rfl i 3 (by omega) (List.getElem?_set_self hixs) (u := .slice b3 g.inn.length d3) (x' := (X, some ((((clC X ra rc a3 c3 a4 c4).set 1 (.int .i64 g.op)).set 2 (.int .i64 g.n)).set 3 (.slice b3 g.inn.length d3)))) (fun cs h => ClO.set rfl h)
            simp only [List.length_set] at e5; cases e5
            simp only [List.set_cons_zero, List.set_set] at hN3
            obtain ⟨y5, z5, e5, -, -, -, hN4⟩ := hN3.setAt 0 rfl i 4 (by omega) (List.getElem?_set_self hixs) (u := .slice b4 g.kids.length d4) (x' := (X, some (((((clC X ra rc a3 c3 a4 c4).set 1 (.int .i64 g.op)).set 2 (.int .i64 g.n)).set 3 (.slice b3 g.inn.length d3)).set 4 (.slice b4 g.kids.length d4)))) (fun cs h => ClO.set rfl h)
            simp only [List.length_set] at e5; cases e5
            simp only [List.set_cons_zero, List.set_set] at hN4
            clear hM hM6 hN1 hN2 hN3 hx6 g0 g1 g2 g3 g4 hsp hF
            go_wp2_with fail
            go_meet
            case rel =>
              obtain ⟨H9, hl9, hM9, hR9⟩ := hN4.freezeS 1 rfl
              simp only [List.set_cons_zero, List.set_cons_succ, List.length_set] at hM9
              exact SpX.of (fill_set i hmap.out hop.out hixs hM9 (c' := ⟨X.refs, g⟩) ⟨_, _, rfl, hR9, mono_FmR _ _ _ _ hl9 hF6⟩) hbl.out hlen (by constructor <;> first | (dsimp only; omega) | (simp; done) | (simp; omega))
          · -- claims are added
            obtain ⟨H3, hl3, hM3, hR3⟩ := hM.freezeS 1 rfl
            simp only [List.set_cons_zero, List.set_cons_succ] at hM3
            have hMF := (hM3.fill 0 rfl (c' := X) ⟨_, _, rfl, hR3, mono_FmR _ _ _ _ hM3.le hE⟩ i hop.out (fun x hx => by rw [hxi.out] at hx; cases hx; rfl)).pick [0] (by decide)
            rw [hmap.out] at hMF
            simp only [List.set_cons_succ, List.set_cons_zero, List.map_cons, List.map_nil, List.getElem?_cons_zero, Option.getD_some] at hMF
            have hLl : (l.set i X).length = xs.length := by rw [List.length_set, ← hmap.out, List.length_map]
            have hbF : Hid (∀ c ∈ l.set i X, c.body.bulk ≤ 2 * Bn + 20000 ∧ c.refs.length ≤ Rn + 20) := Lib.hid fun c hc => by
              rcases List.mem_or_eq_of_mem_set hc with h | h
              · have := hbl.out c h; omega
              · rw [h]; omega
            generalize l.set i X = L0 at *
            clear hM hM3 hR3 g0 g1 g2 g3 g4
            obtain ⟨j0, j1⟩ := aroundV_range ib (show (0 : Int) < 4 by omega)
            have hard4 := Lib.hid (fun w => around_c by' 4 w ib (by omega) (by omega))
            have i4 := tdiv_I64 ib (k := 4) (by simp)
            obtain ⟨k0, k1⟩ := aroundV_range i4 (show (0 : Int) < 2 by omega)
            have hard2 := Lib.hid (fun w => around_c (by'.tdiv 4) 2 w i4 (by omega) (by omega))
            have hr4 := wrap_I64 i4
            generalize aroundV by' 4 = rr at *
            generalize aroundV (by'.tdiv 4) 2 = r2 at *
            obtain ⟨r, rfl⟩ : ∃ r : Nat, rr = r := ⟨rr.toNat, by omega⟩
            have hw30 : IntKind.i64.wrap (30 + (r : Int)) = 30 + (r : Int) := wrap_id (by omega) (by omega)
            go_wp2_with fail
            go_loopw [9] (fun ov wr => ∃ (L : List Cl) (H : PH), Mem w H0 [own mono_ClR 5 58 ov L] H wr ∧ Hid (∀ c ∈ L, c.body.bulk ≤ 2 * Bn + 20000 ∧ c.refs.length ≤ Rn + 20) ∧ 0 < L.length ∧ L.length ≤ Ln + 40) (fun ov _ => 200 - lenV ov)
            case atStart => exact ⟨L0, H3, hMF, hbF, by omega, by omega⟩
            case round =>
              clear hMF hbF
              obtain ⟨L, H, hM, hb, hL0, hL1⟩ := hrel
              obtain ⟨oa, oc, rfl, -⟩ := hM.form 0 rfl
              by_cases hlt : L.length < 30 + r
              · have b0 : decide ((L.length : Int) < 30 + (r : Int)) = true := by simp; omega
                have hwl : IntKind.i64.wrap ((L.length : Int) - 1) = (L.length : Int) - 1 := wrap_id (by omega) (by omega)
                go_wp2_with fail
                refine RetV_at (hard4.out _) ?_
                intro w5 hx5
                have hN1 := ((hM.ext hx5).new' #[.int .i64 0, .int .i64 ((L.length : Int) - 1)] 3 (n := w5.heap.size) rfl).asOwn 1 rfl mono_IntR (sz := 1) (xs := [0, (L.length : Int) - 1]) (n := 2) (by simp) (by simp [maxLen]) rfl ⟨[.int .i64 0], [.int .i64 ((L.length : Int) - 1)], rfl, rfl, ⟨rfl, by simp [I64]⟩, [.int .i64 ((L.length : Int) - 1)], [], rfl, rfl, ⟨rfl, by unfold I64; omega⟩, rfl⟩
                obtain ⟨H5, hl5, hN2, hI2⟩ := hN1.freezeS 1 rfl
                replace hN2 := hN2.pick [0] (by decide)
                simp only [List.set_cons_succ, List.set_cons_zero, List.cons_append, List.nil_append, List.map_cons, List.map_nil, List.getElem?_cons_zero, Option.getD_some] at hN2
                have hI3 := intsR_drop hI2 1 (by simp)
                clear hM hN1
                go_wp2_with fail
                refine RetV_at (hard2.out _) ?_
                intro w6 hx6
                have hM5 := hN2.ext hx6
                clear hN2 hx5 hx6
                obtain rfl | rfl : r2 = 0 ∨ r2 = 1 := by omega
                · have hI5 : IntsR H5 (.slice (some ⟨w5.heap.size, 0, none⟩) 2 2) [0, (L.length : Int) - 1] := hI2
                  clear hI2 hI3
                  have hM6 := hM5.ext (Ext.new w6 (.cells #[.slice (some ⟨w5.heap.size, 0, none⟩) 2 2, .int .i64 0, .int .i64 0, .slice none 0 0, .slice none 0 0] 58))
                  have hS := Src.lit1 (H := H5) (E := ClR) (sz := 5) (w := World.alloc w6 (.cells #[.slice (some ⟨w5.heap.size, 0, none⟩) 2 2, .int .i64 0, .int .i64 0, .slice none 0 0, .slice none 0 0] 58)) (b := World.heap w6 |>.size) (x := ⟨[0, (L.length : Int) - 1], noF⟩) (cs := [.slice (some ⟨w5.heap.size, 0, none⟩) 2 2, .int .i64 0, .int .i64 0, .slice none 0 0, .slice none 0 0]) ⟨_, _, rfl, hI5, noF_R _⟩ rfl (fun j => by rw [(Proofs.YtnpnjcaomakehaaGreat.Own.new _ _ _).facts.1]; simp)
                  go_wp2_with (first | (at_builtin; refine wpList_append_M 0 rfl _ _ 24 rfl Tryz.underlying24 infoCl rfl rfl rfl (hM6) rfl (hS) one_ClR ?g1 ?g2 ?g3))
                  case g1 => simp; omega
                  case g2 => simp; omega
                  case g3 =>
                  intro v7 w7 hM7
                  try simp only [List.set_cons_zero, List.set_cons_succ] at hM7
                  have hb7 : Hid (∀ c ∈ L ++ [⟨[0, (L.length : Int) - 1], noF⟩], c.body.bulk ≤ 2 * Bn + 20000 ∧ c.refs.length ≤ Rn + 20) := Lib.hid fun c hc => by
                    rcases List.mem_append.1 hc with h | h
                    · exact hb.out c h
                    · rw [List.mem_singleton.1 h]; simp [noF, Fm.bulk, fbulks] <;> omega
                  have hL7 : (L ++ [(⟨[0, (L.length : Int) - 1], noF⟩ : Cl)]).length = L.length + 1 := by simp
                  generalize L ++ [(⟨[0, (L.length : Int) - 1], noF⟩ : Cl)] = L7 at *
                  obtain ⟨na, nc, rfl, -⟩ := hM7.form 0 rfl
                  clear hM5 hM6 hS
                  go_wp2_with fail
                  go_roundw
                  case rel => exact ⟨L7, _, hM7, hb7, by omega, by omega⟩
                  case measure => simp only [lenV]; omega
                · have hI5 : IntsR H5 (.slice (some ⟨w5.heap.size, 1, none⟩) 1 1) [(L.length : Int) - 1] := by simpa [Addr.add] using hI3
                  clear hI2 hI3
                  have hM6 := hM5.ext (Ext.new w6 (.cells #[.slice (some ⟨w5.heap.size, 1, none⟩) 1 1, .int .i64 0, .int .i64 0, .slice none 0 0, .slice none 0 0] 58))
                  have hS := Src.lit1 (H := H5) (E := ClR) (sz := 5) (w := World.alloc w6 (.cells #[.slice (some ⟨w5.heap.size, 1, none⟩) 1 1, .int .i64 0, .int .i64 0, .slice none 0 0, .slice none 0 0] 58)) (b := World.heap w6 |>.size) (x := ⟨[(L.length : Int) - 1], noF⟩) (cs := [.slice (some ⟨w5.heap.size, 1, none⟩) 1 1, .int .i64 0, .int .i64 0, .slice none 0 0, .slice none 0 0]) ⟨_, _, rfl, hI5, noF_R _⟩ rfl (fun j => by rw [(Proofs.YtnpnjcaomakehaaGreat.Own.new _ _ _).facts.1]; simp)
                  go_wp2_with (first | (at_builtin; refine wpList_append_M 0 rfl _ _ 24 rfl Tryz.underlying24 infoCl rfl rfl rfl (hM6) rfl (hS) one_ClR ?g1 ?g2 ?g3))
                  case g1 => simp; omega
                  case g2 => simp; omega
                  case g3 =>
                  intro v7 w7 hM7
                  try simp only [List.set_cons_zero, List.set_cons_succ] at hM7
                  have hb7 : Hid (∀ c ∈ L ++ [⟨[(L.length : Int) - 1], noF⟩], c.body.bulk ≤ 2 * Bn + 20000 ∧ c.refs.length ≤ Rn + 20) := Lib.hid fun c hc => by
                    rcases List.mem_append.1 hc with h | h
                    · exact hb.out c h
                    · rw [List.mem_singleton.1 h]; simp [noF, Fm.bulk, fbulks] <;> omega
                  have hL7 : (L ++ [(⟨[(L.length : Int) - 1], noF⟩ : Cl)]).length = L.length + 1 := by simp
                  generalize L ++ [(⟨[(L.length : Int) - 1], noF⟩ : Cl)] = L7 at *
                  obtain ⟨na, nc, rfl, -⟩ := hM7.form 0 rfl
                  clear hM5 hM6 hS
                  go_wp2_with fail
                  go_roundw
                  case rel => exact ⟨L7, _, hM7, hb7, by omega, by omega⟩
                  case measure => simp only [lenV]; omega
              · have b0 : decide ((L.length : Int) < 30 + (r : Int)) = false := by simp; omega
                go_wp2_with fail
                refine RetV_at (hard4.out _) ?_
                intro w5 hx5
                go_wp2_with fail
                go_meet
                case rel => exact ⟨L, H, hM.ext hx5, hb.out, by omega⟩
          · -- a claim with many references
            obtain ⟨H3, hl3, hM3, hR3⟩ := hM.freezeS 1 rfl
            simp only [List.set_cons_zero, List.set_cons_succ] at hM3
            have hMF := (hM3.fill 0 rfl (c' := X) ⟨_, _, rfl, hR3, mono_FmR _ _ _ _ hM3.le hE⟩ i hop.out (fun x hx => by rw [hxi.out] at hx; cases hx; rfl)).pick [0] (by decide)
            rw [hmap.out] at hMF
            simp only [List.set_cons_succ, List.set_cons_zero, List.map_cons, List.map_nil, List.getElem?_cons_zero, Option.getD_some] at hMF
            have hLl : (l.set i X).length = xs.length := by rw [List.length_set, ← hmap.out, List.length_map]
            have hbF : Hid (∀ c ∈ l.set i X, c.body.bulk ≤ 2 * Bn + 20000 ∧ c.refs.length ≤ Rn + 20) := Lib.hid fun c hc => by
              rcases List.mem_or_eq_of_mem_set hc with h | h
              · have := hbl.out c h; omega
              · rw [h]; omega
            generalize l.set i X = L0 at *
            clear hM hM3 hR3 g0 g1 g2 g3 g4
            obtain ⟨j0, j1⟩ := aroundV_range ib (show (0 : Int) < 3 by omega)
            have hard3 := Lib.hid (fun w => around_c by' 3 w ib (by omega) (by omega))
            generalize aroundV by' 3 = rr at *
            obtain ⟨r, rfl⟩ : ∃ r : Nat, rr = r := ⟨rr.toNat, by omega⟩
            have hw7 : IntKind.i64.wrap (7 + (r : Int)) = 7 + (r : Int) := wrap_id (by omega) (by omega)
            replace hMF := hMF.nil mono_IntR 1 3
            simp only [List.cons_append, List.nil_append] at hMF
            go_wp2_with fail
            go_loopw [9, 12, 13] (fun ov rv vi wr => ∃ (m : Nat) (L : List Cl) (rs : List Int) (H : PH), m ≤ 7 + r ∧ vi = .int .i64 m ∧ Mem w H0 [own mono_ClR 5 58 ov L, own mono_IntR 1 3 rv rs] H wr ∧ Hid (∀ c ∈ L, c.body.bulk ≤ 2 * Bn + 20000 ∧ c.refs.length ≤ Rn + 20) ∧ L.length ≤ Ln + m ∧ rs.length ≤ m) (fun _ _ vi _ => 7 + r - (intOf vi).toNat)
            case atStart => exact ⟨0, L0, [], H3, by omega, rfl, hMF, hbF, by omega, by simp⟩
            case round =>
              clear hMF hbF
              obtain ⟨m, L, rs, H, hm, rfl, hM, hb, hL1, hr1⟩ := hrel
              obtain ⟨oa, oc, rfl, -⟩ := hM.form 0 rfl
              obtain ⟨ra, rc, rfl, -⟩ := hM.form 1 rfl
              by_cases hlt : m < 7 + r
              · have b0 : decide ((m : Int) < 7 + (r : Int)) = true := by simp; omega
                go_wp2_with fail
                refine RetV_at (hard3.out _) ?_
                intro w5 hx5
                have hM5 := hM.ext hx5
                have hI5 : IntsR H (.slice none 0 0) [] := SliceRep.nil _ _ _
                obtain ⟨H5, rfl⟩ : ∃ H5, H5 = H := ⟨_, rfl⟩
                clear hM hx5
                have hM6 := hM5.ext (Ext.new w5 (.cells #[.slice none 0 0, .int .i64 0, .int .i64 0, .slice none 0 0, .slice none 0 0] 58))
                have hS := Src.lit1 (H := H5) (E := ClR) (sz := 5) (w := World.alloc w5 (.cells #[.slice none 0 0, .int .i64 0, .int .i64 0, .slice none 0 0, .slice none 0 0] 58)) (b := World.heap w5 |>.size) (x := ⟨[], noF⟩) (cs := [.slice none 0 0, .int .i64 0, .int .i64 0, .slice none 0 0, .slice none 0 0]) ⟨_, _, rfl, hI5, noF_R _⟩ rfl (fun j => by rw [(Proofs.YtnpnjcaomakehaaGreat.Own.new _ _ _).facts.1]; simp)
                go_wp2_with (first | (at_builtin; refine wpList_append_M 0 rfl _ _ 24 rfl Tryz.underlying24 infoCl rfl rfl rfl (hM6) rfl (hS) one_ClR ?g1 ?g2 ?g3))
                case g1 => simp; omega
                case g2 => simp; omega
                case g3 =>
                intro v7 w7 hM7
                try simp only [List.set_cons_zero, List.set_cons_succ] at hM7
                have hb7 : Hid (∀ c ∈ L ++ [⟨[], noF⟩], c.body.bulk ≤ 2 * Bn + 20000 ∧ c.refs.length ≤ Rn + 20) := Lib.hid fun c hc => by
                  rcases List.mem_append.1 hc with h | h
                  · exact hb.out c h
                  · rw [List.mem_singleton.1 h]; simp [noF, Fm.bulk, fbulks] <;> omega
                have hL7 : (L ++ [(⟨[], noF⟩ : Cl)]).length = L.length + 1 := by simp
                generalize L ++ [(⟨[], noF⟩ : Cl)] = L7 at *
                obtain ⟨na, nc, rfl, -⟩ := hM7.form 0 rfl
                clear hM5 hM6 hS
                have hM8 := hM7.ext (Ext.new w7 (.cells #[.int .i64 (m : Int)] 3))
                have hS8 := Src.lit1 (H := H5) (E := IntR) (sz := 1) (w := w7.alloc (.cells #[.int .i64 (m : Int)] 3)) (b := w7.heap.size) (x := (m : Int)) (cs := [.int .i64 (m : Int)]) ⟨rfl, by unfold I64; omega⟩ rfl (fun j => by rw [(Proofs.YtnpnjcaomakehaaGreat.Own.new _ _ _).facts.1]; simp)
                go_wp2_with (first | (at_builtin; refine wpList_append_M 1 rfl _ _ 22 rfl Tryz.underlying22 infoInt rfl rfl rfl hM8 rfl hS8 one_IntR (by simp; omega) (by simp; omega) ?f8))
                case f8 =>
                intro v9 w9 hM9
                try simp only [List.set_cons_zero, List.set_cons_succ] at hM9
                have hr9 : (rs ++ [(m : Int)]).length ≤ m + 1 := by simp; omega
                generalize rs ++ [(m : Int)] = rs9 at *
                clear hM7 hM8 hS8
                go_wp2_with fail
                go_roundw
                case rel => exact ⟨m + 1, L7, rs9, _, by omega, by go_num, hM9, hb7, by omega, hr9⟩
                case measure => simp [intOf]; omega
              · have b0 : decide ((m : Int) < 7 + (r : Int)) = false := by simp; omega
                go_wp2_with fail
                refine RetV_at (hard3.out _) ?_
                intro w5 hx5
                obtain ⟨H5, hl5, hN5, hI5⟩ := (hM.ext hx5).freezeS 1 rfl
                have hM5 := hN5.pick [0] (by decide)
                simp only [List.set_cons_succ, List.set_cons_zero, List.map_cons, List.map_nil, List.getElem?_cons_zero, Option.getD_some] at hM5
                clear hM hx5 hN5
                have hM6 := hM5.ext (Ext.new w5 (.cells #[.slice ra rs.length rc, .int .i64 0, .int .i64 0, .slice none 0 0, .slice none 0 0] 58))
                have hS := Src.lit1 (H := H5) (E := ClR) (sz := 5) (w := World.alloc w5 (.cells #[.slice ra rs.length rc, .int .i64 0, .int .i64 0, .slice none 0 0, .slice none 0 0] 58)) (b := World.heap w5 |>.size) (x := ⟨rs, noF⟩) (cs := [.slice ra rs.length rc, .int .i64 0, .int .i64 0, .slice none 0 0, .slice none 0 0]) ⟨_, _, rfl, hI5, noF_R _⟩ rfl (fun j => by rw [(Proofs.YtnpnjcaomakehaaGreat.Own.new _ _ _).facts.1]; simp)
                go_wp2_with (first | (at_builtin; refine wpList_append_M 0 rfl _ _ 24 rfl Tryz.underlying24 infoCl rfl rfl rfl (hM6) rfl (hS) one_ClR ?g1 ?g2 ?g3))
                case g1 => simp; omega
                case g2 => simp; omega
                case g3 =>
                intro v7 w7 hM7
                try simp only [List.set_cons_zero, List.set_cons_succ] at hM7
                have hb7 : Hid (∀ c ∈ L ++ [⟨rs, noF⟩], c.body.bulk ≤ 2 * Bn + 20000 ∧ c.refs.length ≤ Rn + 20) := Lib.hid fun c hc => by
                  rcases List.mem_append.1 hc with h | h
                  · exact hb.out c h
                  · rw [List.mem_singleton.1 h]; simp [noF, Fm.bulk, fbulks] <;> omega
                have hL7 : (L ++ [(⟨rs, noF⟩ : Cl)]).length = L.length + 1 := by simp
                generalize L ++ [(⟨rs, noF⟩ : Cl)] = L7 at *
                obtain ⟨na, nc, rfl, -⟩ := hM7.form 0 rfl
                clear hM5 hM6 hS
                go_wp2_with fail
                go_meet
                case rel => exact ⟨L7, _, hM7, hb7.out, by omega⟩
          · -- the claim itself as a reference
            have hii : I64 (i : Int) := by unfold I64; omega
            have hM5 := (hM.new' #[.int .i64 (i : Int)] 3 (n := w2.heap.size) rfl).asOwn 2 rfl mono_IntR (sz := 1) (xs := [(i : Int)]) (n := 1) (by simp) (by simp [maxLen]) rfl ⟨_, [], rfl, rfl, ⟨rfl, hii⟩, rfl⟩
            simp only [List.cons_append, List.nil_append, List.set_cons_zero, List.set_cons_succ, List.length_cons, List.length_nil, Nat.zero_add] at hM5
            have hS := hM5.src 1 rfl
            go_wp2_with (first | (at_builtin; refine wpList_append_M 2 rfl _ _ 22 rfl Tryz.underlying22 infoInt rfl rfl rfl hM5 rfl hS one_IntR (by simp; omega) (by simp; omega) ?f5))
            case f5 =>
            intro v7 w7 hM7
            try simp only [List.set_cons_zero, List.set_cons_succ] at hM7
            try simp only [List.cons_append, List.nil_append] at hM7
            have hrs2 : ((i : Int) :: X.refs).length ≤ Rn + 20 := by simp; omega
            generalize (i : Int) :: X.refs = rs2 at hM7 hrs2
            obtain ⟨na, nc, rfl, -⟩ := hM7.form 2 rfl
            obtain ⟨g8, k8, e8, f8, ⟨u8, t8⟩, l8, hM8⟩ := (hM7).setAt 0 rfl i 0 (by omega) hxi.out (u := (.slice na rs2.length nc)) (x' := (X, some ((clC X ra rc a3 c3 a4 c4).set 0 (.slice na rs2.length nc)))) (fun cs h => ClO.set rfl h)
            cases e8
            simp only [List.set_cons_zero, List.set_cons_succ, Nat.add_zero] at hM8 f8 t8
            clear hM hM5 hM7 hS g0 g1 g2 g3 g4
            go_wp2_with fail
            go_meet
            case rel =>
              obtain ⟨H9, hl9, hM9, hR9⟩ := hM8.freezeS 2 rfl
              simp only [List.set_cons_zero, List.set_cons_succ] at hM9
              exact SpX.of (fill_set i hmap.out hop.out hixs hM9 (c' := ⟨rs2, X.body⟩) ⟨_, _, rfl, hR9, mono_FmR _ _ _ _ hM9.le hE⟩) hbl.out hlen (by constructor <;> first | (dsimp only; omega) | (simp; done) | (simp; omega))
        case rest =>
          obtain ⟨L, H9, hM9, hb9, hL9⟩ := hcut
          obtain ⟨za, zc, rfl, -⟩ := hM9.form 0 rfl
          replace hb9 := Lib.hid hb9
          clear hM
          go_wp2_with fail
          go_ret
          exact ⟨_, L, rfl, hM9.repUp 0 rfl, hb9.out, hL9, hM9.ex⟩
end Go.Proofs.YtnpnjcaomakehaaGreat
