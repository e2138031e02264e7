/- Lemmas for FY, part 14: package formula: joined, and more. -/
import Derived.Laws.EntriesVeiled
import Derived.Deep.CutBlock
import Derived.Test.YtnpnjcaomakehaaGreatFY01
import Derived.Test.YtnpnjcaomakehaaGreatFY03
import Derived.Test.YtnpnjcaomakehaaGreatFY04
import Derived.Test.YtnpnjcaomakehaaGreatFY07
import Derived.Test.YtnpnjcaomakehaaGreatFY10
import Derived.Test.YtnpnjcaomakehaaGreatFY11
import Derived.Test.YtnpnjcaomakehaaGreatFY12
set_option linter.unusedSimpArgs false
set_option linter.unusedVariables false
namespace Go.Proofs.YtnpnjcaomakehaaGreat
open Go.RowKit Go.Shelf
theorem fddP_law : ∀ (l : List Fm) (d : Option Fm), l.Pairwise (fun x y : Fm => fcmpJ x y ≤ 0) → (∀ y, d = some y → ∀ x ∈ l, fcmpJ y x ≤ 0) →
    ascF (fddP d l) ∧ (∀ x ∈ fddP d l, x ∈ l ∧ ∀ y, d = some y → fcmpJ y x < 0) ∧ ∀ x ∈ l, x ∈ fddP d l ∨ d = some x
  | [], d, _, _ => ⟨List.Pairwise.nil, fun x (hx : x ∈ []) => (by cases hx), fun x (hx : x ∈ []) => (by cases hx)⟩
  | z :: l, d, hp, hd => by
    obtain ⟨hp1, hp2⟩ := List.pairwise_cons.1 hp
    obtain ⟨i1, i2, i3⟩ := fddP_law l (some z) hp2 (fun y hy x hx => by cases hy; exact hp1 x hx)
    rw [fddP]
    split
    · rename_i h
      refine ⟨i1, fun x hx => ⟨by simp [(i2 x hx).1], fun y hy => ?_⟩, fun x hx => ?_⟩
      · rw [h] at hy; exact (i2 x hx).2 y hy
      · rcases List.mem_cons.1 hx with rfl | hx
        · exact .inr h
        · rcases i3 x hx with h3 | h3
          · exact .inl h3
          · exact .inr (h.trans h3)
    · rename_i h
      have hlt : ∀ y, d = some y → fcmpJ y z < 0 := fun y hy => by
        have h1 := hd y hy z (by simp)
        have h2 : fcmpJ y z ≠ 0 := fun e => h (by rw [hy, fcmpJ_0.1 e])
        omega
      refine ⟨List.pairwise_cons.2 ⟨fun x hx => (i2 x hx).2 z rfl, i1⟩, fun x hx => ?_, fun x hx => ?_⟩
      · rcases List.mem_cons.1 hx with rfl | hx
        · exact ⟨by simp, hlt⟩
        · exact ⟨by simp [(i2 x hx).1], fun y hy => fcmpJ_lt (hlt y hy) (hp1 x (i2 x hx).1)⟩
      · rcases List.mem_cons.1 hx with rfl | hx
        · exact .inl (by simp)
        · rcases i3 x hx with h3 | h3
          · exact .inl (by simp [h3])
          · cases h3; exact .inl (by simp)
theorem fdd_sorted {l m : List Fm} (hm : m.Perm l) (hp : m.Pairwise (fun x y : Fm => fcmpJ x y ≤ 0)) : fdd m = sortF l := by
  obtain ⟨h1, h2, h3⟩ := fddP_law m none hp (fun y hy => by cases hy)
  refine asc_uniq h1 (sortF_asc l) fun x => ?_
  rw [sortF_mem, ← hm.mem_iff]
  exact ⟨fun hx => (h2 x hx).1, fun hx => (h3 x hx).resolve_right (by simp)⟩
theorem allF_snoc (op : Int) (l : List Fm) (x : Fm) : allF op (l ++ [x]) = allF op l ++ if x.op = op then x.kids else [x] := by
  unfold allF; rw [List.flatMap_append, List.flatMap_cons, List.flatMap_nil, List.append_nil]
theorem bulk_len (l : List Fm) : l.length ≤ sumN Fm.bulk l := length_le_sumN Fm.bulk l fun x _ => x.bulk_pos
theorem allF_len (op : Int) (l : List Fm) : (allF op l).length ≤ sumN Fm.bulk l := Nat.le_trans (bulk_len _) (all_sum Fm.bulk op kids_bulk l)
theorem FmR.kids_rep {H : PH} {x : Fm} {a3 a4 : Option Addr} {c3 c4 : Nat} (h : FmR H (fmC x a3 c3 a4 c4) x) : FmsR H (.slice a4 x.kids.length c4) x.kids := by
  obtain ⟨p3, q3, p4, q4, e, -, -, -, -, -, hk⟩ := h.form
  simp only [fmC, List.cons.injEq, Value.slice.injEq, true_and, and_true] at e
  obtain ⟨-, e1, e2⟩ := e
  rw [e1, e2]; exact hk
set_option maxRecDepth 100000 in
set_option maxHeartbeats 8000000 in
theorem joined_c {H : PH} (op : Int) (kids : List Fm) (v : Value) (w : World) (hl : PLe H (ph w)) (hr : FmsR H v kids) (hop : op = 4 ∨ op = 5) (hb : sumN Fm.bulk kids ≤ 400000) :
    Calls Tryz.prog 138 #[.int .i64 op, v] w (NewF w H (joinF op kids)) := by
  obtain ⟨a, c, rfl, -, hr⟩ := hr.form
  have hkl := bulk_len kids
  have hM0 := ((Mem.start w H hl).nil mono_FmR 4 50).new' #[.int .i64 0, .int .i64 0, .slice none 0 0, .slice none 0 0] 50 (n := w.heap.size) rfl
  simp only [List.cons_append, List.nil_append] at hM0
  go_enter Tryz.func138, Tryz.ntmps138
  go_upto_region 1 with (fail)
  generalize World.alloc _ _ = w1 at *
  generalize hg1 : w.heap.size = g1 at *
  go_wp2_with fail
  go_loopw [5, 11] (fun u i wr => ∃ (k : Nat) (out : List Fm), k ≤ kids.length ∧ i = .int .i64 k ∧ Mem w H [ownFm u out, box g1 #[.int .i64 0, .int .i64 0, .slice none 0 0, .slice none 0 0] 50] H wr ∧ Hid (out = allF op (kids.take k)) ∧ out.length ≤ 400000) (fun _ i _ => kids.length - (intOf i).toNat)
  case atStart => exact ⟨0, [], by omega, rfl, hM0, Lib.hid (by simp [allF]), by simp⟩
  case round =>
    clear hM0
    obtain ⟨k, out, hk2, rfl, hM, hout, hol⟩ := hrel
    obtain ⟨va, vc, rfl, -⟩ := hM.form 0 rfl
    by_cases hlt : k < kids.length
    · obtain ⟨kb, ko, k3, m3, k4, m4, ek, z0, z1, z2, z3, hE, zl⟩ := FmsR.atH hr hM.ple k hlt
      cases ek
      have hsn := allF_snoc op (kids.take k) kids[k]
      rw [← List.take_succ_eq_append_getElem hlt] at hsn
      have hnl := allF_len op (kids.take (k + 1))
      have hst := sumN_take_le Fm.bulk kids (k + 1)
      have hxb := sumN_mem Fm.bulk (List.getElem_mem hlt)
      have hxk := kids[k].kids_le
      generalize kids[k] = x at *
      rw [← hout.out] at hsn
      go_upto_region 5 with (fail)
      have hM3 := hM.ext (Ext.new wr (.cells #[.int .i64 x.op, .int .i64 x.n, .slice k3 x.inn.length m3, .slice k4 x.kids.length m4] 50))
      have o7 := Proofs.YtnpnjcaomakehaaGreat.Own.new wr #[.int .i64 x.op, .int .i64 x.n, .slice k3 x.inn.length m3, .slice k4 x.kids.length m4] 50
      clear hM
      generalize wr.alloc _ = w3 at *
      generalize wr.heap.size = g7 at *
      have y0 : w3.cell? ⟨g7, 0, none⟩ = some (.int .i64 x.op) := o7.facts.1 0
      have y1 : w3.cell? ⟨g7, 1, none⟩ = some (.int .i64 x.n) := o7.facts.1 1
      have y2 : w3.cell? ⟨g7, 2, none⟩ = some (.slice k3 x.inn.length m3) := o7.facts.1 2
      have y3 : w3.cell? ⟨g7, 3, none⟩ = some (.slice k4 x.kids.length m4) := o7.facts.1 3
      have yl := o7.lt
      clear o7 z0 z1 z2 z3 zl
      by_cases hxo : x.op = op
      · rw [if_pos hxo] at hsn
        have bx : (x.op == op) = true := by simpa using hxo
        have hS := Src.ofRep (w := w3) (FmR.kids_rep hE) hM3.ple
        have hln : out.length + x.kids.length ≤ 400000 := by
          have := congrArg List.length hsn
          rw [List.length_append] at this; omega
        replace hsn := Lib.hid hsn
        clear hxo hE hst hnl
        go_wp2_with (first | (at_builtin; refine wpList_append_M 0 rfl _ _ 45 rfl Tryz.underlying45 infoFm rfl rfl rfl hM3 rfl hS one_FmR (by omega) (by omega) ?c5))
        case c5 =>
        intro v' w' hM6
        try simp only [List.set_cons_zero, List.set_cons_succ] at hM6
        clear hM3 hS y0 y1 y2 y3 yl
        obtain ⟨na, nc, rfl, -⟩ := hM6.form 0 rfl
        go_wp2_with fail
        go_roundw
        case rel => exact ⟨k + 1, out ++ x.kids, by omega, by go_num, hM6, Lib.hid (by rw [hsn.out]), by simp; omega⟩
        case measure => simp [intOf]; omega
      · rw [if_neg hxo] at hsn
        have bx : (x.op == op) = false := by simpa using hxo
        have hln : out.length + 1 ≤ 400000 := by
          have := congrArg List.length hsn
          rw [List.length_append] at this; simp at this; omega
        replace hsn := Lib.hid hsn
        have hM5 := hM3.ext (Ext.new w3 (.cells #[.int .i64 x.op, .int .i64 x.n, .slice k3 x.inn.length m3, .slice k4 x.kids.length m4] 50))
        have hS := Src.lit1 (E := FmR) (H := H) (w := w3.alloc (.cells #[.int .i64 x.op, .int .i64 x.n, .slice k3 x.inn.length m3, .slice k4 x.kids.length m4] 50)) (b := w3.heap.size) (sz := 4) hE rfl (fun j => by rw [(Proofs.YtnpnjcaomakehaaGreat.Own.new w3 #[.int .i64 x.op, .int .i64 x.n, .slice k3 x.inn.length m3, .slice k4 x.kids.length m4] 50).facts.1 j]; simp [fmC])
        clear hxo hE hst hnl
        go_wp2_with (first | (at_builtin; refine wpList_append_M 0 rfl _ _ 45 rfl Tryz.underlying45 infoFm rfl rfl rfl hM5 rfl hS one_FmR (by simp; omega) (by simp; omega) ?c5))
        case c5 =>
        intro v' w' hM6
        try simp only [List.set_cons_zero, List.set_cons_succ] at hM6
        clear hM3 hM5 hS y0 y1 y2 y3 yl
        obtain ⟨na, nc, rfl, -⟩ := hM6.form 0 rfl
        go_wp2_with fail
        go_roundw
        case rel => exact ⟨k + 1, out ++ [x], by omega, by go_num, hM6, Lib.hid (by rw [hsn.out]), by simp; omega⟩
        case measure => simp [intOf]; omega
    · obtain rfl : k = kids.length := by omega
      rw [List.take_length] at hout
      have hj : Hid (joinF op kids = if op = 4 ∧ out.any neverB = true then neverF
          else if op = 5 ∧ (out.any fun g => decide (g.op = 0)) = true then noF
          else match sortF (out.filter fun g => !decide (g.op = 0)) with
            | [x] => x
            | [] => if op = 4 then noF else .mk op 0 [] []
            | out => .mk op 0 [] out) := by
        show _ = _; rw [hout.out]; rfl
      generalize joinF op kids = J at *
      clear hout hr
      have hcN := fun W (e : Ext wr W) => containsFm_P (H := ph W) 106 #[] _ out ((hM.ext e).rep 0 rfl) neverB W (PLe.refl _) (fun args w => enterFn Tryz.func106 rfl rfl args w) (fun x hx W' cs e' hc => isNever_c x cs W' (mono_FmR _ _ _ _ e'.ple hc))
      have hcA := fun W (e : Ext wr W) => containsFm_P (H := ph W) 159 #[] _ out ((hM.ext e).rep 0 rfl) (fun g => decide (g.op = 0)) W (PLe.refl _) (fun args w => enterFn Tryz.func159 rfl rfl args w) (fun x hx W' cs e' hc => join1_c x cs W' (mono_FmR _ _ _ _ e'.ple hc))
      rcases hop with rfl | rfl
      · have ho : I64 4 := by simp [I64]
        have n4 : ((4 : Int) == 4) = true := rfl
        have n5 : ((4 : Int) == 5) = false := rfl
        clear hcA
        cases hn : out.any neverB with
        | true =>
          have hJ : Hid (J = neverF) := by show _ = _; rw [hj.out, if_pos ⟨rfl, hn⟩]
          rw [hn] at hcN
          replace hcN := Lib.hid hcN
          clear hj hn
          go_wp2_with fail
          refine RetV_at (hcN.out _ xE) ?_
          intro w2 hx2
          have hM2 := hM.ext hx2
          clear hM hx2 hcN
          go_wp2_with fail
          refine (never_c H w2 hM2.ple).mono ?_
          rintro e w3 ⟨rfl, hx3⟩
          have hM3 := hM2.ext hx3
          clear hM2 hx3
          have rz0 : _ = some (Value.int .i64 0) := (hM3.box 1 rfl).facts.1 0
          have rz1 : _ = some (Value.int .i64 0) := (hM3.box 1 rfl).facts.1 1
          have rz2 : _ = some (Value.slice none 0 0) := (hM3.box 1 rfl).facts.1 2
          have rz3 : _ = some (Value.slice none 0 0) := (hM3.box 1 rfl).facts.1 3
          obtain ⟨-, rzf⟩ := (hM3.box 1 rfl).facts
          have rzl := (hM3.box 1 rfl).lt
          have hM8 := hM3.set4 1 rfl (.int .i64 neverF.op) (.int .i64 neverF.n) (.slice none neverF.inn.length 0) (.slice none neverF.kids.length 0)
          simp only [List.set_cons_zero, List.set_cons_succ] at hM8
          clear hM3
          go_wp2_with fail
          generalize World.setCell _ _ _ = w9 at *
          obtain ⟨rq', -⟩ := (hM8.box 1 rfl).facts
          have rq0 : _ = some ((.int .i64 neverF.op) : Value) := rq' 0
          have rq1 : _ = some ((.int .i64 neverF.n) : Value) := rq' 1
          have rq2 : _ = some ((.slice none neverF.inn.length 0) : Value) := rq' 2
          have rq3 : _ = some ((.slice none neverF.kids.length 0) : Value) := rq' 3
          refine bodyPost_ret (v := .agg #[(.int .i64 neverF.op), (.int .i64 neverF.n), (.slice none neverF.inn.length 0), (.slice none neverF.kids.length 0)]) (by simp [results, Tryz.results138, go_sem, rq0, rq1, rq2, rq3]) rfl ?_
          exact ⟨none, 0, none, 0, by rw [hJ.out], hM8.ex, by rw [hJ.out]; exact neverF_R _⟩
        | false =>
          replace hj : Hid (J = match sortF (out.filter fun g => !decide (g.op = 0)) with
            | [x] => x
            | [] => noF
            | out => .mk 4 0 [] out) := by
            show _ = _
            rw [hj.out, if_neg (fun h => by rw [hn] at h; cases h.2), if_neg (fun h => by cases h.1)]; rfl
          rw [hn] at hcN
          replace hcN := Lib.hid hcN
          clear hn
          go_upto_region 11 with (fail)
          refine RetV_at (hcN.out _ xE) ?_
          intro wz hxz
          replace hM := hM.ext hxz
          clear hxz hcN
          have hD := delFm_c (fun g => decide (g.op = 0)) 159 #[] _ out w wz H H [box g1 #[.int .i64 0, .int .i64 0, .slice none 0 0, .slice none 0 0] 50] hM (by omega) (fun args w => enterFn Tryz.func159 rfl rfl args w) (fun W cs x hW hc => join1_c x cs W (mono_FmR _ _ _ _ hW hc))
          have hfl := List.length_filter_le (fun g : Fm => !decide (g.op = 0)) out
          replace hfl : ((out.filter fun g => !decide (g.op = 0)).length ≤ 400000) := by omega
          generalize (out.filter fun g => !decide (g.op = 0)) = F at *
          clear hM
          go_wp2_with fail
          refine hD.mono ?_
          rintro e w3 ⟨v3, rfl, hM3⟩
          obtain ⟨p, q, rfl, -⟩ := hM3.form 0 rfl
          have hS := sortFm_c H _ F w3 hM3.ple (fun k hk => (hM3.fr 0 _ rfl k hk).2) (hM3.ok 0 _ rfl) (by omega)
          clear hD
          go_wp2_with fail
          refine hS.mono ?_
          rintro e w4 ⟨rfl, xs, hp, hpw, hO, hg⟩
          have hM4 := hM3.put 0 rfl (c' := ownFm (.slice p F.length q) xs) hO (fun k hk => .inl hk) (hM3.ex.grown hg fun k hk => (hM3.fr 0 _ rfl k hk).1) fun k hk hne => hg.block k hk (fun e => hne e.symm)
          simp only [List.set_cons_zero] at hM4
          have hxl : xs.length ≤ 400000 := by rw [hp.length_eq]; exact hfl
          have hC := compactFm_c _ xs w w4 H H _ hM4 (by omega)
          rw [fdd_sorted hp hpw] at hC
          generalize sortF F = R at *
          clear hS hM3 hO hg hp hpw hM4 hxl
          go_wp2_with fail
          refine hC.mono ?_
          rintro e w5 ⟨v5, rfl, hM5⟩
          clear hC
          obtain ⟨p5, q5, rfl, -⟩ := hM5.form 0 rfl
          by_cases h1 : ∃ x, R = [x]
          · obtain ⟨x, rfl⟩ := h1
            obtain ⟨g, a3, c3, a4, c4, rfl, hg, gc, hE⟩ := fmsM_row (k := 0) (x := x) hM5 rfl
            have hJ : Hid (J = x) := hj
            have g0 : w5.cell? ⟨g, 0, none⟩ = some (.int .i64 x.op) := by simpa using gc 0 _ rfl
            have g1' : w5.cell? ⟨g, 1, none⟩ = some (.int .i64 x.n) := by simpa using gc 1 _ rfl
            have g2 : w5.cell? ⟨g, 2, none⟩ = some (.slice a3 x.inn.length c3) := by simpa using gc 2 _ rfl
            have g3 : w5.cell? ⟨g, 3, none⟩ = some (.slice a4 x.kids.length c4) := by simpa using gc 3 _ rfl
            have b1 : ((([x] : List Fm).length : Int) == 1) = true := rfl
            clear gc hj
            have rz0 : _ = some (Value.int .i64 0) := (hM5.box 1 rfl).facts.1 0
            have rz1 : _ = some (Value.int .i64 0) := (hM5.box 1 rfl).facts.1 1
            have rz2 : _ = some (Value.slice none 0 0) := (hM5.box 1 rfl).facts.1 2
            have rz3 : _ = some (Value.slice none 0 0) := (hM5.box 1 rfl).facts.1 3
            obtain ⟨-, rzf⟩ := (hM5.box 1 rfl).facts
            have rzl := (hM5.box 1 rfl).lt
            have hM8 := hM5.set4 1 rfl (.int .i64 x.op) (.int .i64 x.n) (.slice a3 x.inn.length c3) (.slice a4 x.kids.length c4)
            simp only [List.set_cons_zero, List.set_cons_succ] at hM8
            clear hM5
            go_wp2_with fail
            generalize World.setCell _ _ _ = w9 at *
            obtain ⟨rq', -⟩ := (hM8.box 1 rfl).facts
            have rq0 : _ = some ((.int .i64 x.op) : Value) := rq' 0
            have rq1 : _ = some ((.int .i64 x.n) : Value) := rq' 1
            have rq2 : _ = some ((.slice a3 x.inn.length c3) : Value) := rq' 2
            have rq3 : _ = some ((.slice a4 x.kids.length c4) : Value) := rq' 3
            refine bodyPost_ret (v := .agg #[(.int .i64 x.op), (.int .i64 x.n), (.slice a3 x.inn.length c3), (.slice a4 x.kids.length c4)]) (by simp [results, Tryz.results138, go_sem, rq0, rq1, rq2, rq3]) rfl ?_
            exact ⟨a3, c3, a4, c4, by rw [hJ.out], hM8.ex, by rw [hJ.out]; exact mono_FmR _ _ _ _ hM8.ub hE⟩
          by_cases h0 : R = []
          · subst h0
            have hJ : Hid (J = noF) := hj
            have b1 : ((([] : List Fm).length : Int) == 1) = false := rfl
            have b0 : ((([] : List Fm).length : Int) == 0) = true := rfl
            clear hj h1
            have rz0 : _ = some (Value.int .i64 0) := (hM5.box 1 rfl).facts.1 0
            have rz1 : _ = some (Value.int .i64 0) := (hM5.box 1 rfl).facts.1 1
            have rz2 : _ = some (Value.slice none 0 0) := (hM5.box 1 rfl).facts.1 2
            have rz3 : _ = some (Value.slice none 0 0) := (hM5.box 1 rfl).facts.1 3
            obtain ⟨-, rzf⟩ := (hM5.box 1 rfl).facts
            have rzl := (hM5.box 1 rfl).lt
            have hM8 := hM5.set4 1 rfl (.int .i64 0) (.int .i64 0) (.slice none 0 0) (.slice none 0 0)
            simp only [List.set_cons_zero, List.set_cons_succ] at hM8
            clear hM5
            go_wp2_with fail
            generalize World.setCell _ _ _ = w9 at *
            obtain ⟨rq', -⟩ := (hM8.box 1 rfl).facts
            have rq0 : _ = some ((.int .i64 0) : Value) := rq' 0
            have rq1 : _ = some ((.int .i64 0) : Value) := rq' 1
            have rq2 : _ = some ((.slice none 0 0) : Value) := rq' 2
            have rq3 : _ = some ((.slice none 0 0) : Value) := rq' 3
            refine bodyPost_ret (v := .agg #[(.int .i64 0), (.int .i64 0), (.slice none 0 0), (.slice none 0 0)]) (by simp [results, Tryz.results138, go_sem, rq0, rq1, rq2, rq3]) rfl ?_
            exact ⟨none, 0, none, 0, by rw [hJ.out]; rfl, hM8.ex, by rw [hJ.out]; exact noF_R _⟩
          · have hJ : Hid (J = .mk 4 0 [] R) := by
              show _ = _
              rw [hj.out]
              split
              · rename_i x; exact absurd ⟨x, rfl⟩ h1
              · exact absurd rfl h0
              · rfl
            have b1 : ((R.length : Int) == 1) = false := by
              rw [beq_eq_false_iff_ne]; intro e; exact h1 (List.length_eq_one_iff.1 (by omega))
            have b0 : ((R.length : Int) == 0) = false := by
              rw [beq_eq_false_iff_ne]; intro e; exact h0 (List.length_eq_zero_iff.1 (by omega))
            clear hj h0 h1
            obtain ⟨H6, hl6, hM6, hR6⟩ := hM5.freezeS 0 rfl
            simp only [List.set_cons_zero] at hM6
            have hFR : FmR H6 (fmC (.mk 4 0 [] R) none 0 p5 q5) (.mk 4 0 [] R) := FmR.of (f := .mk 4 0 [] R) ho (by simp [I64, Fm.n]) (SliceRep.nil _ _ _) hR6
            clear hM5 hR6
            generalize hN0 : R.length = N at *
            have hRN := Lib.hid hN0
            clear hN0
            have rz0 : _ = some (Value.int .i64 0) := (hM6.box 1 rfl).facts.1 0
            have rz1 : _ = some (Value.int .i64 0) := (hM6.box 1 rfl).facts.1 1
            have rz2 : _ = some (Value.slice none 0 0) := (hM6.box 1 rfl).facts.1 2
            have rz3 : _ = some (Value.slice none 0 0) := (hM6.box 1 rfl).facts.1 3
            obtain ⟨-, rzf⟩ := (hM6.box 1 rfl).facts
            have rzl := (hM6.box 1 rfl).lt
            have hM8 := hM6.set4 1 rfl (.int .i64 4) (.int .i64 0) (.slice none 0 0) (.slice p5 N q5)
            simp only [List.set_cons_zero, List.set_cons_succ] at hM8
            clear hM6
            go_wp2_with fail
            generalize World.setCell _ _ _ = w9 at *
            obtain ⟨rq', -⟩ := (hM8.box 1 rfl).facts
            have rq0 : _ = some ((.int .i64 4) : Value) := rq' 0
            have rq1 : _ = some ((.int .i64 0) : Value) := rq' 1
            have rq2 : _ = some ((.slice none 0 0) : Value) := rq' 2
            have rq3 : _ = some ((.slice p5 N q5) : Value) := rq' 3
            refine bodyPost_ret (v := .agg #[(.int .i64 4), (.int .i64 0), (.slice none 0 0), (.slice p5 N q5)]) (by simp [results, Tryz.results138, go_sem, rq0, rq1, rq2, rq3]) rfl ?_
            exact ⟨none, 0, p5, q5, by rw [hJ.out, ← hRN.out]; rfl, hM8.ex, by rw [hJ.out]; exact mono_FmR _ _ _ _ hM8.ub hFR⟩
      · have ho : I64 5 := by simp [I64]
        have n4 : ((5 : Int) == 4) = false := rfl
        have n5 : ((5 : Int) == 5) = true := rfl
        clear hcN
        cases hn : out.any (fun g => decide (g.op = 0)) with
        | true =>
          have hJ : Hid (J = noF) := by show _ = _; rw [hj.out, if_neg (fun h => by cases h.1), if_pos ⟨rfl, hn⟩]
          rw [hn] at hcA
          replace hcA := Lib.hid hcA
          clear hj hn
          go_wp2_with fail
          refine RetV_at (hcA.out _ xE) ?_
          intro w2 hx2
          have hM2 := hM.ext hx2
          clear hM hx2 hcA
          have rz0 : _ = some (Value.int .i64 0) := (hM2.box 1 rfl).facts.1 0
          have rz1 : _ = some (Value.int .i64 0) := (hM2.box 1 rfl).facts.1 1
          have rz2 : _ = some (Value.slice none 0 0) := (hM2.box 1 rfl).facts.1 2
          have rz3 : _ = some (Value.slice none 0 0) := (hM2.box 1 rfl).facts.1 3
          obtain ⟨-, rzf⟩ := (hM2.box 1 rfl).facts
          have rzl := (hM2.box 1 rfl).lt
          have hM8 := hM2.set4 1 rfl (.int .i64 0) (.int .i64 0) (.slice none 0 0) (.slice none 0 0)
          simp only [List.set_cons_zero, List.set_cons_succ] at hM8
          clear hM2
          go_wp2_with fail
          generalize World.setCell _ _ _ = w9 at *
          obtain ⟨rq', -⟩ := (hM8.box 1 rfl).facts
          have rq0 : _ = some ((.int .i64 0) : Value) := rq' 0
          have rq1 : _ = some ((.int .i64 0) : Value) := rq' 1
          have rq2 : _ = some ((.slice none 0 0) : Value) := rq' 2
          have rq3 : _ = some ((.slice none 0 0) : Value) := rq' 3
          refine bodyPost_ret (v := .agg #[(.int .i64 0), (.int .i64 0), (.slice none 0 0), (.slice none 0 0)]) (by simp [results, Tryz.results138, go_sem, rq0, rq1, rq2, rq3]) rfl ?_
          exact ⟨none, 0, none, 0, by rw [hJ.out]; rfl, hM8.ex, by rw [hJ.out]; exact noF_R _⟩
        | false =>
          replace hj : Hid (J = match sortF (out.filter fun g => !decide (g.op = 0)) with
            | [x] => x
            | [] => .mk 5 0 [] []
            | out => .mk 5 0 [] out) := by
            show _ = _
            rw [hj.out, if_neg (fun h => by cases h.1), if_neg (fun h => by rw [hn] at h; cases h.2)]; rfl
          rw [hn] at hcA
          replace hcA := Lib.hid hcA
          clear hn
          go_upto_region 13 with (fail)
          refine RetV_at (hcA.out _ xE) ?_
          intro wz hxz
          replace hM := hM.ext hxz
          clear hxz hcA
          have hD := delFm_c (fun g => decide (g.op = 0)) 159 #[] _ out w wz H H [box g1 #[.int .i64 0, .int .i64 0, .slice none 0 0, .slice none 0 0] 50] hM (by omega) (fun args w => enterFn Tryz.func159 rfl rfl args w) (fun W cs x hW hc => join1_c x cs W (mono_FmR _ _ _ _ hW hc))
          have hfl := List.length_filter_le (fun g : Fm => !decide (g.op = 0)) out
          replace hfl : ((out.filter fun g => !decide (g.op = 0)).length ≤ 400000) := by omega
          generalize (out.filter fun g => !decide (g.op = 0)) = F at *
          clear hM
          go_wp2_with fail
          refine hD.mono ?_
          rintro e w3 ⟨v3, rfl, hM3⟩
          obtain ⟨p, q, rfl, -⟩ := hM3.form 0 rfl
          have hS := sortFm_c H _ F w3 hM3.ple (fun k hk => (hM3.fr 0 _ rfl k hk).2) (hM3.ok 0 _ rfl) (by omega)
          clear hD
          go_wp2_with fail
          refine hS.mono ?_
          rintro e w4 ⟨rfl, xs, hp, hpw, hO, hg⟩
          have hM4 := hM3.put 0 rfl (c' := ownFm (.slice p F.length q) xs) hO (fun k hk => .inl hk) (hM3.ex.grown hg fun k hk => (hM3.fr 0 _ rfl k hk).1) fun k hk hne => hg.block k hk (fun e => hne e.symm)
          simp only [List.set_cons_zero] at hM4
          have hxl : xs.length ≤ 400000 := by rw [hp.length_eq]; exact hfl
          have hC := compactFm_c _ xs w w4 H H _ hM4 (by omega)
          rw [fdd_sorted hp hpw] at hC
          generalize sortF F = R at *
          clear hS hM3 hO hg hp hpw hM4 hxl
          go_wp2_with fail
          refine hC.mono ?_
          rintro e w5 ⟨v5, rfl, hM5⟩
          clear hC
          obtain ⟨p5, q5, rfl, -⟩ := hM5.form 0 rfl
          by_cases h1 : ∃ x, R = [x]
          · obtain ⟨x, rfl⟩ := h1
            obtain ⟨g, a3, c3, a4, c4, rfl, hg, gc, hE⟩ := fmsM_row (k := 0) (x := x) hM5 rfl
            have hJ : Hid (J = x) := hj
            have g0 : w5.cell? ⟨g, 0, none⟩ = some (.int .i64 x.op) := by simpa using gc 0 _ rfl
            have g1' : w5.cell? ⟨g, 1, none⟩ = some (.int .i64 x.n) := by simpa using gc 1 _ rfl
            have g2 : w5.cell? ⟨g, 2, none⟩ = some (.slice a3 x.inn.length c3) := by simpa using gc 2 _ rfl
            have g3 : w5.cell? ⟨g, 3, none⟩ = some (.slice a4 x.kids.length c4) := by simpa using gc 3 _ rfl
            have b1 : ((([x] : List Fm).length : Int) == 1) = true := rfl
            clear gc hj
            have rz0 : _ = some (Value.int .i64 0) := (hM5.box 1 rfl).facts.1 0
            have rz1 : _ = some (Value.int .i64 0) := (hM5.box 1 rfl).facts.1 1
            have rz2 : _ = some (Value.slice none 0 0) := (hM5.box 1 rfl).facts.1 2
            have rz3 : _ = some (Value.slice none 0 0) := (hM5.box 1 rfl).facts.1 3
            obtain ⟨-, rzf⟩ := (hM5.box 1 rfl).facts
            have rzl := (hM5.box 1 rfl).lt
            have hM8 := hM5.set4 1 rfl (.int .i64 x.op) (.int .i64 x.n) (.slice a3 x.inn.length c3) (.slice a4 x.kids.length c4)
            simp only [List.set_cons_zero, List.set_cons_succ] at hM8
            clear hM5
            go_wp2_with fail
            generalize World.setCell _ _ _ = w9 at *
            obtain ⟨rq', -⟩ := (hM8.box 1 rfl).facts
            have rq0 : _ = some ((.int .i64 x.op) : Value) := rq' 0
            have rq1 : _ = some ((.int .i64 x.n) : Value) := rq' 1
            have rq2 : _ = some ((.slice a3 x.inn.length c3) : Value) := rq' 2
            have rq3 : _ = some ((.slice a4 x.kids.length c4) : Value) := rq' 3
            refine bodyPost_ret (v := .agg #[(.int .i64 x.op), (.int .i64 x.n), (.slice a3 x.inn.length c3), (.slice a4 x.kids.length c4)]) (by simp [results, Tryz.results138, go_sem, rq0, rq1, rq2, rq3]) rfl ?_
            exact ⟨a3, c3, a4, c4, by rw [hJ.out], hM8.ex, by rw [hJ.out]; exact mono_FmR _ _ _ _ hM8.ub hE⟩
          · have hJ : Hid (J = .mk 5 0 [] R) := by
              show _ = _
              rw [hj.out]
              split
              · rename_i x; exact absurd ⟨x, rfl⟩ h1
              · rfl
              · rfl
            have b1 : ((R.length : Int) == 1) = false := by
              rw [beq_eq_false_iff_ne]; intro e; exact h1 (List.length_eq_one_iff.1 (by omega))
            clear hj h1
            by_cases h0 : R = []
            · have b0 : ((R.length : Int) == 0) = true := by rw [h0]; rfl
              clear h0
              obtain ⟨H6, hl6, hM6, hR6⟩ := hM5.freezeS 0 rfl
              simp only [List.set_cons_zero] at hM6
              have hFR : FmR H6 (fmC (.mk 5 0 [] R) none 0 p5 q5) (.mk 5 0 [] R) := FmR.of (f := .mk 5 0 [] R) ho (by simp [I64, Fm.n]) (SliceRep.nil _ _ _) hR6
              clear hM5 hR6
              generalize hN0 : R.length = N at *
              have hRN := Lib.hid hN0
              clear hN0
              have rz0 : _ = some (Value.int .i64 0) := (hM6.box 1 rfl).facts.1 0
              have rz1 : _ = some (Value.int .i64 0) := (hM6.box 1 rfl).facts.1 1
              have rz2 : _ = some (Value.slice none 0 0) := (hM6.box 1 rfl).facts.1 2
              have rz3 : _ = some (Value.slice none 0 0) := (hM6.box 1 rfl).facts.1 3
              obtain ⟨-, rzf⟩ := (hM6.box 1 rfl).facts
              have rzl := (hM6.box 1 rfl).lt
              have hM8 := hM6.set4 1 rfl (.int .i64 5) (.int .i64 0) (.slice none 0 0) (.slice p5 N q5)
              simp only [List.set_cons_zero, List.set_cons_succ] at hM8
              clear hM6
              go_wp2_with fail
              generalize World.setCell _ _ _ = w9 at *
              obtain ⟨rq', -⟩ := (hM8.box 1 rfl).facts
              have rq0 : _ = some ((.int .i64 5) : Value) := rq' 0
              have rq1 : _ = some ((.int .i64 0) : Value) := rq' 1
              have rq2 : _ = some ((.slice none 0 0) : Value) := rq' 2
              have rq3 : _ = some ((.slice p5 N q5) : Value) := rq' 3
              refine bodyPost_ret (v := .agg #[(.int .i64 5), (.int .i64 0), (.slice none 0 0), (.slice p5 N q5)]) (by simp [results, Tryz.results138, go_sem, rq0, rq1, rq2, rq3]) rfl ?_
              exact ⟨none, 0, p5, q5, by rw [hJ.out, ← hRN.out]; rfl, hM8.ex, by rw [hJ.out]; exact mono_FmR _ _ _ _ hM8.ub hFR⟩
            · have b0 : ((R.length : Int) == 0) = false := by
                rw [beq_eq_false_iff_ne]; intro e; exact h0 (List.length_eq_zero_iff.1 (by omega))
              clear h0
              obtain ⟨H6, hl6, hM6, hR6⟩ := hM5.freezeS 0 rfl
              simp only [List.set_cons_zero] at hM6
              have hFR : FmR H6 (fmC (.mk 5 0 [] R) none 0 p5 q5) (.mk 5 0 [] R) := FmR.of (f := .mk 5 0 [] R) ho (by simp [I64, Fm.n]) (SliceRep.nil _ _ _) hR6
              clear hM5 hR6
              generalize hN0 : R.length = N at *
              have hRN := Lib.hid hN0
              clear hN0
              have rz0 : _ = some (Value.int .i64 0) := (hM6.box 1 rfl).facts.1 0
              have rz1 : _ = some (Value.int .i64 0) := (hM6.box 1 rfl).facts.1 1
              have rz2 : _ = some (Value.slice none 0 0) := (hM6.box 1 rfl).facts.1 2
              have rz3 : _ = some (Value.slice none 0 0) := (hM6.box 1 rfl).facts.1 3
              obtain ⟨-, rzf⟩ := (hM6.box 1 rfl).facts
              have rzl := (hM6.box 1 rfl).lt
              have hM8 := hM6.set4 1 rfl (.int .i64 5) (.int .i64 0) (.slice none 0 0) (.slice p5 N q5)
              simp only [List.set_cons_zero, List.set_cons_succ] at hM8
              clear hM6
              go_wp2_with fail
              generalize World.setCell _ _ _ = w9 at *
              obtain ⟨rq', -⟩ := (hM8.box 1 rfl).facts
              have rq0 : _ = some ((.int .i64 5) : Value) := rq' 0
              have rq1 : _ = some ((.int .i64 0) : Value) := rq' 1
              have rq2 : _ = some ((.slice none 0 0) : Value) := rq' 2
              have rq3 : _ = some ((.slice p5 N q5) : Value) := rq' 3
              refine bodyPost_ret (v := .agg #[(.int .i64 5), (.int .i64 0), (.slice none 0 0), (.slice p5 N q5)]) (by simp [results, Tryz.results138, go_sem, rq0, rq1, rq2, rq3]) rfl ?_
              exact ⟨none, 0, p5, q5, by rw [hJ.out, ← hRN.out]; rfl, hM8.ex, by rw [hJ.out]; exact mono_FmR _ _ _ _ hM8.ub hFR⟩
theorem sumN_map_le {g : Fm → Fm} : ∀ l : List Fm, (∀ x ∈ l, (g x).bulk ≤ 2 * x.bulk) → sumN Fm.bulk (l.map g) ≤ 2 * sumN Fm.bulk l
  | [], _ => by simp [sumN]
  | x :: l, h => by
    have h1 := h x (by simp)
    have h2 := sumN_map_le l fun y hy => h y (by simp [hy])
    simp only [List.map_cons, sumN]; omega
theorem push_bulk (f : Fm) : (pushP f).bulk ≤ 2 * f.bulk ∧ (pushN f).bulk ≤ 2 * f.bulk := by
  induction f using Fm.ind with
  | h f ih =>
    have hp := sumN_map_le (g := pushP) f.kids fun x hx => (ih x hx).1
    have hn := sumN_map_le (g := pushN) f.kids fun x hx => (ih x hx).2
    have hb := f.bulk_eq
    have hpos := f.bulk_pos
    have h0 : noF.bulk = 1 := by simp [noF, Fm.bulk, fbulks]
    have h1 : neverF.bulk = 1 := by simp [neverF, Fm.bulk, fbulks]
    have hkP : (pushPF f.kids).bulk ≤ 2 * f.bulk := by
      cases hk : f.kids with
      | nil => rw [pushPF, h0]; omega
      | cons x l =>
        have hx : x ∈ f.kids := by rw [hk]; simp
        have h2 := (ih x hx).1
        have h3 := Fm.kid_le hx
        rw [pushPF]; omega
    have hkN : (pushNF f.kids).bulk ≤ 2 * f.bulk := by
      cases hk : f.kids with
      | nil => rw [pushNF, h0]; omega
      | cons x l =>
        have hx : x ∈ f.kids := by rw [hk]; simp
        have h2 := (ih x hx).2
        have h3 := Fm.kid_le hx
        rw [pushNF]; omega
    constructor
    · rw [pushP_eq]
      split
      · exact hkN
      · rw [Fm.bulk_eq (.mk _ _ _ _)]; show 1 + f.inn.length + sumN Fm.bulk (f.kids.map pushP) ≤ _; omega
    · rw [pushN_eq]
      split
      · omega
      · split
        · exact hkP
        · split
          · omega
          · split
            · rw [Fm.bulk_eq (.mk _ _ _ _)]; show 1 + f.inn.length + sumN Fm.bulk (f.kids.map pushN) ≤ _; omega
            · split
              · rw [Fm.bulk_eq (.mk _ _ _ _)]; show 1 + f.inn.length + sumN Fm.bulk (f.kids.map pushN) ≤ _; omega
              · rw [Fm.bulk_eq (.mk _ _ _ _)]
                show 1 + 0 + sumN Fm.bulk [Fm.mk f.op f.n f.inn (f.kids.map pushP)] ≤ _
                simp only [sumN]
                rw [Fm.bulk_eq (.mk _ _ _ _)]; show 1 + 0 + (1 + f.inn.length + sumN Fm.bulk (f.kids.map pushP) + 0) ≤ _; omega
def PushQ (w : World) (r : Fm × Int) (e : Ending) (w' : World) : Prop := ∃ b3 d3 b4 d4, e = .returned (.tuple #[fmV r.1 b3 d3 b4 d4, .int .i64 r.2]) ∧ Ext w w' ∧ FmR (ph w') (fmC r.1 b3 d3 b4 d4) r.1
set_option maxRecDepth 100000 in
set_option maxHeartbeats 8000000 in
theorem push_c (f : Fm) (cs : List Value) (w : World) (hr : FmR (ph w) cs f) (hf : validF f = 0) (hp : validF (pushP f) = 0) : Calls Tryz.prog 65 #[.agg cs.toArray] w (PushQ w (pushP f, 0)) := by
  have hr0 := hr
  obtain ⟨a3, c3, a4, c4, rfl, -⟩ := hr.form
  have hb := valid_bulk hf
  have hb2 := (push_bulk f).1
  have hw := (validF_0 hf).2.2
  have hM := ((Mem.start w (ph w) (fun _ _ h => h)).new' #[.int .i64 f.op, .int .i64 f.n, .slice a3 f.inn.length c3, .slice a4 f.kids.length c4] 50 (n := w.heap.size) rfl).new' #[.int .i64 0, .int .i64 0, .slice none 0 0, .slice none 0 0] 50 (n := w.heap.size + 1) (by simp)
  simp only [List.cons_append, List.nil_append] at hM
  unfold fmC at hr ⊢
  go_enter Tryz.func65, Tryz.ntmps65
  go_upto_region 1 with (fail)
  generalize World.alloc _ _ = w1 at *
  generalize hg4 : w.heap.size + 1 = g2 at *
  generalize hg3 : w.heap.size = g1 at *
  have u0 : w1.cell? ⟨g1, 0, none⟩ = some (.int .i64 f.op) := (hM.box 0 rfl).facts.1 0
  have u1 : w1.cell? ⟨g1, 1, none⟩ = some (.int .i64 f.n) := (hM.box 0 rfl).facts.1 1
  have u2 : w1.cell? ⟨g1, 2, none⟩ = some (.slice a3 f.inn.length c3) := (hM.box 0 rfl).facts.1 2
  have u3 : w1.cell? ⟨g1, 3, none⟩ = some (.slice a4 f.kids.length c4) := (hM.box 0 rfl).facts.1 3
  have ul := (hM.box 0 rfl).lt
  have hv := fvalid_c f (fmC f a3 c3 a4 c4) w1 (mono_FmR _ _ _ _ hM.ple hr0) (by omega)
  rw [hf] at hv
  have n0 : ((0 : Int) != 0) = false := rfl
  go_wp2_with fail
  refine RetV_at hv ?_
  intro w2 hx2
  replace hM := hM.ext hx2
  clear u0 u1 u2 u3 ul hv hx2
  have hM3 := (hM.new' #[.func (.func 102) #[] #[.pointer (some ⟨w2.heap.size + 1, 0, none⟩), .pointer (some ⟨w2.heap.size, 0, none⟩)]] 110 (n := w2.heap.size) rfl).new' #[.func (.func 104) #[] #[.pointer (some ⟨w2.heap.size, 0, none⟩), .pointer (some ⟨w2.heap.size + 1, 0, none⟩)]] 110 (n := w2.heap.size + 1) (by simp)
  simp only [List.cons_append, List.nil_append] at hM3
  clear hM
  go_upto_region 7 with (fail)
  generalize World.alloc _ _ = w3 at *
  generalize hg6 : w2.heap.size + 1 = g6 at *
  generalize hg5 : w2.heap.size = g5 at *
  have u0 : w3.cell? ⟨g1, 0, none⟩ = some (.int .i64 f.op) := (hM3.box 0 rfl).facts.1 0
  have u1 : w3.cell? ⟨g1, 1, none⟩ = some (.int .i64 f.n) := (hM3.box 0 rfl).facts.1 1
  have u2 : w3.cell? ⟨g1, 2, none⟩ = some (.slice a3 f.inn.length c3) := (hM3.box 0 rfl).facts.1 2
  have u3 : w3.cell? ⟨g1, 3, none⟩ = some (.slice a4 f.kids.length c4) := (hM3.box 0 rfl).facts.1 3
  have ul := (hM3.box 0 rfl).lt
  have hc5 : w3.cell? ⟨g5, 0, none⟩ = some (.func (.func 102) #[] #[.pointer (some ⟨g6, 0, none⟩), .pointer (some ⟨g5, 0, none⟩)]) := (hM3.box 2 rfl).facts.1 0
  have hc6 : w3.cell? ⟨g6, 0, none⟩ = some (.func (.func 104) #[] #[.pointer (some ⟨g5, 0, none⟩), .pointer (some ⟨g6, 0, none⟩)]) := (hM3.box 3 rfl).facts.1 0
  have l5 : g5 < w3.heap.size := cell_lt hc5
  have hcall := (push_fc g5 g6 f (ph w) (fmC f a3 c3 a4 c4) w3 hc5 hc6 hM3.ple hr0 hw (by omega)).1
  have hfn1 := fun args w => enterFn Tryz.func102 rfl rfl args w
  unfold fmC at hcall
  generalize pushP f = R at *
  go_wp2_with fail
  refine hcall.mono ?_
  rintro e w4 ⟨p3, q3, p4, q4, rfl, hx4, hQ⟩
  have hM4 := hM3.up hx4
  generalize up (ph w) w3 w4 = H4 at *
  clear hM3 hcall hfn1 u0 u1 u2 u3 ul hc5 hc6 l5 hx4
  go_upto_region 8 with (fail)
  have hM5 := (hM4.pick [1] (by decide)).new' #[.int .i64 R.op, .int .i64 R.n, .slice p3 R.inn.length q3, .slice p4 R.kids.length q4] 50 (n := w4.heap.size) rfl
  simp only [List.map_cons, List.map_nil, List.getElem?_cons_zero, List.getElem?_cons_succ, Option.getD_some, List.cons_append, List.nil_append] at hM5
  clear hM4
  generalize w4.alloc _ = w5 at *
  generalize w4.heap.size = g7 at *
  have u0 : w5.cell? ⟨g7, 0, none⟩ = some (.int .i64 R.op) := (hM5.box 1 rfl).facts.1 0
  have u1 : w5.cell? ⟨g7, 1, none⟩ = some (.int .i64 R.n) := (hM5.box 1 rfl).facts.1 1
  have u2 : w5.cell? ⟨g7, 2, none⟩ = some (.slice p3 R.inn.length q3) := (hM5.box 1 rfl).facts.1 2
  have u3 : w5.cell? ⟨g7, 3, none⟩ = some (.slice p4 R.kids.length q4) := (hM5.box 1 rfl).facts.1 3
  have ul := (hM5.box 1 rfl).lt
  have hv := fvalid_c R (fmC R p3 q3 p4 q4) w5 (mono_FmR _ _ _ _ hM5.ple hQ) (by omega)
  rw [hp] at hv
  unfold fmC at hv
  go_wp2_with fail
  refine RetV_at hv ?_
  intro w6 hx6
  replace hM5 := hM5.ext hx6
  clear u0 u1 u2 u3 ul hv hx6
  have u0 : w6.cell? ⟨g7, 0, none⟩ = some (.int .i64 R.op) := (hM5.box 1 rfl).facts.1 0
  have u1 : w6.cell? ⟨g7, 1, none⟩ = some (.int .i64 R.n) := (hM5.box 1 rfl).facts.1 1
  have u2 : w6.cell? ⟨g7, 2, none⟩ = some (.slice p3 R.inn.length q3) := (hM5.box 1 rfl).facts.1 2
  have u3 : w6.cell? ⟨g7, 3, none⟩ = some (.slice p4 R.kids.length q4) := (hM5.box 1 rfl).facts.1 3
  have ul := (hM5.box 1 rfl).lt
  have z0 : _ = some (Value.int .i64 0) := (hM5.box 0 rfl).facts.1 0
  have z1 : _ = some (Value.int .i64 0) := (hM5.box 0 rfl).facts.1 1
  have z2 : _ = some (Value.slice none 0 0) := (hM5.box 0 rfl).facts.1 2
  have z3 : _ = some (Value.slice none 0 0) := (hM5.box 0 rfl).facts.1 3
  obtain ⟨-, zf⟩ := (hM5.box 0 rfl).facts
  have zl := (hM5.box 0 rfl).lt
  have hM8 := hM5.set4 0 rfl (.int .i64 R.op) (.int .i64 R.n) (.slice p3 R.inn.length q3) (.slice p4 R.kids.length q4)
  simp only [List.set_cons_zero, List.set_cons_succ] at hM8
  clear hM5
  go_wp2_with fail
  generalize World.setCell _ _ _ = w9 at *
  obtain ⟨q', -⟩ := (hM8.box 0 rfl).facts
  have k0 : _ = some (Value.int .i64 R.op) := q' 0
  have k1 : _ = some (Value.int .i64 R.n) := q' 1
  have k2 : _ = some (Value.slice p3 R.inn.length q3) := q' 2
  have k3 : _ = some (Value.slice p4 R.kids.length q4) := q' 3
  refine bodyPost_ret (v := .tuple #[fmV R p3 q3 p4 q4, .int .i64 0]) (by simp [results, Tryz.results65, go_sem, k0, k1, k2, k3, fmV]) rfl ?_
  exact ⟨p3, q3, p4, q4, rfl, hM8.ex, mono_FmR _ _ _ _ hM8.ple hQ⟩
set_option maxRecDepth 100000 in
set_option maxHeartbeats 16000000 in
theorem simple_c (f : Fm) : ∀ (H : PH) (cs : List Value) (w : World), PLe H (ph w) → FmR H cs f → wholeB f = true → f.bulk ≤ 400000 → Calls Tryz.prog 108 #[.agg cs.toArray] w (NewF w H (simpF f)) := by
  induction f using Fm.ind with
  | h f ih =>
    intro H cs w hl hr hw hb
    have hr0 := hr
    obtain ⟨a3, c3, a4, c4, rfl, i1, i2, -, -, hfi, hfk⟩ := hr.form
    have hbe := f.bulk_eq
    have hkl := f.kids_le
    have hin : f.inn.length ≤ 1000000 := by omega
    have hfn1 := fun args w => enterFn Tryz.func108 rfl rfl args w
    have hwk : ∀ x ∈ f.kids, wholeB x = true := fun x hx => by
      have h2 := hw
      rw [wholeB_eq, Bool.and_eq_true, List.all_eq_true] at h2
      exact h2.2 x hx
    have hmp := fun W (e : Ext w W) => mapped_c 108 #[] simpF f (fmC f a3 c3 a4 c4) W (hl.trans e.ple) hr0 (by omega) hin hfn1 (fun x hx H' wr cs' e' hl' hr' => by
      have := Fm.kid_le hx
      simpa using ih x hx H' cs' wr hl' hr' (hwk x hx) (by omega))
    clear ih
    have hsum := sumN_map_mono (m := Fm.bulk) (g := simpF) f.kids fun x _ => simp_bulk x
    have hfo : formed1 f = true := by rw [wholeB_eq, Bool.and_eq_true] at hw; exact hw.1
    have hKl : (f.kids.map simpF).length = f.kids.length := List.length_map _
    have hKw : ∀ x ∈ f.kids.map simpF, wholeN 64 x = true := fun x hx => by
      obtain ⟨y, hy, rfl⟩ := List.mem_map.1 hx
      exact simp_whole y (wholeN_64 (hwk y hy))
    have hJ0 := simpF_eq f
    unfold fmC at hmp ⊢
    clear hr hw hwk hr0 hfi hfk
    have hM := ((Mem.start w H hl).new' #[.int .i64 f.op, .int .i64 f.n, .slice a3 f.inn.length c3, .slice a4 f.kids.length c4] 50 (n := w.heap.size) rfl).new' #[.int .i64 0, .int .i64 0, .slice none 0 0, .slice none 0 0] 50 (n := w.heap.size + 1) (by simp)
    simp only [List.cons_append, List.nil_append] at hM
    replace hmp := Lib.hid hmp
    go_enter Tryz.func108, Tryz.ntmps108
    go_upto_region 1 with (fail)
    generalize World.alloc _ _ = w1 at *
    generalize hg4 : w.heap.size + 1 = g2 at *
    generalize hg3 : w.heap.size = g1 at *
    have u0 : w1.cell? ⟨g1, 0, none⟩ = some (.int .i64 f.op) := (hM.box 0 rfl).facts.1 0
    have u1 : w1.cell? ⟨g1, 1, none⟩ = some (.int .i64 f.n) := (hM.box 0 rfl).facts.1 1
    have u2 : w1.cell? ⟨g1, 2, none⟩ = some (.slice a3 f.inn.length c3) := (hM.box 0 rfl).facts.1 2
    have u3 : w1.cell? ⟨g1, 3, none⟩ = some (.slice a4 f.kids.length c4) := (hM.box 0 rfl).facts.1 3
    have uf := (hM.box 0 rfl).facts.2
    have ul := (hM.box 0 rfl).lt
    have hm1 := hmp.out w1 hM.ex
    clear hmp
    obtain ⟨K, hK⟩ : ∃ K, f.kids.map simpF = K := ⟨_, rfl⟩
    rw [hK] at hm1 hsum hKl hKw hJ0
    clear hK
    go_wp2_with fail
    refine hm1.mono ?_
    rintro e w2 ⟨p3, q3, p4, q4, rfl, hx2, hF⟩
    have hM2 := hM.up hx2
    generalize up H w1 w2 = H1 at *
    clear hM hm1 hx2 u0 u1 u2 u3 uf ul
    generalize simpF f = J at *
    have hb4 : sumN Fm.bulk K ≤ 400000 := by omega
    clear hb hbe hkl hin hsum hfn1
    have hfo2 : (f.op = 3 ∨ f.op = 6) → ∃ g, K = [g] := fun h => by
      obtain ⟨g, hg⟩ := formed_one hfo h
      rw [hg] at hKl
      match K, hKl with
      | [x], _ => exact ⟨x, rfl⟩
    clear hKl hfo
    generalize f.op = op at *
    generalize f.n = n at *
    generalize f.inn = inn at *
    generalize f.kids = fk at *
    clear f
    have u0 : w2.cell? ⟨g1, 0, none⟩ = some (.int .i64 op) := (hM2.box 0 rfl).facts.1 0
    have u1 : w2.cell? ⟨g1, 1, none⟩ = some (.int .i64 n) := (hM2.box 0 rfl).facts.1 1
    have u2 : w2.cell? ⟨g1, 2, none⟩ = some (.slice a3 inn.length c3) := (hM2.box 0 rfl).facts.1 2
    have u3 : w2.cell? ⟨g1, 3, none⟩ = some (.slice a4 fk.length c4) := (hM2.box 0 rfl).facts.1 3
    have uf := (hM2.box 0 rfl).facts.2
    have ul := (hM2.box 0 rfl).lt
    have hM3 := hM2.set4 0 rfl (.int .i64 (Fm.mk op n inn K).op) (.int .i64 (Fm.mk op n inn K).n) (.slice p3 (Fm.mk op n inn K).inn.length q3) (.slice p4 (Fm.mk op n inn K).kids.length q4)
    simp only [List.set_cons_zero] at hM3
    clear hM2
    have hFK : FmsR H1 (.slice p4 K.length q4) K := FmR.kids_rep (x := .mk op n inn K) hF
    go_upto_region 2 with (fail)
    generalize World.setCell _ _ _ = w3 at *
    replace hM3 : Mem w H [box g1 #[.int .i64 op, .int .i64 n, .slice p3 inn.length q3, .slice p4 K.length q4] 50, box g2 #[.int .i64 0, .int .i64 0, .slice none 0 0, .slice none 0 0] 50] H1 w3 := hM3
    clear u0 u1 u2 u3 uf ul
    have u0 : w3.cell? ⟨g1, 0, none⟩ = some (.int .i64 op) := (hM3.box 0 rfl).facts.1 0
    have u1 : w3.cell? ⟨g1, 1, none⟩ = some (.int .i64 n) := (hM3.box 0 rfl).facts.1 1
    have u2 : w3.cell? ⟨g1, 2, none⟩ = some (.slice p3 inn.length q3) := (hM3.box 0 rfl).facts.1 2
    have u3 : w3.cell? ⟨g1, 3, none⟩ = some (.slice p4 K.length q4) := (hM3.box 0 rfl).facts.1 3
    have ul := (hM3.box 0 rfl).lt
    by_cases h2 : op = 2
    · have b2 : (op == 2) = true := by simpa using h2
      by_cases hi0 : inn = []
      · have hJ : Hid (J = neverF) := by show _ = _; rw [hJ0]; unfold nodeS; rw [if_pos h2, if_pos hi0]
        have b0 : ((inn.length : Int) == 0) = true := by rw [hi0]; rfl
        clear hJ0 h2 hfo2 hKw hi0
        go_upto_region 5 with (fail)
        go_wp2_with fail
        refine (never_c H1 _ hM3.ple).mono ?_
        rintro e wn ⟨rfl, hxn⟩
        have hMn := hM3.ext hxn
        clear hM3 hxn
        have rz0 : _ = some (Value.int .i64 0) := (hMn.box 1 rfl).facts.1 0
        have rz1 : _ = some (Value.int .i64 0) := (hMn.box 1 rfl).facts.1 1
        have rz2 : _ = some (Value.slice none 0 0) := (hMn.box 1 rfl).facts.1 2
        have rz3 : _ = some (Value.slice none 0 0) := (hMn.box 1 rfl).facts.1 3
        obtain ⟨-, rzf⟩ := (hMn.box 1 rfl).facts
        have rzl := (hMn.box 1 rfl).lt
        have hM8 := hMn.set4 1 rfl (.int .i64 neverF.op) (.int .i64 neverF.n) (.slice none neverF.inn.length 0) (.slice none neverF.kids.length 0)
        simp only [List.set_cons_zero, List.set_cons_succ] at hM8
        clear hMn
        go_wp2_with fail
        generalize World.setCell _ _ _ = w9 at *
        obtain ⟨rq', -⟩ := (hM8.box 1 rfl).facts
        have rq0 : _ = some ((.int .i64 neverF.op) : Value) := rq' 0
        have rq1 : _ = some ((.int .i64 neverF.n) : Value) := rq' 1
        have rq2 : _ = some ((.slice none neverF.inn.length 0) : Value) := rq' 2
        have rq3 : _ = some ((.slice none neverF.kids.length 0) : Value) := rq' 3
        refine bodyPost_ret (v := .agg #[(.int .i64 neverF.op), (.int .i64 neverF.n), (.slice none neverF.inn.length 0), (.slice none neverF.kids.length 0)]) (by simp [results, Tryz.results108, go_sem, rq0, rq1, rq2, rq3]) rfl ?_
        exact ⟨none, 0, none, 0, by rw [hJ.out], hM8.ex, by rw [hJ.out]; exact neverF_R _⟩
      · have hJ : Hid (J = .mk op n inn K) := by show _ = _; rw [hJ0]; unfold nodeS; rw [if_pos h2, if_neg hi0]
        have b0 : ((inn.length : Int) == 0) = false := by
          rw [beq_eq_false_iff_ne]; intro e; exact hi0 (List.length_eq_zero_iff.1 (by omega))
        clear hJ0 h2 hfo2 hKw hi0
        have rz0 : _ = some (Value.int .i64 0) := (hM3.box 1 rfl).facts.1 0
        have rz1 : _ = some (Value.int .i64 0) := (hM3.box 1 rfl).facts.1 1
        have rz2 : _ = some (Value.slice none 0 0) := (hM3.box 1 rfl).facts.1 2
        have rz3 : _ = some (Value.slice none 0 0) := (hM3.box 1 rfl).facts.1 3
        obtain ⟨-, rzf⟩ := (hM3.box 1 rfl).facts
        have rzl := (hM3.box 1 rfl).lt
        have hM8 := hM3.set4 1 rfl (.int .i64 op) (.int .i64 n) (.slice p3 inn.length q3) (.slice p4 K.length q4)
        simp only [List.set_cons_zero, List.set_cons_succ] at hM8
        clear hM3
        go_wp2_with fail
        generalize World.setCell _ _ _ = w9 at *
        obtain ⟨rq', -⟩ := (hM8.box 1 rfl).facts
        have rq0 : _ = some ((.int .i64 op) : Value) := rq' 0
        have rq1 : _ = some ((.int .i64 n) : Value) := rq' 1
        have rq2 : _ = some ((.slice p3 inn.length q3) : Value) := rq' 2
        have rq3 : _ = some ((.slice p4 K.length q4) : Value) := rq' 3
        refine bodyPost_ret (v := .agg #[(.int .i64 op), (.int .i64 n), (.slice p3 inn.length q3), (.slice p4 K.length q4)]) (by simp [results, Tryz.results108, go_sem, rq0, rq1, rq2, rq3]) rfl ?_
        exact ⟨p3, q3, p4, q4, by rw [hJ.out]; rfl, hM8.ex, by rw [hJ.out]; exact mono_FmR _ _ _ _ hM8.ub hF⟩
    have b2 : (op == 2) = false := by simpa using h2
    by_cases h3 : op = 3
    · have b3 : (op == 3) = true := by simpa using h3
      obtain ⟨g, rfl⟩ := hfo2 (.inl h3)
      obtain ⟨kb, ko, k3, m3, k4, m4, ek, z0, z1, z2, z3, hE, zl⟩ := FmsR.atH hFK hM3.ple 0 (by simp)
      cases ek
      simp only [List.getElem_cons_zero, Nat.zero_mul, Nat.add_zero] at z0 z1 z2 z3 hE
      have hnv := fun W (e : Ext w3 W) => isNever_c g _ W (mono_FmR _ _ _ _ (hM3.ple.trans e.ple) hE)
      unfold fmC at hnv
      cases hn : neverB g with
      | true =>
        have hJ : Hid (J = neverF) := by
          show _ = _; rw [hJ0]; unfold nodeS; rw [if_neg h2, if_pos h3, if_pos (by exact hn)]
        rw [show decide (g.op = 5 ∧ g.kids = []) = true from hn] at hnv
        replace hnv := Lib.hid hnv
        clear hJ0 h2 h3 hfo2 hKw hn
        go_wp2_with fail
        refine RetV_at (hnv.out _ xE) ?_
        intro w4 hx4
        have hM4 := hM3.ext hx4
        clear hM3 hx4 hnv z0 z1 z2 z3 zl u0 u1 u2 u3 ul
        go_upto_region 8 with (fail)
        go_wp2_with fail
        refine (never_c H1 _ hM4.ple).mono ?_
        rintro e wn ⟨rfl, hxn⟩
        have hMn := hM4.ext hxn
        clear hM4 hxn
        have rz0 : _ = some (Value.int .i64 0) := (hMn.box 1 rfl).facts.1 0
        have rz1 : _ = some (Value.int .i64 0) := (hMn.box 1 rfl).facts.1 1
        have rz2 : _ = some (Value.slice none 0 0) := (hMn.box 1 rfl).facts.1 2
        have rz3 : _ = some (Value.slice none 0 0) := (hMn.box 1 rfl).facts.1 3
        obtain ⟨-, rzf⟩ := (hMn.box 1 rfl).facts
        have rzl := (hMn.box 1 rfl).lt
        have hM8 := hMn.set4 1 rfl (.int .i64 neverF.op) (.int .i64 neverF.n) (.slice none neverF.inn.length 0) (.slice none neverF.kids.length 0)
        simp only [List.set_cons_zero, List.set_cons_succ] at hM8
        clear hMn
        go_wp2_with fail
        generalize World.setCell _ _ _ = w9 at *
        obtain ⟨rq', -⟩ := (hM8.box 1 rfl).facts
        have rq0 : _ = some ((.int .i64 neverF.op) : Value) := rq' 0
        have rq1 : _ = some ((.int .i64 neverF.n) : Value) := rq' 1
        have rq2 : _ = some ((.slice none neverF.inn.length 0) : Value) := rq' 2
        have rq3 : _ = some ((.slice none neverF.kids.length 0) : Value) := rq' 3
        refine bodyPost_ret (v := .agg #[(.int .i64 neverF.op), (.int .i64 neverF.n), (.slice none neverF.inn.length 0), (.slice none neverF.kids.length 0)]) (by simp [results, Tryz.results108, go_sem, rq0, rq1, rq2, rq3]) rfl ?_
        exact ⟨none, 0, none, 0, by rw [hJ.out], hM8.ex, by rw [hJ.out]; exact neverF_R _⟩
      | false =>
        have hJ : Hid (J = .mk op n inn [g]) := by
          show _ = _; rw [hJ0]; unfold nodeS; rw [if_neg h2, if_pos h3, if_neg (by rw [show neverB ([g].headD noF) = false from hn]; simp)]
        rw [show decide (g.op = 5 ∧ g.kids = []) = false from hn] at hnv
        replace hnv := Lib.hid hnv
        clear hJ0 h2 h3 hfo2 hKw hn
        go_wp2_with fail
        refine RetV_at (hnv.out _ xE) ?_
        intro w4 hx4
        have hM4 := hM3.ext hx4
        clear hM3 hx4 hnv z0 z1 z2 z3 zl u0 u1 u2 u3 ul
        generalize (some ⟨kb, ko, none⟩ : Option Addr) = p4 at *
        obtain ⟨N1, hN1⟩ : ∃ N, Hid (N = ([g] : List Fm).length) := ⟨_, rfl⟩
        rw [← hN1.out] at hM4
        have u0 : w4.cell? ⟨g1, 0, none⟩ = some (.int .i64 op) := (hM4.box 0 rfl).facts.1 0
        have u1 : w4.cell? ⟨g1, 1, none⟩ = some (.int .i64 n) := (hM4.box 0 rfl).facts.1 1
        have u2 : w4.cell? ⟨g1, 2, none⟩ = some (.slice p3 inn.length q3) := (hM4.box 0 rfl).facts.1 2
        have u3 : w4.cell? ⟨g1, 3, none⟩ = some (.slice p4 N1 q4) := (hM4.box 0 rfl).facts.1 3
        have ul := (hM4.box 0 rfl).lt
        have rz0 : _ = some (Value.int .i64 0) := (hM4.box 1 rfl).facts.1 0
        have rz1 : _ = some (Value.int .i64 0) := (hM4.box 1 rfl).facts.1 1
        have rz2 : _ = some (Value.slice none 0 0) := (hM4.box 1 rfl).facts.1 2
        have rz3 : _ = some (Value.slice none 0 0) := (hM4.box 1 rfl).facts.1 3
        obtain ⟨-, rzf⟩ := (hM4.box 1 rfl).facts
        have rzl := (hM4.box 1 rfl).lt
        have hM8 := hM4.set4 1 rfl (.int .i64 op) (.int .i64 n) (.slice p3 inn.length q3) (.slice p4 N1 q4)
        simp only [List.set_cons_zero, List.set_cons_succ] at hM8
        clear hM4
        go_wp2_with fail
        generalize World.setCell _ _ _ = w9 at *
        obtain ⟨rq', -⟩ := (hM8.box 1 rfl).facts
        have rq0 : _ = some ((.int .i64 op) : Value) := rq' 0
        have rq1 : _ = some ((.int .i64 n) : Value) := rq' 1
        have rq2 : _ = some ((.slice p3 inn.length q3) : Value) := rq' 2
        have rq3 : _ = some ((.slice p4 N1 q4) : Value) := rq' 3
        refine bodyPost_ret (v := .agg #[(.int .i64 op), (.int .i64 n), (.slice p3 inn.length q3), (.slice p4 N1 q4)]) (by simp [results, Tryz.results108, go_sem, rq0, rq1, rq2, rq3]) rfl ?_
        exact ⟨p3, q3, p4, q4, by rw [hJ.out, hN1.out]; rfl, hM8.ex, by rw [hJ.out]; exact mono_FmR _ _ _ _ hM8.ub hF⟩
    have b3 : (op == 3) = false := by simpa using h3
    by_cases h6 : op = 6
    · have b6 : (op == 6) = true := by simpa using h6
      obtain ⟨g, rfl⟩ := hfo2 (.inr h6)
      obtain ⟨kb, ko, k3, m3, k4, m4, ek, z0, z1, z2, z3, hE, zl⟩ := FmsR.atH hFK hM3.ple 0 (by simp)
      cases ek
      simp only [List.getElem_cons_zero, Nat.zero_mul, Nat.add_zero] at z0 z1 z2 z3 hE
      have hgw := hKw g (by simp)
      have hM4 := hM3.ext (Ext.new w3 (.cells #[.int .i64 g.op, .int .i64 g.n, .slice k3 g.inn.length m3, .slice k4 g.kids.length m4] 50))
      have o7 := Proofs.YtnpnjcaomakehaaGreat.Own.new w3 #[.int .i64 g.op, .int .i64 g.n, .slice k3 g.inn.length m3, .slice k4 g.kids.length m4] 50
      clear hKw hfo2
      go_upto_region 11 with (fail)
      generalize w3.heap.size = g7 at *
      clear hM3 z0 z1 z2 z3 zl u0 u1 u2 u3 ul
      generalize w3.alloc _ = w4 at *
      have y0 : w4.cell? ⟨g7, 0, none⟩ = some (.int .i64 g.op) := o7.facts.1 0
      have y1 : w4.cell? ⟨g7, 1, none⟩ = some (.int .i64 g.n) := o7.facts.1 1
      have y2 : w4.cell? ⟨g7, 2, none⟩ = some (.slice k3 g.inn.length m3) := o7.facts.1 2
      have y3 : w4.cell? ⟨g7, 3, none⟩ = some (.slice k4 g.kids.length m4) := o7.facts.1 3
      have yl := o7.lt
      by_cases h0 : g.op = 0
      · have c0 : (g.op == 0) = true := by simpa using h0
        have hJ : Hid (J = neverF) := by
          show _ = _; rw [hJ0]; unfold nodeS; rw [if_neg h2, if_neg h3, if_pos h6, if_pos (by exact h0)]
        clear hJ0 h2 h3 h6 h0 o7
        go_upto_region 12 with (fail)
        clear y0 y1 y2 y3 yl
        go_wp2_with fail
        refine (never_c H1 _ hM4.ple).mono ?_
        rintro e wn ⟨rfl, hxn⟩
        have hMn := hM4.ext hxn
        clear hM4 hxn
        have rz0 : _ = some (Value.int .i64 0) := (hMn.box 1 rfl).facts.1 0
        have rz1 : _ = some (Value.int .i64 0) := (hMn.box 1 rfl).facts.1 1
        have rz2 : _ = some (Value.slice none 0 0) := (hMn.box 1 rfl).facts.1 2
        have rz3 : _ = some (Value.slice none 0 0) := (hMn.box 1 rfl).facts.1 3
        obtain ⟨-, rzf⟩ := (hMn.box 1 rfl).facts
        have rzl := (hMn.box 1 rfl).lt
        have hM8 := hMn.set4 1 rfl (.int .i64 neverF.op) (.int .i64 neverF.n) (.slice none neverF.inn.length 0) (.slice none neverF.kids.length 0)
        simp only [List.set_cons_zero, List.set_cons_succ] at hM8
        clear hMn
        go_wp2_with fail
        generalize World.setCell _ _ _ = w9 at *
        obtain ⟨rq', -⟩ := (hM8.box 1 rfl).facts
        have rq0 : _ = some ((.int .i64 neverF.op) : Value) := rq' 0
        have rq1 : _ = some ((.int .i64 neverF.n) : Value) := rq' 1
        have rq2 : _ = some ((.slice none neverF.inn.length 0) : Value) := rq' 2
        have rq3 : _ = some ((.slice none neverF.kids.length 0) : Value) := rq' 3
        refine bodyPost_ret (v := .agg #[(.int .i64 neverF.op), (.int .i64 neverF.n), (.slice none neverF.inn.length 0), (.slice none neverF.kids.length 0)]) (by simp [results, Tryz.results108, go_sem, rq0, rq1, rq2, rq3]) rfl ?_
        exact ⟨none, 0, none, 0, by rw [hJ.out], hM8.ex, by rw [hJ.out]; exact neverF_R _⟩
      have c0 : (g.op == 0) = false := by simpa using h0
      have hnv := fun W (e : Ext w4 W) => isNever_c g _ W (mono_FmR _ _ _ _ (hM4.ple.trans e.ple) hE)
      unfold fmC at hnv
      cases hn : neverB g with
      | true =>
        have hJ : Hid (J = noF) := by
          show _ = _; rw [hJ0]; unfold nodeS; rw [if_neg h2, if_neg h3, if_pos h6, if_neg (by exact h0), if_pos (by exact hn)]
        rw [show decide (g.op = 5 ∧ g.kids = []) = true from hn] at hnv
        replace hnv := Lib.hid hnv
        clear hJ0 h2 h3 h6 h0 hn o7
        go_wp2_with fail
        refine RetV_at (hnv.out _ xE) ?_
        intro w5 hx5
        have hM5 := hM4.ext hx5
        clear hM4 hx5 hnv y0 y1 y2 y3 yl
        have rz0 : _ = some (Value.int .i64 0) := (hM5.box 1 rfl).facts.1 0
        have rz1 : _ = some (Value.int .i64 0) := (hM5.box 1 rfl).facts.1 1
        have rz2 : _ = some (Value.slice none 0 0) := (hM5.box 1 rfl).facts.1 2
        have rz3 : _ = some (Value.slice none 0 0) := (hM5.box 1 rfl).facts.1 3
        obtain ⟨-, rzf⟩ := (hM5.box 1 rfl).facts
        have rzl := (hM5.box 1 rfl).lt
        have hM8 := hM5.set4 1 rfl (.int .i64 0) (.int .i64 0) (.slice none 0 0) (.slice none 0 0)
        simp only [List.set_cons_zero, List.set_cons_succ] at hM8
        clear hM5
        go_wp2_with fail
        generalize World.setCell _ _ _ = w9 at *
        obtain ⟨rq', -⟩ := (hM8.box 1 rfl).facts
        have rq0 : _ = some ((.int .i64 0) : Value) := rq' 0
        have rq1 : _ = some ((.int .i64 0) : Value) := rq' 1
        have rq2 : _ = some ((.slice none 0 0) : Value) := rq' 2
        have rq3 : _ = some ((.slice none 0 0) : Value) := rq' 3
        refine bodyPost_ret (v := .agg #[(.int .i64 0), (.int .i64 0), (.slice none 0 0), (.slice none 0 0)]) (by simp [results, Tryz.results108, go_sem, rq0, rq1, rq2, rq3]) rfl ?_
        exact ⟨none, 0, none, 0, by rw [hJ.out]; rfl, hM8.ex, by rw [hJ.out]; exact noF_R _⟩
      | false =>
        rw [show decide (g.op = 5 ∧ g.kids = []) = false from hn] at hnv
        replace hnv := Lib.hid hnv
        go_wp2_with fail
        refine RetV_at (hnv.out _ xE) ?_
        intro w5 hx5
        have hM5 := hM4.ext hx5
        replace o7 := o7.keep hx5
        clear hM4 hx5 hnv y0 y1 y2 y3 yl
        have y0 : w5.cell? ⟨g7, 0, none⟩ = some (.int .i64 g.op) := o7.facts.1 0
        have y3 : w5.cell? ⟨g7, 3, none⟩ = some (.slice k4 g.kids.length m4) := o7.facts.1 3
        have yl := o7.lt
        by_cases h66 : g.op = 6
        · have c6 : (g.op == 6) = true := by simpa using h66
          obtain ⟨g', hg'⟩ := formed_one (wholeN_formed hgw) (.inr h66)
          have hGK : FmsR H1 (.slice k4 g.kids.length m4) g.kids := FmR.kids_rep hE
          have hJ : Hid (J = g') := by
            show _ = _; rw [hJ0]; unfold nodeS; rw [if_neg h2, if_neg h3, if_pos h6, if_neg (by exact h0), if_neg (by rw [show neverB ([g].headD noF) = false from hn]; simp), if_pos (by exact h66)]
            show g.kids.headD noF = g'
            rw [hg']; rfl
          rw [hg'] at hGK
          have hl1 : g.kids.length = 1 := by rw [hg']; rfl
          rw [hl1] at y3
          obtain ⟨jb, jo, j3, n3, j4, n4, ej, x0, x1, x2, x3, hE', xl⟩ := FmsR.atH hGK hM5.ple 0 (by simp)
          cases ej
          simp only [List.getElem_cons_zero, Nat.zero_mul, Nat.add_zero] at x0 x1 x2 x3 hE'
          clear hJ0 h2 h3 h6 h0 hn h66 hg' hl1 hGK
          have rz0 : _ = some (Value.int .i64 0) := (hM5.box 1 rfl).facts.1 0
          have rz1 : _ = some (Value.int .i64 0) := (hM5.box 1 rfl).facts.1 1
          have rz2 : _ = some (Value.slice none 0 0) := (hM5.box 1 rfl).facts.1 2
          have rz3 : _ = some (Value.slice none 0 0) := (hM5.box 1 rfl).facts.1 3
          obtain ⟨-, rzf⟩ := (hM5.box 1 rfl).facts
          have rzl := (hM5.box 1 rfl).lt
          have hM8 := hM5.set4 1 rfl (.int .i64 g'.op) (.int .i64 g'.n) (.slice j3 g'.inn.length n3) (.slice j4 g'.kids.length n4)
          simp only [List.set_cons_zero, List.set_cons_succ] at hM8
          clear hM5
          go_wp2_with fail
          generalize World.setCell _ _ _ = w9 at *
          obtain ⟨rq', -⟩ := (hM8.box 1 rfl).facts
          have rq0 : _ = some ((.int .i64 g'.op) : Value) := rq' 0
          have rq1 : _ = some ((.int .i64 g'.n) : Value) := rq' 1
          have rq2 : _ = some ((.slice j3 g'.inn.length n3) : Value) := rq' 2
          have rq3 : _ = some ((.slice j4 g'.kids.length n4) : Value) := rq' 3
          refine bodyPost_ret (v := .agg #[(.int .i64 g'.op), (.int .i64 g'.n), (.slice j3 g'.inn.length n3), (.slice j4 g'.kids.length n4)]) (by simp [results, Tryz.results108, go_sem, rq0, rq1, rq2, rq3]) rfl ?_
          exact ⟨j3, n3, j4, n4, by rw [hJ.out], hM8.ex, by rw [hJ.out]; exact mono_FmR _ _ _ _ hM8.ub hE'⟩
        · have c6 : (g.op == 6) = false := by simpa using h66
          have hJ : Hid (J = .mk op n inn [g]) := by
            show _ = _; rw [hJ0]; unfold nodeS; rw [if_neg h2, if_neg h3, if_pos h6, if_neg (by exact h0), if_neg (by rw [show neverB ([g].headD noF) = false from hn]; simp), if_neg (by exact h66)]
          clear hJ0 h2 h3 h6 h0 hn h66
          generalize (some ⟨kb, ko, none⟩ : Option Addr) = p4 at *
          obtain ⟨N1, hN1⟩ : ∃ N, Hid (N = ([g] : List Fm).length) := ⟨_, rfl⟩
          rw [← hN1.out] at hM5
          have u0 : w5.cell? ⟨g1, 0, none⟩ = some (.int .i64 op) := (hM5.box 0 rfl).facts.1 0
          have u1 : w5.cell? ⟨g1, 1, none⟩ = some (.int .i64 n) := (hM5.box 0 rfl).facts.1 1
          have u2 : w5.cell? ⟨g1, 2, none⟩ = some (.slice p3 inn.length q3) := (hM5.box 0 rfl).facts.1 2
          have u3 : w5.cell? ⟨g1, 3, none⟩ = some (.slice p4 N1 q4) := (hM5.box 0 rfl).facts.1 3
          have ul := (hM5.box 0 rfl).lt
          have rz0 : _ = some (Value.int .i64 0) := (hM5.box 1 rfl).facts.1 0
          have rz1 : _ = some (Value.int .i64 0) := (hM5.box 1 rfl).facts.1 1
          have rz2 : _ = some (Value.slice none 0 0) := (hM5.box 1 rfl).facts.1 2
          have rz3 : _ = some (Value.slice none 0 0) := (hM5.box 1 rfl).facts.1 3
          obtain ⟨-, rzf⟩ := (hM5.box 1 rfl).facts
          have rzl := (hM5.box 1 rfl).lt
          have hM8 := hM5.set4 1 rfl (.int .i64 op) (.int .i64 n) (.slice p3 inn.length q3) (.slice p4 N1 q4)
          simp only [List.set_cons_zero, List.set_cons_succ] at hM8
          clear hM5
          go_wp2_with fail
          generalize World.setCell _ _ _ = w9 at *
          obtain ⟨rq', -⟩ := (hM8.box 1 rfl).facts
          have rq0 : _ = some ((.int .i64 op) : Value) := rq' 0
          have rq1 : _ = some ((.int .i64 n) : Value) := rq' 1
          have rq2 : _ = some ((.slice p3 inn.length q3) : Value) := rq' 2
          have rq3 : _ = some ((.slice p4 N1 q4) : Value) := rq' 3
          refine bodyPost_ret (v := .agg #[(.int .i64 op), (.int .i64 n), (.slice p3 inn.length q3), (.slice p4 N1 q4)]) (by simp [results, Tryz.results108, go_sem, rq0, rq1, rq2, rq3]) rfl ?_
          exact ⟨p3, q3, p4, q4, by rw [hJ.out, hN1.out]; rfl, hM8.ex, by rw [hJ.out]; exact mono_FmR _ _ _ _ hM8.ub hF⟩
    have b6 : (op == 6) = false := by simpa using h6
    by_cases h45 : op = 4 ∨ op = 5
    · have hJ : Hid (J = joinF op K) := by
        show _ = _; rw [hJ0]; unfold nodeS; rw [if_neg h2, if_neg h3, if_neg h6, if_pos h45]
      have hcj := joined_c op K (.slice p4 K.length q4) w3 hM3.ple hFK h45 hb4
      rw [← hJ.out] at hcj
      clear hJ0 h2 h3 h6 hKw hfo2 hFK hF hb4
      have b45 : (op == 4) = true ∨ ((op == 4) = false ∧ (op == 5) = true) := by
        rcases h45 with rfl | rfl
        · exact .inl rfl
        · exact .inr ⟨rfl, rfl⟩
      clear h45 hJ
      replace hcj := Lib.hid hcj
      rcases b45 with b4 | ⟨b4, b5⟩
      all_goals
        go_wp2_with fail
        refine hcj.out.mono ?_
        rintro e w4 ⟨r3, s3, r4, s4, rfl, hx4, hQ⟩
        have hM4 := hM3.up hx4
        generalize up H1 w3 w4 = H4 at *
        clear hM3 hx4 hcj u0 u1 u2 u3 ul
        have rz0 : _ = some (Value.int .i64 0) := (hM4.box 1 rfl).facts.1 0
        have rz1 : _ = some (Value.int .i64 0) := (hM4.box 1 rfl).facts.1 1
        have rz2 : _ = some (Value.slice none 0 0) := (hM4.box 1 rfl).facts.1 2
        have rz3 : _ = some (Value.slice none 0 0) := (hM4.box 1 rfl).facts.1 3
        obtain ⟨-, rzf⟩ := (hM4.box 1 rfl).facts
        have rzl := (hM4.box 1 rfl).lt
        have hM8 := hM4.set4 1 rfl (.int .i64 J.op) (.int .i64 J.n) (.slice r3 J.inn.length s3) (.slice r4 J.kids.length s4)
        simp only [List.set_cons_zero, List.set_cons_succ] at hM8
        clear hM4
        go_wp2_with fail
        generalize World.setCell _ _ _ = w9 at *
        obtain ⟨rq', -⟩ := (hM8.box 1 rfl).facts
        have rq0 : _ = some ((.int .i64 J.op) : Value) := rq' 0
        have rq1 : _ = some ((.int .i64 J.n) : Value) := rq' 1
        have rq2 : _ = some ((.slice r3 J.inn.length s3) : Value) := rq' 2
        have rq3 : _ = some ((.slice r4 J.kids.length s4) : Value) := rq' 3
        refine bodyPost_ret (v := .agg #[(.int .i64 J.op), (.int .i64 J.n), (.slice r3 J.inn.length s3), (.slice r4 J.kids.length s4)]) (by simp [results, Tryz.results108, go_sem, rq0, rq1, rq2, rq3]) rfl ?_
        exact ⟨r3, s3, r4, s4, rfl, hM8.ex, mono_FmR _ _ _ _ hM8.ub hQ⟩
    · have hJ : Hid (J = .mk op n inn K) := by
        show _ = _; rw [hJ0]; unfold nodeS; rw [if_neg h2, if_neg h3, if_neg h6, if_neg h45]
      have b4 : (op == 4) = false := by rw [beq_eq_false_iff_ne]; omega
      have b5 : (op == 5) = false := by rw [beq_eq_false_iff_ne]; omega
      clear hJ0 h2 h3 h6 h45 hKw hfo2 hFK hb4
      have rz0 : _ = some (Value.int .i64 0) := (hM3.box 1 rfl).facts.1 0
      have rz1 : _ = some (Value.int .i64 0) := (hM3.box 1 rfl).facts.1 1
      have rz2 : _ = some (Value.slice none 0 0) := (hM3.box 1 rfl).facts.1 2
      have rz3 : _ = some (Value.slice none 0 0) := (hM3.box 1 rfl).facts.1 3
      obtain ⟨-, rzf⟩ := (hM3.box 1 rfl).facts
      have rzl := (hM3.box 1 rfl).lt
      have hM8 := hM3.set4 1 rfl (.int .i64 op) (.int .i64 n) (.slice p3 inn.length q3) (.slice p4 K.length q4)
      simp only [List.set_cons_zero, List.set_cons_succ] at hM8
      clear hM3
      go_wp2_with fail
      generalize World.setCell _ _ _ = w9 at *
      obtain ⟨rq', -⟩ := (hM8.box 1 rfl).facts
      have rq0 : _ = some ((.int .i64 op) : Value) := rq' 0
      have rq1 : _ = some ((.int .i64 n) : Value) := rq' 1
      have rq2 : _ = some ((.slice p3 inn.length q3) : Value) := rq' 2
      have rq3 : _ = some ((.slice p4 K.length q4) : Value) := rq' 3
      refine bodyPost_ret (v := .agg #[(.int .i64 op), (.int .i64 n), (.slice p3 inn.length q3), (.slice p4 K.length q4)]) (by simp [results, Tryz.results108, go_sem, rq0, rq1, rq2, rq3]) rfl ?_
      exact ⟨p3, q3, p4, q4, by rw [hJ.out]; rfl, hM8.ex, by rw [hJ.out]; exact mono_FmR _ _ _ _ hM8.ub hF⟩
def simpleE (f : Fm) : Fm × Int := if validF f = 0 then (simpF f, 0) else (noF, validF f)
def pushE (f : Fm) : Fm × Int := if validF f = 0 then (if validF (pushP f) = 0 then (pushP f, 0) else (noF, 4)) else (noF, validF f)
set_option maxRecDepth 100000 in
set_option maxHeartbeats 8000000 in
theorem fsimple_c (f : Fm) (cs : List Value) (w : World) (hr : FmR (ph w) cs f) (hb : f.bulk ≤ 400000) : Calls Tryz.prog 67 #[.agg cs.toArray] w (PushQ w (simpleE f)) := by
  have hr0 := hr
  obtain ⟨a3, c3, a4, c4, rfl, -⟩ := hr.form
  by_cases hf : validF f = 0
  · have hw := (validF_0 hf).2.2
    have hres : simpleE f = (simpF f, 0) := by unfold simpleE; rw [if_pos hf]
    rw [hres]
    have n0 : ((0 : Int) != 0) = false := rfl
    have hM := ((Mem.start w (ph w) (fun _ _ h => h)).new' #[.int .i64 f.op, .int .i64 f.n, .slice a3 f.inn.length c3, .slice a4 f.kids.length c4] 50 (n := w.heap.size) rfl).new' #[.int .i64 0, .int .i64 0, .slice none 0 0, .slice none 0 0] 50 (n := w.heap.size + 1) (by simp)
    simp only [List.cons_append, List.nil_append] at hM
    unfold fmC at hr ⊢
    go_enter Tryz.func67, Tryz.ntmps67
    go_upto_region 1 with (fail)
    generalize World.alloc _ _ = w1 at *
    generalize hg4 : w.heap.size + 1 = g2 at *
    generalize hg3 : w.heap.size = g1 at *
    have u0 : w1.cell? ⟨g1, 0, none⟩ = some (.int .i64 f.op) := (hM.box 0 rfl).facts.1 0
    have u1 : w1.cell? ⟨g1, 1, none⟩ = some (.int .i64 f.n) := (hM.box 0 rfl).facts.1 1
    have u2 : w1.cell? ⟨g1, 2, none⟩ = some (.slice a3 f.inn.length c3) := (hM.box 0 rfl).facts.1 2
    have u3 : w1.cell? ⟨g1, 3, none⟩ = some (.slice a4 f.kids.length c4) := (hM.box 0 rfl).facts.1 3
    have ul := (hM.box 0 rfl).lt
    have hv := fvalid_c f (fmC f a3 c3 a4 c4) w1 (mono_FmR _ _ _ _ hM.ple hr0) (by omega)
    rw [hf] at hv
    go_wp2_with fail
    refine RetV_at hv ?_
    intro w2 hx2
    replace hM := hM.ext hx2
    clear u0 u1 u2 u3 ul hv hx2
    have u0 : w2.cell? ⟨g1, 0, none⟩ = some (.int .i64 f.op) := (hM.box 0 rfl).facts.1 0
    have u1 : w2.cell? ⟨g1, 1, none⟩ = some (.int .i64 f.n) := (hM.box 0 rfl).facts.1 1
    have u2 : w2.cell? ⟨g1, 2, none⟩ = some (.slice a3 f.inn.length c3) := (hM.box 0 rfl).facts.1 2
    have u3 : w2.cell? ⟨g1, 3, none⟩ = some (.slice a4 f.kids.length c4) := (hM.box 0 rfl).facts.1 3
    have ul := (hM.box 0 rfl).lt
    have hcall := simple_c f (ph w) (fmC f a3 c3 a4 c4) w2 hM.ple hr0 hw hb
    unfold fmC at hcall
    generalize simpF f = R at *
    go_wp2_with fail
    refine hcall.mono ?_
    rintro e w4 ⟨p3, q3, p4, q4, rfl, hx4, hQ⟩
    have hM4 := hM.up hx4
    generalize up (ph w) w2 w4 = H4 at *
    clear hM hcall u0 u1 u2 u3 ul hx4
    have rz0 : _ = some (Value.int .i64 0) := (hM4.box 1 rfl).facts.1 0
    have rz1 : _ = some (Value.int .i64 0) := (hM4.box 1 rfl).facts.1 1
    have rz2 : _ = some (Value.slice none 0 0) := (hM4.box 1 rfl).facts.1 2
    have rz3 : _ = some (Value.slice none 0 0) := (hM4.box 1 rfl).facts.1 3
    obtain ⟨-, rzf⟩ := (hM4.box 1 rfl).facts
    have rzl := (hM4.box 1 rfl).lt
    have hM8 := hM4.set4 1 rfl (.int .i64 R.op) (.int .i64 R.n) (.slice p3 R.inn.length q3) (.slice p4 R.kids.length q4)
    simp only [List.set_cons_zero, List.set_cons_succ] at hM8
    clear hM4
    go_wp2_with fail
    generalize World.setCell _ _ _ = w9 at *
    obtain ⟨rq', -⟩ := (hM8.box 1 rfl).facts
    have rq0 : _ = some ((.int .i64 R.op) : Value) := rq' 0
    have rq1 : _ = some ((.int .i64 R.n) : Value) := rq' 1
    have rq2 : _ = some ((.slice p3 R.inn.length q3) : Value) := rq' 2
    have rq3 : _ = some ((.slice p4 R.kids.length q4) : Value) := rq' 3
    refine bodyPost_ret (v := .tuple #[.agg #[(.int .i64 R.op), (.int .i64 R.n), (.slice p3 R.inn.length q3), (.slice p4 R.kids.length q4)], .int .i64 0]) (by simp [results, Tryz.results67, go_sem, rq0, rq1, rq2, rq3]) rfl ?_
    exact ⟨p3, q3, p4, q4, rfl, hM8.ex, mono_FmR _ _ _ _ hM8.ple hQ⟩
  · have hres : simpleE f = (noF, validF f) := by unfold simpleE; rw [if_neg hf]
    rw [hres]
    obtain ⟨z, hz⟩ : ∃ z, validF f = z := ⟨_, rfl⟩
    rw [hz] at hf ⊢
    have n0 : (z != 0) = true := by simpa using hf
    clear hf
    have hf := hz
    clear hz hres
    have hM := ((Mem.start w (ph w) (fun _ _ h => h)).new' #[.int .i64 f.op, .int .i64 f.n, .slice a3 f.inn.length c3, .slice a4 f.kids.length c4] 50 (n := w.heap.size) rfl).new' #[.int .i64 0, .int .i64 0, .slice none 0 0, .slice none 0 0] 50 (n := w.heap.size + 1) (by simp)
    simp only [List.cons_append, List.nil_append] at hM
    unfold fmC at hr ⊢
    go_enter Tryz.func67, Tryz.ntmps67
    go_upto_region 1 with (fail)
    generalize World.alloc _ _ = w1 at *
    generalize hg4 : w.heap.size + 1 = g2 at *
    generalize hg3 : w.heap.size = g1 at *
    have u0 : w1.cell? ⟨g1, 0, none⟩ = some (.int .i64 f.op) := (hM.box 0 rfl).facts.1 0
    have u1 : w1.cell? ⟨g1, 1, none⟩ = some (.int .i64 f.n) := (hM.box 0 rfl).facts.1 1
    have u2 : w1.cell? ⟨g1, 2, none⟩ = some (.slice a3 f.inn.length c3) := (hM.box 0 rfl).facts.1 2
    have u3 : w1.cell? ⟨g1, 3, none⟩ = some (.slice a4 f.kids.length c4) := (hM.box 0 rfl).facts.1 3
    have ul := (hM.box 0 rfl).lt
    have hv := fvalid_c f (fmC f a3 c3 a4 c4) w1 (mono_FmR _ _ _ _ hM.ple hr0) (by omega)
    rw [hf] at hv
    clear hf
    go_wp2_with fail
    refine RetV_at hv ?_
    intro w2 hx2
    replace hM := hM.ext hx2
    clear u0 u1 u2 u3 ul hv hx2
    have rz0 : _ = some (Value.int .i64 0) := (hM.box 1 rfl).facts.1 0
    have rz1 : _ = some (Value.int .i64 0) := (hM.box 1 rfl).facts.1 1
    have rz2 : _ = some (Value.slice none 0 0) := (hM.box 1 rfl).facts.1 2
    have rz3 : _ = some (Value.slice none 0 0) := (hM.box 1 rfl).facts.1 3
    obtain ⟨-, rzf⟩ := (hM.box 1 rfl).facts
    have rzl := (hM.box 1 rfl).lt
    have hM8 := hM.set4 1 rfl (.int .i64 0) (.int .i64 0) (.slice none 0 0) (.slice none 0 0)
    simp only [List.set_cons_zero, List.set_cons_succ] at hM8
    clear hM
    go_wp2_with fail
    generalize World.setCell _ _ _ = w9 at *
    obtain ⟨rq', -⟩ := (hM8.box 1 rfl).facts
    have rq0 : _ = some ((.int .i64 0) : Value) := rq' 0
    have rq1 : _ = some ((.int .i64 0) : Value) := rq' 1
    have rq2 : _ = some ((.slice none 0 0) : Value) := rq' 2
    have rq3 : _ = some ((.slice none 0 0) : Value) := rq' 3
    refine bodyPost_ret (v := .tuple #[.agg #[(.int .i64 0), (.int .i64 0), (.slice none 0 0), (.slice none 0 0)], .int .i64 z]) (by simp [results, Tryz.results67, go_sem, rq0, rq1, rq2, rq3]) rfl ?_
    exact ⟨none, 0, none, 0, rfl, hM8.ex, noF_R _⟩
set_option maxRecDepth 100000 in
set_option maxHeartbeats 8000000 in
theorem fpush_c (f : Fm) (cs : List Value) (w : World) (hr : FmR (ph w) cs f) (hb : f.bulk ≤ 400000) : Calls Tryz.prog 65 #[.agg cs.toArray] w (PushQ w (pushE f)) := by
  have hr0 := hr
  obtain ⟨a3, c3, a4, c4, rfl, -⟩ := hr.form
  by_cases hf : validF f = 0
  · by_cases hp : validF (pushP f) = 0
    · have hres : pushE f = (pushP f, 0) := by unfold pushE; rw [if_pos hf, if_pos hp]
      rw [hres]
      exact push_c f _ w hr hf hp
    · have hres : pushE f = (noF, 4) := by unfold pushE; rw [if_pos hf, if_neg hp]
      rw [hres]
      clear hres
      have hb2 := (push_bulk f).1
      have hb1 := valid_bulk hf
      have hw := (validF_0 hf).2.2
      have n0 : ((0 : Int) != 0) = false := rfl
      have hM := ((Mem.start w (ph w) (fun _ _ h => h)).new' #[.int .i64 f.op, .int .i64 f.n, .slice a3 f.inn.length c3, .slice a4 f.kids.length c4] 50 (n := w.heap.size) rfl).new' #[.int .i64 0, .int .i64 0, .slice none 0 0, .slice none 0 0] 50 (n := w.heap.size + 1) (by simp)
      simp only [List.cons_append, List.nil_append] at hM
      unfold fmC at hr ⊢
      go_enter Tryz.func65, Tryz.ntmps65
      go_upto_region 1 with (fail)
      generalize World.alloc _ _ = w1 at *
      generalize hg4 : w.heap.size + 1 = g2 at *
      generalize hg3 : w.heap.size = g1 at *
      have u0 : w1.cell? ⟨g1, 0, none⟩ = some (.int .i64 f.op) := (hM.box 0 rfl).facts.1 0
      have u1 : w1.cell? ⟨g1, 1, none⟩ = some (.int .i64 f.n) := (hM.box 0 rfl).facts.1 1
      have u2 : w1.cell? ⟨g1, 2, none⟩ = some (.slice a3 f.inn.length c3) := (hM.box 0 rfl).facts.1 2
      have u3 : w1.cell? ⟨g1, 3, none⟩ = some (.slice a4 f.kids.length c4) := (hM.box 0 rfl).facts.1 3
      have ul := (hM.box 0 rfl).lt
      have hv := fvalid_c f (fmC f a3 c3 a4 c4) w1 (mono_FmR _ _ _ _ hM.ple hr0) (by omega)
      rw [hf] at hv
      go_wp2_with fail
      refine RetV_at hv ?_
      intro w2 hx2
      replace hM := hM.ext hx2
      clear u0 u1 u2 u3 ul hv hx2
      have hM3 := (hM.new' #[.func (.func 102) #[] #[.pointer (some ⟨w2.heap.size + 1, 0, none⟩), .pointer (some ⟨w2.heap.size, 0, none⟩)]] 110 (n := w2.heap.size) rfl).new' #[.func (.func 104) #[] #[.pointer (some ⟨w2.heap.size, 0, none⟩), .pointer (some ⟨w2.heap.size + 1, 0, none⟩)]] 110 (n := w2.heap.size + 1) (by simp)
      simp only [List.cons_append, List.nil_append] at hM3
      clear hM
      go_upto_region 7 with (fail)
      generalize World.alloc _ _ = w3 at *
      generalize hg6 : w2.heap.size + 1 = g6 at *
      generalize hg5 : w2.heap.size = g5 at *
      have u0 : w3.cell? ⟨g1, 0, none⟩ = some (.int .i64 f.op) := (hM3.box 0 rfl).facts.1 0
      have u1 : w3.cell? ⟨g1, 1, none⟩ = some (.int .i64 f.n) := (hM3.box 0 rfl).facts.1 1
      have u2 : w3.cell? ⟨g1, 2, none⟩ = some (.slice a3 f.inn.length c3) := (hM3.box 0 rfl).facts.1 2
      have u3 : w3.cell? ⟨g1, 3, none⟩ = some (.slice a4 f.kids.length c4) := (hM3.box 0 rfl).facts.1 3
      have ul := (hM3.box 0 rfl).lt
      have hc5 : w3.cell? ⟨g5, 0, none⟩ = some (.func (.func 102) #[] #[.pointer (some ⟨g6, 0, none⟩), .pointer (some ⟨g5, 0, none⟩)]) := (hM3.box 2 rfl).facts.1 0
      have hc6 : w3.cell? ⟨g6, 0, none⟩ = some (.func (.func 104) #[] #[.pointer (some ⟨g5, 0, none⟩), .pointer (some ⟨g6, 0, none⟩)]) := (hM3.box 3 rfl).facts.1 0
      have l5 : g5 < w3.heap.size := cell_lt hc5
      have hcall := (push_fc g5 g6 f (ph w) (fmC f a3 c3 a4 c4) w3 hc5 hc6 hM3.ple hr0 hw (by omega)).1
      have hfn1 := fun args w => enterFn Tryz.func102 rfl rfl args w
      unfold fmC at hcall
      generalize pushP f = R at *
      go_wp2_with fail
      refine hcall.mono ?_
      rintro e w4 ⟨p3, q3, p4, q4, rfl, hx4, hQ⟩
      have hM4 := hM3.up hx4
      generalize up (ph w) w3 w4 = H4 at *
      clear hM3 hcall hfn1 u0 u1 u2 u3 ul hc5 hc6 l5 hx4
      go_upto_region 8 with (fail)
      have hM5 := (hM4.pick [1] (by decide)).new' #[.int .i64 R.op, .int .i64 R.n, .slice p3 R.inn.length q3, .slice p4 R.kids.length q4] 50 (n := w4.heap.size) rfl
      simp only [List.map_cons, List.map_nil, List.getElem?_cons_zero, List.getElem?_cons_succ, Option.getD_some, List.cons_append, List.nil_append] at hM5
      clear hM4
      generalize w4.alloc _ = w5 at *
      generalize w4.heap.size = g7 at *
      have u0 : w5.cell? ⟨g7, 0, none⟩ = some (.int .i64 R.op) := (hM5.box 1 rfl).facts.1 0
      have u1 : w5.cell? ⟨g7, 1, none⟩ = some (.int .i64 R.n) := (hM5.box 1 rfl).facts.1 1
      have u2 : w5.cell? ⟨g7, 2, none⟩ = some (.slice p3 R.inn.length q3) := (hM5.box 1 rfl).facts.1 2
      have u3 : w5.cell? ⟨g7, 3, none⟩ = some (.slice p4 R.kids.length q4) := (hM5.box 1 rfl).facts.1 3
      have ul := (hM5.box 1 rfl).lt
      have hv := fvalid_c R (fmC R p3 q3 p4 q4) w5 (mono_FmR _ _ _ _ hM5.ple hQ) (by omega)
      have n1 : (validF R != 0) = true := by simpa using hp
      generalize validF R = z at *
      clear hp
      unfold fmC at hv
      go_wp2_with fail
      refine RetV_at hv ?_
      intro w6 hx6
      replace hM5 := hM5.ext hx6
      clear u0 u1 u2 u3 ul hv hx6
      have rz0 : _ = some (Value.int .i64 0) := (hM5.box 0 rfl).facts.1 0
      have rz1 : _ = some (Value.int .i64 0) := (hM5.box 0 rfl).facts.1 1
      have rz2 : _ = some (Value.slice none 0 0) := (hM5.box 0 rfl).facts.1 2
      have rz3 : _ = some (Value.slice none 0 0) := (hM5.box 0 rfl).facts.1 3
      obtain ⟨-, rzf⟩ := (hM5.box 0 rfl).facts
      have rzl := (hM5.box 0 rfl).lt
      have hM8 := hM5.set4 0 rfl (.int .i64 0) (.int .i64 0) (.slice none 0 0) (.slice none 0 0)
      simp only [List.set_cons_zero, List.set_cons_succ] at hM8
      clear hM5
      go_wp2_with fail
      generalize World.setCell _ _ _ = w9 at *
      obtain ⟨rq', -⟩ := (hM8.box 0 rfl).facts
      have rq0 : _ = some ((.int .i64 0) : Value) := rq' 0
      have rq1 : _ = some ((.int .i64 0) : Value) := rq' 1
      have rq2 : _ = some ((.slice none 0 0) : Value) := rq' 2
      have rq3 : _ = some ((.slice none 0 0) : Value) := rq' 3
      refine bodyPost_ret (v := .tuple #[.agg #[(.int .i64 0), (.int .i64 0), (.slice none 0 0), (.slice none 0 0)], .int .i64 4]) (by simp [results, Tryz.results65, go_sem, rq0, rq1, rq2, rq3]) rfl ?_
      exact ⟨none, 0, none, 0, rfl, hM8.ex, noF_R _⟩
  · have hres : pushE f = (noF, validF f) := by unfold pushE; rw [if_neg hf]
    rw [hres]
    obtain ⟨z, hz⟩ : ∃ z, validF f = z := ⟨_, rfl⟩
    rw [hz] at hf ⊢
    have n0 : (z != 0) = true := by simpa using hf
    clear hf
    have hf := hz
    clear hz hres
    have hM := ((Mem.start w (ph w) (fun _ _ h => h)).new' #[.int .i64 f.op, .int .i64 f.n, .slice a3 f.inn.length c3, .slice a4 f.kids.length c4] 50 (n := w.heap.size) rfl).new' #[.int .i64 0, .int .i64 0, .slice none 0 0, .slice none 0 0] 50 (n := w.heap.size + 1) (by simp)
    simp only [List.cons_append, List.nil_append] at hM
    unfold fmC at hr ⊢
    go_enter Tryz.func65, Tryz.ntmps65
    go_upto_region 1 with (fail)
    generalize World.alloc _ _ = w1 at *
    generalize hg4 : w.heap.size + 1 = g2 at *
    generalize hg3 : w.heap.size = g1 at *
    have u0 : w1.cell? ⟨g1, 0, none⟩ = some (.int .i64 f.op) := (hM.box 0 rfl).facts.1 0
    have u1 : w1.cell? ⟨g1, 1, none⟩ = some (.int .i64 f.n) := (hM.box 0 rfl).facts.1 1
    have u2 : w1.cell? ⟨g1, 2, none⟩ = some (.slice a3 f.inn.length c3) := (hM.box 0 rfl).facts.1 2
    have u3 : w1.cell? ⟨g1, 3, none⟩ = some (.slice a4 f.kids.length c4) := (hM.box 0 rfl).facts.1 3
    have ul := (hM.box 0 rfl).lt
    have hv := fvalid_c f (fmC f a3 c3 a4 c4) w1 (mono_FmR _ _ _ _ hM.ple hr0) (by omega)
    rw [hf] at hv
    clear hf
    go_wp2_with fail
    refine RetV_at hv ?_
    intro w2 hx2
    replace hM := hM.ext hx2
    clear u0 u1 u2 u3 ul hv hx2
    have rz0 : _ = some (Value.int .i64 0) := (hM.box 1 rfl).facts.1 0
    have rz1 : _ = some (Value.int .i64 0) := (hM.box 1 rfl).facts.1 1
    have rz2 : _ = some (Value.slice none 0 0) := (hM.box 1 rfl).facts.1 2
    have rz3 : _ = some (Value.slice none 0 0) := (hM.box 1 rfl).facts.1 3
    obtain ⟨-, rzf⟩ := (hM.box 1 rfl).facts
    have rzl := (hM.box 1 rfl).lt
    have hM8 := hM.set4 1 rfl (.int .i64 0) (.int .i64 0) (.slice none 0 0) (.slice none 0 0)
    simp only [List.set_cons_zero, List.set_cons_succ] at hM8
    clear hM
    go_wp2_with fail
    generalize World.setCell _ _ _ = w9 at *
    obtain ⟨rq', -⟩ := (hM8.box 1 rfl).facts
    have rq0 : _ = some ((.int .i64 0) : Value) := rq' 0
    have rq1 : _ = some ((.int .i64 0) : Value) := rq' 1
    have rq2 : _ = some ((.slice none 0 0) : Value) := rq' 2
    have rq3 : _ = some ((.slice none 0 0) : Value) := rq' 3
    refine bodyPost_ret (v := .tuple #[.agg #[(.int .i64 0), (.int .i64 0), (.slice none 0 0), (.slice none 0 0)], .int .i64 z]) (by simp [results, Tryz.results65, go_sem, rq0, rq1, rq2, rq3]) rfl ?_
    exact ⟨none, 0, none, 0, rfl, hM8.ex, noF_R _⟩
end Go.Proofs.YtnpnjcaomakehaaGreat
namespace Go.Proofs.YtnpnjcaomakehaaGreat
open Go.RowKit
mutual
def lowF (n : Int) : Fm → Bool
  | .mk op m inn kids => (!decide (op = 1) || decide (m < n)) && lowFs n kids
def lowFs (n : Int) : List Fm → Bool
  | [] => true
  | f :: l => lowF n f && lowFs n l
end
theorem lowFs_eq (n : Int) : ∀ l : List Fm, lowFs n l = l.all (lowF n)
  | [] => rfl
  | f :: l => by rw [lowFs, List.all_cons, lowFs_eq n l]
theorem lowF_eq (n : Int) (f : Fm) : lowF n f = ((!decide (f.op = 1) || decide (f.n < n)) && f.kids.all (lowF n)) := by
  cases f with
  | mk op m inn kids => rw [lowF, lowFs_eq]; rfl
theorem wholeN_low (n : Int) (f : Fm) : wholeN n f = (wholeB f && lowF n f) := by
  induction f using Fm.ind with
  | h f ih =>
    rw [wholeN_eq, wholeB_eq, lowF_eq]
    have : f.kids.all (wholeN n) = (f.kids.all wholeB && f.kids.all (lowF n)) := by
      rw [Bool.eq_iff_iff, Bool.and_eq_true]
      simp only [List.all_eq_true]
      constructor
      · intro h
        exact ⟨fun x hx => by have := h x hx; rw [ih x hx, Bool.and_eq_true] at this; exact this.1, fun x hx => by have := h x hx; rw [ih x hx, Bool.and_eq_true] at this; exact this.2⟩
      · rintro ⟨h1, h2⟩ x hx
        rw [ih x hx, h1 x hx, h2 x hx]; rfl
    rw [this]
    cases formed1 f <;> cases (!decide (f.op = 1) || decide (f.n < n)) <;> cases f.kids.all wholeB <;> cases f.kids.all (lowF n) <;> rfl
noncomputable def lowT (n : Int) (t : Thing) : Bool := B (t.clsLt n)
theorem lowT_eq (n : Int) (t : Thing) : lowT n t = (t.cls.all (fun x => decide (x < n)) && t.parts.all (lowT n)) := by
  unfold lowT
  rw [Bool.eq_iff_iff, B_iff, Thing.clsLt_iff, Bool.and_eq_true, List.all_eq_true, List.all_eq_true]
  simp only [B_iff, decide_eq_true_eq]
end Go.Proofs.YtnpnjcaomakehaaGreat
namespace Go.Proofs.YtnpnjcaomakehaaGreat
open Go.RowKit Go.Shelf
noncomputable def holdE (ps : List (List Int)) (f : Fm) (t : Thing) : Bool × Int :=
  if validF f ≠ 0 then (false, validF f) else if validV t ≠ 0 then (false, validV t) else if lowF ps.length f && lowT ps.length t then (hold ps f t, 0) else (false, 7)
theorem holdE_1 {ps : List (List Int)} {f : Fm} {t : Thing} (h : validF f ≠ 0) : holdE ps f t = (false, validF f) := by unfold holdE; rw [if_pos h]
theorem holdE_2 {ps : List (List Int)} {f : Fm} {t : Thing} (h : validF f = 0) (h2 : validV t ≠ 0) : holdE ps f t = (false, validV t) := by unfold holdE; rw [if_neg (by simp [h]), if_pos h2]
theorem holdE_3 {ps : List (List Int)} {f : Fm} {t : Thing} (h : validF f = 0) (h2 : validV t = 0) (h3 : (lowF ps.length f && lowT ps.length t) = false) : holdE ps f t = (false, 7) := by unfold holdE; rw [if_neg (by simp [h]), if_neg (by simp [h2]), if_neg (by simp [h3])]
theorem holdE_4 {ps : List (List Int)} {f : Fm} {t : Thing} (h : validF f = 0) (h2 : validV t = 0) (h3 : (lowF ps.length f && lowT ps.length t) = true) : holdE ps f t = (hold ps f t, 0) := by unfold holdE; rw [if_neg (by simp [h]), if_neg (by simp [h2]), if_pos h3]
theorem valid_whole {f : Fm} (h : validF f = 0) : wholeB f = true := by
  unfold validF at h
  split at h
  · omega
  · split at h
    · assumption
    · omega
def HoldE (w : World) (r : Bool × Int) (e : Ending) (w' : World) : Prop := e = .returned (.tuple #[.bool r.1, .int .i64 r.2]) ∧ Ext w w'
end Go.Proofs.YtnpnjcaomakehaaGreat
