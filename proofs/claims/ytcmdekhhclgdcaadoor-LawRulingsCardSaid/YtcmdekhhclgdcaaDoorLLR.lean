/- LawRulings: the walk. -/
import Derived.Test.YtcmdekhhclgdcaaDoorLLi
import Derived.Test.YtcmdekhhclgdcaaDoorLAc
namespace Go.Proofs.YtcmdekhhclgdcaaDoor
open Go.RowKit Go.Shelf
set_option linter.unusedSimpArgs false
set_option linter.unusedVariables false
theorem fill_act4 (X Y Z T : Ac) : Instr.fill (fun i => some (i * 19, 19)) (Array.map (fun x => (Value.agg #[Value.int .i64 0, Value.int .i64 0, Value.int .i64 0, Value.int .i64 0, Value.int .i64 0, Value.int .i64 0, Value.int .i64 0, Value.int .i64 0, Value.int .i64 0, Value.int .i64 0, Value.int .i64 0, Value.slice none 0 0, Value.slice none 0 0, Value.slice none 0 0, Value.slice none 0 0, Value.int .i64 0, Value.int .i64 0, Value.slice none 0 0, Value.slice none 0 0]).cells[x % (Value.agg #[Value.int .i64 0, Value.int .i64 0, Value.int .i64 0, Value.int .i64 0, Value.int .i64 0, Value.int .i64 0, Value.int .i64 0, Value.int .i64 0, Value.int .i64 0, Value.int .i64 0, Value.int .i64 0, Value.slice none 0 0, Value.slice none 0 0, Value.slice none 0 0, Value.slice none 0 0, Value.int .i64 0, Value.int .i64 0, Value.slice none 0 0, Value.slice none 0 0]).cells.size]!) (Array.range (4 * 19))) [(0, Value.agg (actC X).toArray), (1, Value.agg (actC Y).toArray), (2, Value.agg (actC Z).toArray), (3, Value.agg (actC T).toArray)] = some (actC X ++ (actC Y ++ (actC Z ++ actC T))).toArray := by kernel_rfl
theorem wpList_slice_act4 {ops : Array Oper} {rest : List Oper} {o : Oper} {a : Act} {w : World} {Q : Exit → Act → World → Prop} (hg : o.guard = none) (x y z t : Operand) (ho : o.op = .buildSlice 24 4 #[(0, x), (1, y), (2, z), (3, t)]) (X Y Z T : Ac)
    (hx : a.eval x = .agg (actC X).toArray) (hy : a.eval y = .agg (actC Y).toArray) (hz : a.eval z = .agg (actC Z).toArray) (ht : a.eval t = .agg (actC T).toArray)
    (h : wpList Tryd.prog ops Q rest (a.put o.dst (.slice (some ⟨w.heap.size, 0, none⟩) 4 4)) (w.alloc (.cells (actC X ++ (actC Y ++ (actC Z ++ actC T))).toArray 63))) : wpList Tryd.prog ops Q (o :: rest) a w := by
  obtain ⟨i, hi, hz0, hz1, hz2⟩ := info_parts infoAct
  refine wpList_buildSlice hg _ 63 4 _ ho (actC X ++ (actC Y ++ (actC Z ++ actC T))).toArray i _ Tryd.underlying24 hi hz0 (by rw [hz1]; decide) (by rw [hz1]; decide) ?_ h
  rw [hz1]
  simp only [List.map_toArray, List.map_cons, List.map_nil, hx, hy, hz, ht]
  exact fill_act4 X Y Z T
/-- the rulings that count on a day -/
def fewB (d : Int) (x : Ac) : Bool := x.kind == 21 && (x.office == 1 && (x.number == 2 && decide (x.day ≤ d)))
theorem few_of {d : Int} {x : Ac} (h : rulB 1 2 x = true) (hd : x.day ≤ d) : fewB d x = true := by
  unfold rulB at h
  simp only [Bool.and_eq_true] at h
  unfold fewB
  simp [hd]
  obtain ⟨h1, h2, h3, -, -⟩ := h
  exact ⟨by simpa using h1, by simpa using h2, by simpa using h3⟩
theorem rulingsLaw {xs : List Ac} {d y : Int} (d0 : 0 ≤ d) (y0 : 0 ≤ y) :
    valR 1 2 d xs.reverse 4 = valR 1 2 d xs 4 ∧ valR 1 2 d (xs.reverse.filter (fewB d)) 4 = valR 1 2 d xs 4 ∧
    valR 1 2 d ([⟨21, d + 1, 0, 0, 1, 0, 0, 2, 77⟩, ⟨21, 0, 99, 0, 1, 0, 0, 2, 121 + y⟩, ⟨20, 0, 0, 0, 1, 0, 0, 2, 9⟩, ⟨21, -1, 0, 0, 1, 0, 0, 2, 9⟩] ++ xs.reverse) 4 = valR 1 2 d xs 4 := by
  refine ⟨valR_eq (valR_P ..) fun b hr hd => by simp, valR_eq (valR_P ..) fun b hr hd => ?_, valR_eq (valR_P ..) fun b hr hd => ?_⟩
  · rw [List.mem_filter, List.mem_reverse]
    exact ⟨fun h => h.1, fun h => ⟨h, few_of hr hd⟩⟩
  · rw [List.mem_append, List.mem_reverse]
    constructor
    · rintro (h | h)
      · exfalso
        unfold rulB inB inR inB loR hiR at hr
        simp only [List.mem_cons, List.not_mem_nil, or_false] at h
        rcases h with rfl | rfl | rfl | rfl
        · dsimp only at hd; omega
        · simp at hr; omega
        · simp at hr
        · simp at hr
      · exact h
    · exact fun h => .inr h
set_option maxRecDepth 100000 in
set_option maxHeartbeats 40000000 in
theorem lawRulings_c (m : List Int) (vm : Value) (day by' : Int) (w : World) (hm : IntsR (ph w) vm m) (hd : I64 day) (hby : I64 by') (hV : VL (ph w)) (hR : VR (ph w)) :
    Calls Tryd.prog 10 #[vm, .int .i64 day, .int .i64 by'] w (RetV w (.bool true)) := by
  have har := fun w => around_c day 131000 w hd (by omega) (by omega)
  obtain ⟨d0, d1⟩ := aroundV_range (m := 131000) hd (by omega)
  generalize aroundV day 131000 = d at *
  have har2 := fun w => around_c by' 99 w hby (by omega) (by omega)
  obtain ⟨y0, y1⟩ := aroundV_range (m := 99) hby (by omega)
  generalize aroundV by' 99 = y at *
  have hac := fun w hm => acts17_c m vm d 12 w hm d0 (by omega) (by omega)
  obtain ⟨ma, mc, rfl, mlen, hm⟩ := hm.form
  go_enter Tryd.func10, Tryd.ntmps10
  go_wp2_with fail
  refine RetV_at (har _) ?_
  intro w2 hx2
  go_wp2_with fail
  refine (hac _ (hm.mono mono_IntR hx2.ple)).mono ?_
  rintro e w3 ⟨va, xs, rfl, hx3', hxl, -, hA⟩
  have hx3 := hx2.then hx3'
  have hxlen : xs.length ≤ 12 := by omega
  replace hA : ActsR (ph w3) va xs := hA.rep mono_ActR (noH_le _)
  obtain ⟨aa, ac, rfl, -, -⟩ := id hA.form
  clear hac har hxl hx3' hx2 hm
  have hM0 := ((Mem.start w3 noH (noH_le _)).nil mono_ActR 19 63).nil mono_ActR 19 63
  simp only [List.nil_append, List.cons_append] at hM0
  obtain ⟨N, hN⟩ : ∃ N, xs.length = N := ⟨_, rfl⟩
  rw [hN] at hA
  rw [hN] at hxlen
  simp only [hN]
  replace hN := Lib.hid hN
  go_wp2_with fail
  go_loopw [9, 10, 11] (fun v1 v2 vi wr => ∃ (k : Nat) (ts fs : List Ac), k ≤ N ∧ vi = .int .i64 ((k : Int) - 1) ∧ Hid (ts = (xs.drop k).reverse ∧ fs = ts.filter (fewB d)) ∧ Mem w3 noH [own mono_ActR 19 63 v1 ts, own mono_ActR 19 63 v2 fs] noH wr) (fun _ _ vi _ => (intOf vi + 1).toNat)
  case atStart => exact ⟨N, [], [], by omega, by go_num, Lib.hid (by rw [← hN.out, List.drop_length]; exact ⟨rfl, rfl⟩), hM0⟩
  case round =>
    clear hM0
    obtain ⟨k, ts, fs, hk, rfl, hts, hM⟩ := hrel
    obtain ⟨ta, tc, rfl, -⟩ := hM.form 0 rfl
    obtain ⟨fa, fc, rfl, -⟩ := hM.form 1 rfl
    have htl : Hid (ts.length = N - k) := Lib.hid (by rw [hts.out.1]; simp [hN.out])
    have hfl : Hid (fs.length ≤ N - k) := Lib.hid (by rw [hts.out.2, ← htl.out]; exact List.length_filter_le _ _)
    by_cases h0 : 0 < k
    · have hk1 : k - 1 < N := by omega
      have hxk : k - 1 < xs.length := by rw [hN.out]; exact hk1
      obtain ⟨gb, go, rfl, gc, gl, hI⟩ := ActsR.row (hA.mono mono_ActR hM.ex.ple) (k - 1) hxk
      have hts2 : Hid (ts ++ [xs[k - 1]] = (xs.drop (k - 1)).reverse) := Lib.hid (by
        have e := List.drop_eq_getElem_cons hxk
        rw [show k - 1 + 1 = k by omega] at e
        rw [hts.out.1, e, List.reverse_cons])
      generalize xs[k - 1] = x at *
      replace gc := Lib.hid gc
      have hja : decide (0 ≤ (k : Int) - 1) = true := decide_eq_true (by omega)
      have hwk : (k : Int) - 1 = ((k - 1 : Nat) : Int) := by omega
      have hki : ((k - 1 : Nat) : Int) < (N : Int) := by omega
      have hM3 := hM.new (actC x).toArray 63
      simp only [List.nil_append, List.cons_append] at hM3
      go_upto_region 7 with (fail)
      go_upto_region 8 with (first | (refine wpList_load_mid rfl 63 _ rfl _ _ rfl (actC _) _ gc.out Tryd.underlying63 rfl (by kernel_rfl) ?_) | (refine wpList_store_new rfl 63 _ _ rfl (actC _).toArray rfl rfl 63 _ (by kernel_rfl) rfl (one_act _) ?_))
      generalize hW3 : wr.alloc _ = W3 at *
      generalize wr.heap.size = b12 at *
      clear hW3
      have htb : ts.length ≤ 12 := by have := htl.out; omega
      have hfb : fs.length ≤ 12 := by have := hfl.out; omega
      have hM4 := hM3.allocN (.cells (actC x).toArray 63)
      have hS := Src.lit1 (w := W3.alloc (.cells (actC x).toArray 63)) (b := W3.heap.size) (sz := 19) (E := ActR) (H := noH) (x := x) (cs := actC x) ⟨rfl, hI⟩ rfl (fun j => by rw [(Proofs.YtcmdekhhclgdcaaDoor.Own.new W3 (actC x).toArray 63).facts.1 j]; simp)
      go_upto_region 9 with (first | (refine wpList_load_row rfl 63 _ rfl _ rfl 63 (actC (x)).toArray (0, 0) _ (hM3.box 2 rfl) Tryd.underlying63 rfl (by kernel_rfl) ?_) | (refine wpList_slice_act rfl _ rfl (x) rfl ?_) | (at_builtin; refine wpList_append_M 0 rfl _ _ 24 rfl Tryd.underlying24 infoAct rfl rfl rfl hM4 rfl hS one_ActR (by simp; omega) (by simp; omega) ?c5))
      case c5 =>
        intro v6 w6 hM6
        try simp only [List.set_cons_zero] at hM6
        obtain ⟨na, nc, rfl, -⟩ := hM6.form 0 rfl
        have q0 : _ = some (Value.int .i64 x.kind) := (hM6.box 2 rfl).facts.1 0
        have q1 : _ = some (Value.int .i64 x.day) := (hM6.box 2 rfl).facts.1 1
        have q4 : _ = some (Value.int .i64 x.office) := (hM6.box 2 rfl).facts.1 4
        have q7 : _ = some (Value.int .i64 x.number) := (hM6.box 2 rfl).facts.1 7
        have hsz : b12 < w6.heap.size := hM6.lt (i := 2) rfl rfl
        have hcs : (((x.kind == 21) = false ∨ (x.kind == 21) = true ∧ (x.office == 1) = false ∨ (x.kind == 21) = true ∧ (x.office == 1) = true ∧ (x.number == 2) = false ∨ (x.kind == 21) = true ∧ (x.office == 1) = true ∧ (x.number == 2) = true ∧ decide (x.day ≤ d) = false) ∧ Hid ((ts ++ [x]).filter (fewB d) = fs)) ∨
            ((x.kind == 21) = true ∧ (x.office == 1) = true ∧ (x.number == 2) = true ∧ decide (x.day ≤ d) = true ∧ Hid ((ts ++ [x]).filter (fewB d) = fs ++ [x])) := by
          have e : (ts ++ [x]).filter (fewB d) = fs ++ [x].filter (fewB d) := by rw [List.filter_append, ← hts.out.2]
          unfold Hid
          rw [e]
          have f1 : fewB d x = (x.kind == 21 && (x.office == 1 && (x.number == 2 && decide (x.day ≤ d)))) := rfl
          have f2 : [x].filter (fewB d) = if fewB d x = true then [x] else [] := by simp [List.filter_cons]
          rw [f2, f1]
          cases h1 : x.kind == 21
          · exact .inl ⟨.inl rfl, by simp⟩
          · cases h2 : x.office == 1
            · exact .inl ⟨.inr (.inl ⟨rfl, rfl⟩), by simp⟩
            · cases h3 : x.number == 2
              · exact .inl ⟨.inr (.inr (.inl ⟨rfl, rfl, rfl⟩)), by simp⟩
              · cases h4 : decide (x.day ≤ d)
                · exact .inl ⟨.inr (.inr (.inr ⟨rfl, rfl, rfl, rfl⟩)), by simp⟩
                · exact .inr ⟨rfl, rfl, rfl, rfl, by simp⟩
        clear hM3 hM4 hS htb
        rcases hcs with ⟨hcs, hfe⟩ | ⟨z1, z2, z3, z4, hfe⟩
        · have hM9 := hM6.pick [0, 1] (by decide)
          simp only [List.map_cons, List.map_nil, List.getElem?_cons_zero, List.getElem?_cons_succ, Option.getD_some] at hM9
          rcases hcs with z1 | ⟨z1, z2⟩ | ⟨z1, z2, z3⟩ | ⟨z1, z2, z3, z4⟩
          all_goals
            go_wp2_with fail
            go_roundw
            case rel => exact ⟨k - 1, ts ++ [x], fs, by omega, by go_num, Lib.hid ⟨hts2.out, hfe.out.symm⟩, by simpa using hM9⟩
            case measure => simp [intOf]; omega
        · have hM7 := hM6.allocN (.cells (actC x).toArray 63)
          have hS2 := Src.lit1 (w := w6.alloc (.cells (actC x).toArray 63)) (b := w6.heap.size) (sz := 19) (E := ActR) (H := noH) (x := x) (cs := actC x) ⟨rfl, hI⟩ rfl (fun j => by rw [(Proofs.YtcmdekhhclgdcaaDoor.Own.new w6 (actC x).toArray 63).facts.1 j]; simp)
          go_upto_region 10 with (fail)
          go_upto_region 6 with (first | (refine wpList_load_row rfl 63 _ rfl _ rfl 63 (actC (x)).toArray (0, 0) _ (hM6.box 2 rfl) Tryd.underlying63 rfl (by kernel_rfl) ?_) | (refine wpList_slice_act rfl _ rfl (x) rfl ?_) | (at_builtin; refine wpList_append_M 1 rfl _ _ 24 rfl Tryd.underlying24 infoAct rfl rfl rfl hM7 rfl hS2 one_ActR (by simp; omega) (by simp; omega) ?d5))
          case d5 =>
            intro v8 w8 hM8
            try simp only [List.set_cons_zero, List.set_cons_succ] at hM8
            obtain ⟨nb, nd, rfl, -⟩ := hM8.form 1 rfl
            have hM9 := hM8.pick [0, 1] (by decide)
            simp only [List.map_cons, List.map_nil, List.getElem?_cons_zero, List.getElem?_cons_succ, Option.getD_some] at hM9
            clear hM6 hM7 hM8 hS2
            go_wp2_with fail
            go_roundw
            case rel => exact ⟨k - 1, ts ++ [x], fs ++ [x], by omega, by go_num, Lib.hid ⟨hts2.out, hfe.out.symm⟩, by simpa using hM9⟩
            case measure => simp [intOf]; omega
    · have hja : decide (0 ≤ (k : Int) - 1) = false := decide_eq_false (by omega)
      have hk0 : k = 0 := by omega
      have hts0 : Hid (ts = xs.reverse ∧ fs = xs.reverse.filter (fewB d)) := Lib.hid (by
        have h1 := hts.out.1
        rw [hk0, List.drop_zero] at h1
        exact ⟨h1, by rw [← h1]; exact hts.out.2⟩)
      have htb : ts.length ≤ 12 := by have := htl.out; omega
      have hfb : fs.length ≤ 12 := by have := hfl.out; omega
      have hI1 : Ac.I ⟨21, d + 1, 0, 0, 1, 0, 0, 2, 77⟩ := by unfold Ac.I I64; dsimp only; omega
      have hI2 : Ac.I ⟨21, 0, 99, 0, 1, 0, 0, 2, 121 + y⟩ := by unfold Ac.I I64; dsimp only; omega
      have hI3 : Ac.I ⟨20, 0, 0, 0, 1, 0, 0, 2, 9⟩ := by unfold Ac.I I64; dsimp only; omega
      have hI4 : Ac.I ⟨21, -1, 0, 0, 1, 0, 0, 2, 9⟩ := by unfold Ac.I I64; dsimp only; omega
      clear hts htl hfl
      replace hk0 := Lib.hid hk0
      go_wp2_with (first | (refine wpList_build_act (o := ⟨some 65, _, _, _, _, _⟩) rfl _ rfl ⟨21, d + 1, 0, 0, 1, 0, 0, 2, 77⟩ (by kernel_rfl) ?_))
      refine RetV_at (har2 _) ?_
      intro w6 hx6
      have hM2 := hM.ext hx6
      have hM3 := (hM2.new (actC ⟨21, d + 1, 0, 0, 1, 0, 0, 2, 77⟩ ++ (actC ⟨21, 0, 99, 0, 1, 0, 0, 2, 121 + y⟩ ++ (actC ⟨20, 0, 0, 0, 1, 0, 0, 2, 9⟩ ++ actC ⟨21, -1, 0, 0, 1, 0, 0, 2, 9⟩))).toArray 63).asOwn (xs := [⟨21, d + 1, 0, 0, 1, 0, 0, 2, 77⟩, ⟨21, 0, 99, 0, 1, 0, 0, 2, 121 + y⟩, ⟨20, 0, 0, 0, 1, 0, 0, 2, 9⟩, ⟨21, -1, 0, 0, 1, 0, 0, 2, 9⟩]) (E := ActR) (sz := 19) 2 rfl mono_ActR (n := 4) (by simp) (by decide) rfl ⟨actC ⟨21, d + 1, 0, 0, 1, 0, 0, 2, 77⟩, _, rfl, rfl, ⟨rfl, hI1⟩, actC ⟨21, 0, 99, 0, 1, 0, 0, 2, 121 + y⟩, _, rfl, rfl, ⟨rfl, hI2⟩, actC ⟨20, 0, 0, 0, 1, 0, 0, 2, 9⟩, _, rfl, rfl, ⟨rfl, hI3⟩, actC ⟨21, -1, 0, 0, 1, 0, 0, 2, 9⟩, [], rfl, rfl, ⟨rfl, hI4⟩, rfl⟩
      simp only [List.nil_append, List.cons_append, List.set_cons_zero, List.set_cons_succ] at hM3
      have hS3 := hM3.src 0 rfl
      have hwy : IntKind.i64.wrap (121 + y) = 121 + y := by rw [IntKind.wrap_i64]; omega
      clear hM hM2 har2
      go_upto_region 12 with (first | (refine wpList_build_act (o := ⟨some 69, _, _, _, _, _⟩) rfl _ rfl ⟨21, 0, 99, 0, 1, 0, 0, 2, 121 + y⟩ (by kernel_rfl) ?_) | (refine wpList_build_act (o := ⟨some 70, _, _, _, _, _⟩) rfl _ rfl ⟨20, 0, 0, 0, 1, 0, 0, 2, 9⟩ (by kernel_rfl) ?_) | (refine wpList_build_act (o := ⟨some 71, _, _, _, _, _⟩) rfl _ rfl ⟨21, -1, 0, 0, 1, 0, 0, 2, 9⟩ (by kernel_rfl) ?_) | (refine wpList_slice_act4 rfl _ _ _ _ rfl ⟨21, d + 1, 0, 0, 1, 0, 0, 2, 77⟩ ⟨21, 0, 99, 0, 1, 0, 0, 2, 121 + y⟩ ⟨20, 0, 0, 0, 1, 0, 0, 2, 9⟩ ⟨21, -1, 0, 0, 1, 0, 0, 2, 9⟩ rfl rfl rfl rfl ?_) | (at_builtin; refine wpList_append_M 2 rfl _ _ 24 rfl Tryd.underlying24 infoAct rfl rfl rfl hM3 rfl hS3 one_ActR (by simp; omega) (by simp; omega) ?c6))
      case c6 =>
        intro v7 w7 hM7
        try simp only [List.set_cons_zero, List.set_cons_succ] at hM7
        obtain ⟨na, nc, rfl, -⟩ := hM7.form 2 rfl
        have hAt := hM7.rep 0 rfl
        have hAf := hM7.rep 1 rfl
        have hAn := hM7.rep 2 rfl
        have hx7 := hM7.ex
        have hAx := hA.mono mono_ActR hx7.ple
        obtain ⟨r1, r2, r3⟩ := rulingsLaw (xs := xs) (d := d) (y := y) d0 y0
        rw [← hts0.out.1] at r1 r3
        rw [← hts0.out.2] at r2
        simp only [List.nil_append, List.cons_append] at r3
        have hnl : (⟨21, d + 1, 0, 0, 1, 0, 0, 2, 77⟩ :: ⟨21, 0, 99, 0, 1, 0, 0, 2, 121 + y⟩ :: ⟨20, 0, 0, 0, 1, 0, 0, 2, 9⟩ :: ⟨21, -1, 0, 0, 1, 0, 0, 2, 9⟩ :: ts : List Ac).length = ts.length + 4 := by simp
        rw [hnl] at hAn
        try simp only [hnl]
        generalize hLn : (⟨21, d + 1, 0, 0, 1, 0, 0, 2, 77⟩ :: ⟨21, 0, 99, 0, 1, 0, 0, 2, 121 + y⟩ :: ⟨20, 0, 0, 0, 1, 0, 0, 2, 9⟩ :: ⟨21, -1, 0, 0, 1, 0, 0, 2, 9⟩ :: ts : List Ac) = Ln at *
        obtain ⟨val, hval⟩ : ∃ val, valR 1 2 d xs 4 = val := ⟨_, rfl⟩
        rw [hval] at r1 r2 r3
        have hx8 := (hx3.then hx7).then (Ext.new w7 (.cells #[.slice aa N ac, .slice ta ts.length tc, .slice fa fs.length fc, .slice na (ts.length + 4) nc] 24))
        have hO8 := Proofs.YtcmdekhhclgdcaaDoor.Own.new w7 #[.slice aa N ac, .slice ta ts.length tc, .slice fa fs.length fc, .slice na (ts.length + 4) nc] 24
        have he8 := Ext.new w7 (.cells #[.slice aa N ac, .slice ta ts.length tc, .slice fa fs.length fc, .slice na (ts.length + 4) nc] 24)
        replace hAt := hAt.mono mono_ActR he8.ple
        replace hAf := hAf.mono mono_ActR he8.ple
        replace hAn := hAn.mono mono_ActR he8.ple
        replace hAx := hAx.mono mono_ActR he8.ple
        have hxl9 : xs.length ≤ 100000 := by have := hN.out; omega
        have hnl9 : Ln.length ≤ 100000 := by rw [← hLn]; simp; omega
        clear hM3 hS3 hM7 hI1 hI2 hI3 hI4 hwy hLn hnl hx7 he8
        replace hV := hV.mono hx8.ple
        replace hR := hR.mono hx8.ple
        go_upto_region 13 with (fail)
        generalize hW8 : w7.alloc _ = W8 at *
        clear hW8
        have hget : Hid (∀ i : Nat, i < 4 → ∃ a n c L, W8.cell? ⟨w7.heap.size, i, none⟩ = some (.slice a n c) ∧ ActsR (ph W8) (.slice a n c) L ∧ L.length ≤ 100000 ∧ valR 1 2 d L 4 = val) := Lib.hid fun i hi => by
          match i, hi with
          | 0, _ => exact ⟨_, _, _, _, hO8.facts.1 0, hAx, hxl9, hval⟩
          | 1, _ => exact ⟨_, _, _, _, hO8.facts.1 1, hAt, by omega, r1⟩
          | 2, _ => exact ⟨_, _, _, _, hO8.facts.1 2, hAf, by omega, r2⟩
          | 3, _ => exact ⟨_, _, _, _, hO8.facts.1 3, hAn, hnl9, r3⟩
        have l8 := hO8.lt
        have hval4 : ∀ (L : List Ac), valR 1 2 d L 4 = val → L.length ≤ 100000 → ∀ v va w', RulR (ph w') v defR → ActsR (ph w') va L → VL (ph w') → VR (ph w') → Calls Tryd.prog 33 #[v, .int .i64 1, .int .i64 2, .int .i64 d, va] w' (RetV w' (.tuple #[.int .i64 val, .int .i64 0])) := by
          intro L hL hLl v va w' hr hA hV hR
          have h := lValue_c defR 1 2 d v va L w' hr hA hLl hV hR
          rw [lval_def L (by omega) (by omega) (by omega), show ((1 : Int)).toNat = 1 from rfl, show ((2 : Int)).toNat = 2 from rfl, baseV_2 (by omega), hL] at h
          exact h
        replace hval4 := Lib.hid hval4
        replace hval := Lib.hid hval
        clear hAt hAf hAn hO8 r1 r2 r3
        generalize w7.heap.size = b8 at *
        go_wp2_with fail
        refine (lawDefault_c _).mono ?_
        rintro e w9 ⟨v, rfl, hx9, hr⟩
        obtain ⟨a0, n0, k0, a1, n1, k1, rfl⟩ := hr.form
        have hvl := hval4.out xs hval.out hxl9 _ _ w9 hr (hAx.mono mono_ActR hx9.ple) (hV.mono hx9.ple) (hR.mono hx9.ple)
        clear hAx
        go_wp2_with fail
        refine RetV_at hvl ?_
        intro wA hxA
        have hxA8 := hx9.then hxA
        clear hvl hr hx9
        go_wp2_with fail
        go_loopw [17] (fun vi wr => ∃ i : Nat, i ≤ 4 ∧ vi = .int .i64 i ∧ Ext W8 wr) (fun vi _ => 4 - (intOf vi).toNat)
        case atStart => exact ⟨0, by omega, rfl, hxA8⟩
        case round =>
          clear hxA8 hxA
          obtain ⟨i, hi, rfl, hx⟩ := hrel
          have hVr := hV.mono hx.ple
          have hRr := hR.mono hx.ple
          by_cases hlt : i < 4
          · obtain ⟨ga, gn, gk, L, gc, hAL, hLl, hLv⟩ := hget.out i hlt
            replace gc := hx.cell1 gc
            replace hAL := hAL.mono mono_ActR hx.ple
            have lr : b8 < wr.heap.size := by have := hx.size; omega
            have hli : (i : Int) < 4 := by omega
            have hja : decide ((i : Int) < 4) = true := decide_eq_true hli
            have hv4 := Lib.hid (hval4.out L hLv hLl)
            clear hLv hLl hget hval4
            go_upto_region 17 with (fail)
            (refine wp_region_I 12 (by kernel_rfl) (by kernel_rfl) ?_; simp only [List.toList_toArray, List.take_succ_cons, List.take_zero, List.drop_succ_cons, List.drop_zero])
            (refine walkI_step (fun v w' => ∃ a n c a' n' c', v = .agg #[.slice a n c, .slice a' n' c'] ∧ RulR (ph w') v defR) rfl (by simp) rfl (fun v a b he ⟨a', n, c, a'', n', c', h1, h2⟩ e => ⟨a', n, c, a'', n', c', h1, h2.mono e.ple⟩) ?_ ?_; (focus (intro A w' hS hA K hK; (simp only [List.map_cons, List.map_nil, knows, Is, Op.operands, Call.operands, List.lookup_cons, List.lookup_nil, Nat.reduceBEq, Bool.false_eq_true, if_false, if_true, Act.eval, Array.getD_eq_getD_getElem?, List.getElem?_toArray, List.getElem?_cons_succ, List.getElem?_cons_zero, Option.getD_some, and_true, true_and, List.append_toArray, List.nil_append, List.cons_append, List.toList_toArray, Array.toList_append, Option.toArray, List.append_nil] at hA); (go_simp; refine (lawDefault_c w').mono ?_; rintro e w6 ⟨v6, rfl, h4, h5⟩; obtain ⟨a', n, c, a'', n', c', rfl⟩ := h5.form; exact hK _ _ h4 ⟨_, _, _, _, _, _, rfl, h5⟩))); (try simp only [List.nil_append, List.cons_append]))
            (refine walkI_is (u := ?_) rfl (by simp) rfl ?_ ?_; rotate_left; (focus (intro A w' hS hA K hK; (simp only [List.map_cons, List.map_nil, knows, Is, Op.operands, Call.operands, List.lookup_cons, List.lookup_nil, Nat.reduceBEq, Bool.false_eq_true, if_false, if_true, Act.eval, Array.getD_eq_getD_getElem?, List.getElem?_toArray, List.getElem?_cons_succ, List.getElem?_cons_zero, Option.getD_some, and_true, true_and, List.append_toArray, List.nil_append, List.cons_append, List.toList_toArray, Array.toList_append, Option.toArray, List.append_nil] at hA); first | fail | (obtain ⟨hSc, hSf, hSs⟩ := hS.cells; go_simp; exact hK _ (by repeat (first | (with_reducible assumption) | (with_reducible exact Ext.rfl' _) | (with_reducible exact Ext.new _ _) | (with_reducible refine Ext.alloc' ?_ _) | (with_reducible refine Ext.drew' ?_) | (with_reducible refine Ext.drewN' ?_ _) | (with_reducible refine Ext.set' ?_ ?_ _; rotate_left; (focus (first | omega | (simp; done) | (simp; omega)))) | (with_reducible refine Ext.then (b := ?_) ?_ ?_; rotate_left; rotate_left; (with_reducible assumption))))))); (try simp only [List.nil_append, List.cons_append]))
            (refine walkI_is (u := ?_) rfl (by simp) rfl ?_ ?_; rotate_left; (focus (intro A w' hS hA K hK; (simp only [List.map_cons, List.map_nil, knows, Is, Op.operands, Call.operands, List.lookup_cons, List.lookup_nil, Nat.reduceBEq, Bool.false_eq_true, if_false, if_true, Act.eval, Array.getD_eq_getD_getElem?, List.getElem?_toArray, List.getElem?_cons_succ, List.getElem?_cons_zero, Option.getD_some, and_true, true_and, List.append_toArray, List.nil_append, List.cons_append, List.toList_toArray, Array.toList_append, Option.toArray, List.append_nil] at hA); first | fail | (obtain ⟨hSc, hSf, hSs⟩ := hS.cells; go_simp; exact hK _ (by repeat (first | (with_reducible assumption) | (with_reducible exact Ext.rfl' _) | (with_reducible exact Ext.new _ _) | (with_reducible refine Ext.alloc' ?_ _) | (with_reducible refine Ext.drew' ?_) | (with_reducible refine Ext.drewN' ?_ _) | (with_reducible refine Ext.set' ?_ ?_ _; rotate_left; (focus (first | omega | (simp; done) | (simp; omega)))) | (with_reducible refine Ext.then (b := ?_) ?_ ?_; rotate_left; rotate_left; (with_reducible assumption))))))); (try simp only [List.nil_append, List.cons_append]))
            (refine walkI_is (u := ?_) rfl (by simp) rfl ?_ ?_; rotate_left; (focus (intro A w' hS hA K hK; (simp only [List.map_cons, List.map_nil, knows, Is, Op.operands, Call.operands, List.lookup_cons, List.lookup_nil, Nat.reduceBEq, Bool.false_eq_true, if_false, if_true, Act.eval, Array.getD_eq_getD_getElem?, List.getElem?_toArray, List.getElem?_cons_succ, List.getElem?_cons_zero, Option.getD_some, and_true, true_and, List.append_toArray, List.nil_append, List.cons_append, List.toList_toArray, Array.toList_append, Option.toArray, List.append_nil] at hA); first | fail | (obtain ⟨hSc, hSf, hSs⟩ := hS.cells; go_simp; exact hK _ (by repeat (first | (with_reducible assumption) | (with_reducible exact Ext.rfl' _) | (with_reducible exact Ext.new _ _) | (with_reducible refine Ext.alloc' ?_ _) | (with_reducible refine Ext.drew' ?_) | (with_reducible refine Ext.drewN' ?_ _) | (with_reducible refine Ext.set' ?_ ?_ _; rotate_left; (focus (first | omega | (simp; done) | (simp; omega)))) | (with_reducible refine Ext.then (b := ?_) ?_ ?_; rotate_left; rotate_left; (with_reducible assumption))))))); (try simp only [List.nil_append, List.cons_append]))
            (refine walkI_is (u := ?_) rfl (by simp) rfl ?_ ?_; rotate_left; (focus (intro A w' hS hA K hK; (simp only [List.map_cons, List.map_nil, knows, Is, Op.operands, Call.operands, List.lookup_cons, List.lookup_nil, Nat.reduceBEq, Bool.false_eq_true, if_false, if_true, Act.eval, Array.getD_eq_getD_getElem?, List.getElem?_toArray, List.getElem?_cons_succ, List.getElem?_cons_zero, Option.getD_some, and_true, true_and, List.append_toArray, List.nil_append, List.cons_append, List.toList_toArray, Array.toList_append, Option.toArray, List.append_nil] at hA); first | fail | (obtain ⟨hSc, hSf, hSs⟩ := hS.cells; go_simp; exact hK _ (by repeat (first | (with_reducible assumption) | (with_reducible exact Ext.rfl' _) | (with_reducible exact Ext.new _ _) | (with_reducible refine Ext.alloc' ?_ _) | (with_reducible refine Ext.drew' ?_) | (with_reducible refine Ext.drewN' ?_ _) | (with_reducible refine Ext.set' ?_ ?_ _; rotate_left; (focus (first | omega | (simp; done) | (simp; omega)))) | (with_reducible refine Ext.then (b := ?_) ?_ ?_; rotate_left; rotate_left; (with_reducible assumption))))))); (try simp only [List.nil_append, List.cons_append]))
            (refine walkI_is (u := ?_) rfl (by simp) rfl ?_ ?_; rotate_left; (focus (intro A w' hS hA K hK; (simp only [List.map_cons, List.map_nil, knows, Is, Op.operands, Call.operands, List.lookup_cons, List.lookup_nil, Nat.reduceBEq, Bool.false_eq_true, if_false, if_true, Act.eval, Array.getD_eq_getD_getElem?, List.getElem?_toArray, List.getElem?_cons_succ, List.getElem?_cons_zero, Option.getD_some, and_true, true_and, List.append_toArray, List.nil_append, List.cons_append, List.toList_toArray, Array.toList_append, Option.toArray, List.append_nil] at hA); first | fail | (obtain ⟨hSc, hSf, hSs⟩ := hS.cells; go_simp; exact hK _ (by repeat (first | (with_reducible assumption) | (with_reducible exact Ext.rfl' _) | (with_reducible exact Ext.new _ _) | (with_reducible refine Ext.alloc' ?_ _) | (with_reducible refine Ext.drew' ?_) | (with_reducible refine Ext.drewN' ?_ _) | (with_reducible refine Ext.set' ?_ ?_ _; rotate_left; (focus (first | omega | (simp; done) | (simp; omega)))) | (with_reducible refine Ext.then (b := ?_) ?_ ?_; rotate_left; rotate_left; (with_reducible assumption))))))); (try simp only [List.nil_append, List.cons_append]))
            (refine walkI_is (u := ?_) rfl (by simp) rfl ?_ ?_; rotate_left; (focus (intro A w' hS hA K hK; (simp only [List.map_cons, List.map_nil, knows, Is, Op.operands, Call.operands, List.lookup_cons, List.lookup_nil, Nat.reduceBEq, Bool.false_eq_true, if_false, if_true, Act.eval, Array.getD_eq_getD_getElem?, List.getElem?_toArray, List.getElem?_cons_succ, List.getElem?_cons_zero, Option.getD_some, and_true, true_and, List.append_toArray, List.nil_append, List.cons_append, List.toList_toArray, Array.toList_append, Option.toArray, List.append_nil] at hA); first | (obtain ⟨⟨a', n, c, a'', n', c', hA1, hA2⟩, hA3, hA4⟩ := hA; rw [hA1] at hA2; have hvl := hv4.out _ _ w' hA2 (hAL.mono mono_ActR hS.ple) (hVr.mono hS.ple) (hRr.mono hS.ple); go_simp; refine RetV_at hvl ?_; intro w6 hx6; exact hK _ hx6) | (obtain ⟨hSc, hSf, hSs⟩ := hS.cells; go_simp; exact hK _ (by repeat (first | (with_reducible assumption) | (with_reducible exact Ext.rfl' _) | (with_reducible exact Ext.new _ _) | (with_reducible refine Ext.alloc' ?_ _) | (with_reducible refine Ext.drew' ?_) | (with_reducible refine Ext.drewN' ?_ _) | (with_reducible refine Ext.set' ?_ ?_ _; rotate_left; (focus (first | omega | (simp; done) | (simp; omega)))) | (with_reducible refine Ext.then (b := ?_) ?_ ?_; rotate_left; rotate_left; (with_reducible assumption))))))); (try simp only [List.nil_append, List.cons_append]))
            (refine walkI_is (u := ?_) rfl (by simp) rfl ?_ ?_; rotate_left; (focus (intro A w' hS hA K hK; (simp only [List.map_cons, List.map_nil, knows, Is, Op.operands, Call.operands, List.lookup_cons, List.lookup_nil, Nat.reduceBEq, Bool.false_eq_true, if_false, if_true, Act.eval, Array.getD_eq_getD_getElem?, List.getElem?_toArray, List.getElem?_cons_succ, List.getElem?_cons_zero, Option.getD_some, and_true, true_and, List.append_toArray, List.nil_append, List.cons_append, List.toList_toArray, Array.toList_append, Option.toArray, List.append_nil] at hA); first | fail | (obtain ⟨hSc, hSf, hSs⟩ := hS.cells; go_simp; exact hK _ (by repeat (first | (with_reducible assumption) | (with_reducible exact Ext.rfl' _) | (with_reducible exact Ext.new _ _) | (with_reducible refine Ext.alloc' ?_ _) | (with_reducible refine Ext.drew' ?_) | (with_reducible refine Ext.drewN' ?_ _) | (with_reducible refine Ext.set' ?_ ?_ _; rotate_left; (focus (first | omega | (simp; done) | (simp; omega)))) | (with_reducible refine Ext.then (b := ?_) ?_ ?_; rotate_left; rotate_left; (with_reducible assumption))))))); (try simp only [List.nil_append, List.cons_append]))
            (refine walkI_is (u := ?_) rfl (by simp) rfl ?_ ?_; rotate_left; (focus (intro A w' hS hA K hK; (simp only [List.map_cons, List.map_nil, knows, Is, Op.operands, Call.operands, List.lookup_cons, List.lookup_nil, Nat.reduceBEq, Bool.false_eq_true, if_false, if_true, Act.eval, Array.getD_eq_getD_getElem?, List.getElem?_toArray, List.getElem?_cons_succ, List.getElem?_cons_zero, Option.getD_some, and_true, true_and, List.append_toArray, List.nil_append, List.cons_append, List.toList_toArray, Array.toList_append, Option.toArray, List.append_nil] at hA); first | fail | (obtain ⟨hSc, hSf, hSs⟩ := hS.cells; go_simp; exact hK _ (by repeat (first | (with_reducible assumption) | (with_reducible exact Ext.rfl' _) | (with_reducible exact Ext.new _ _) | (with_reducible refine Ext.alloc' ?_ _) | (with_reducible refine Ext.drew' ?_) | (with_reducible refine Ext.drewN' ?_ _) | (with_reducible refine Ext.set' ?_ ?_ _; rotate_left; (focus (first | omega | (simp; done) | (simp; omega)))) | (with_reducible refine Ext.then (b := ?_) ?_ ?_; rotate_left; rotate_left; (with_reducible assumption))))))); (try simp only [List.nil_append, List.cons_append]))
            (refine walkI_is (u := ?_) rfl (by simp) rfl ?_ ?_; rotate_left; (focus (intro A w' hS hA K hK; (simp only [List.map_cons, List.map_nil, knows, Is, Op.operands, Call.operands, List.lookup_cons, List.lookup_nil, Nat.reduceBEq, Bool.false_eq_true, if_false, if_true, Act.eval, Array.getD_eq_getD_getElem?, List.getElem?_toArray, List.getElem?_cons_succ, List.getElem?_cons_zero, Option.getD_some, and_true, true_and, List.append_toArray, List.nil_append, List.cons_append, List.toList_toArray, Array.toList_append, Option.toArray, List.append_nil] at hA); first | fail | (obtain ⟨hSc, hSf, hSs⟩ := hS.cells; go_simp; exact hK _ (by repeat (first | (with_reducible assumption) | (with_reducible exact Ext.rfl' _) | (with_reducible exact Ext.new _ _) | (with_reducible refine Ext.alloc' ?_ _) | (with_reducible refine Ext.drew' ?_) | (with_reducible refine Ext.drewN' ?_ _) | (with_reducible refine Ext.set' ?_ ?_ _; rotate_left; (focus (first | omega | (simp; done) | (simp; omega)))) | (with_reducible refine Ext.then (b := ?_) ?_ ?_; rotate_left; rotate_left; (with_reducible assumption))))))); (try simp only [List.nil_append, List.cons_append]))
            (refine walkI_is (u := ?_) rfl (by simp) rfl ?_ ?_; rotate_left; (focus (intro A w' hS hA K hK; (simp only [List.map_cons, List.map_nil, knows, Is, Op.operands, Call.operands, List.lookup_cons, List.lookup_nil, Nat.reduceBEq, Bool.false_eq_true, if_false, if_true, Act.eval, Array.getD_eq_getD_getElem?, List.getElem?_toArray, List.getElem?_cons_succ, List.getElem?_cons_zero, Option.getD_some, and_true, true_and, List.append_toArray, List.nil_append, List.cons_append, List.toList_toArray, Array.toList_append, Option.toArray, List.append_nil] at hA); first | fail | (obtain ⟨hSc, hSf, hSs⟩ := hS.cells; go_simp; exact hK _ (by repeat (first | (with_reducible assumption) | (with_reducible exact Ext.rfl' _) | (with_reducible exact Ext.new _ _) | (with_reducible refine Ext.alloc' ?_ _) | (with_reducible refine Ext.drew' ?_) | (with_reducible refine Ext.drewN' ?_ _) | (with_reducible refine Ext.set' ?_ ?_ _; rotate_left; (focus (first | omega | (simp; done) | (simp; omega)))) | (with_reducible refine Ext.then (b := ?_) ?_ ?_; rotate_left; rotate_left; (with_reducible assumption))))))); (try simp only [List.nil_append, List.cons_append]))
            (refine walkI_is (u := ?_) rfl (by simp) rfl ?_ ?_; rotate_left; (focus (intro A w' hS hA K hK; (simp only [List.map_cons, List.map_nil, knows, Is, Op.operands, Call.operands, List.lookup_cons, List.lookup_nil, Nat.reduceBEq, Bool.false_eq_true, if_false, if_true, Act.eval, Array.getD_eq_getD_getElem?, List.getElem?_toArray, List.getElem?_cons_succ, List.getElem?_cons_zero, Option.getD_some, and_true, true_and, List.append_toArray, List.nil_append, List.cons_append, List.toList_toArray, Array.toList_append, Option.toArray, List.append_nil] at hA); first | fail | (obtain ⟨hSc, hSf, hSs⟩ := hS.cells; go_simp; exact hK _ (by repeat (first | (with_reducible assumption) | (with_reducible exact Ext.rfl' _) | (with_reducible exact Ext.new _ _) | (with_reducible refine Ext.alloc' ?_ _) | (with_reducible refine Ext.drew' ?_) | (with_reducible refine Ext.drewN' ?_ _) | (with_reducible refine Ext.set' ?_ ?_ _; rotate_left; (focus (first | omega | (simp; done) | (simp; omega)))) | (with_reducible refine Ext.then (b := ?_) ?_ ?_; rotate_left; rotate_left; (with_reducible assumption))))))); (try simp only [List.nil_append, List.cons_append]))
            (refine walkI_nil ?_; simp only [List.nil_append, List.cons_append, fins, Is, forall_eq, Act.put, List.setIfInBounds_toArray, List.set_cons_zero, List.set_cons_succ])
            rintro wb hxb v92 -
            have hxB := hx.then hxb
            have hvv : (val != val) = false := by simp
            clear hv4 gc hAL
            go_wp2_with fail
            go_roundw
            case rel => exact ⟨i + 1, by omega, by go_num, hxB⟩
            case measure => simp [intOf]; omega
          · have hja : decide ((i : Int) < 4) = false := decide_eq_false (by omega)
            have hli : ¬ (i : Int) < 4 := by omega
            have hlv := lives17_c wr hVr hRr
            clear hget hval4
            go_wp2_with fail
            refine RetV_at hlv ?_
            intro wf hxf
            go_wp2_with fail
            go_ret
            exact ⟨rfl, (hx8.then hx).then hxf⟩
theorem lawRulingsLaw (vm : Value) (m : List Int) (day by' : Int) (w : World) (hm : IntsR (ph w) vm m) (_ : m.length ≤ 140737488355328) (hd : I64 day) (hby : I64 by') (hV : VL (ph w)) (hR : VR (ph w)) :
    Calls Tryd.prog 10 #[vm, .int .i64 day, .int .i64 by'] w (RetV w (.bool true)) :=
  lawRulings_c m vm day by' w hm hd hby hV hR
end Go.Proofs.YtcmdekhhclgdcaaDoor
