/- package priorartref17: Acts. -/
import Derived.Test.YtcmdekhhclgdcaaGreatDoorLMem
import Derived.Test.YtcmdekhhclgdcaaGreatDoorGenA
namespace Go.Proofs.YtcmdekhhclgdcaaGreatDoor
open Go.RowKit Go.Shelf
set_option linter.unusedSimpArgs false
set_option linter.unusedVariables false
theorem act_set8 (x : Ac) (v : Int) : (actC x).toArray.setIfInBounds 8 (.int .i64 v) = (actC { x with amount := v }).toArray := rfl
theorem wpList_store_new' {P : Program} {ops : Array Oper} {rest : List Oper} {o : Oper} {a : Act} {w : World} {Q : Exit → Act → World → Prop} (hgd : o.guard = none) (ty : TypeId) (x y : Operand) (ho : o.op = .store ty x y) (n : Nat)
    (cells : Array Value) (hx : a.eval x = .pointer (some ⟨n, 0, none⟩)) (hn : n = w.heap.size) (hy : a.eval y = .agg cells)
    (t : TypeId) (old : Array Value) (hi : (P.info? ty).map (·.size) = some cells.size)
    (hold : old.size = cells.size) (h1 : cells.all (·.oneCell') = true)
    (h : wpList P ops Q rest (a.put o.dst undef) (w.alloc (.cells cells t))) : wpList P ops Q (o :: rest) a (w.alloc (.cells old t)) := by
  subst hn
  exact wpList_store_new hgd ty x y ho cells hx hy t old hi hold h1 h
theorem lit_at (zs : List Int) (hz : ∀ z ∈ zs, I64 z) (T : TypeId) (w : World) (j : Nat) (hj : j < zs.length) : ∃ z, (w.alloc (.cells (zs.map (Value.int .i64)).toArray T)).cell? ⟨w.heap.size, j, none⟩ = some (.int .i64 z) ∧ I64 z := by
  refine ⟨zs[j], ?_, hz _ (List.getElem_mem hj)⟩
  have h := (Proofs.YtcmdekhhclgdcaaGreatDoor.Own.new w (zs.map (Value.int .i64)).toArray T).facts.1 j
  rw [h]; simp [hj]
set_option maxRecDepth 100000 in
set_option maxHeartbeats 2000000 in
theorem acts17_c (l : List Int) (vl : Value) (d : Int) (m : Nat) (w : World) (hl : IntsR (ph w) vl l) (hd : 0 ≤ d) (hd' : d ≤ 131073) (hm : m ≤ 100) :
    Calls Tryz.prog 8 #[vl, .int .i64 d, .int .i64 m] w (ActsP w (min l.length m)) := by
  have hcl := acts_c l vl d m w hl hd hd' hm
  obtain ⟨la, lc, rfl, llen, hl⟩ := hl.form
  go_enter Tryz.func8, Tryz.ntmps8
  go_wp2_with fail
  refine hcl.mono ?_
  rintro e w1 ⟨v, xs0, rfl, hx1, hlen, hfo0, ho⟩
  have hM0 := Mem.ofOwnS (hm := mono_ActR) hx1 ho
  obtain ⟨oa, oc, rfl, -⟩ := hM0.form 0 rfl
  clear ho hcl
  obtain ⟨N, hN⟩ : ∃ N, N = xs0.length := ⟨_, rfl⟩
  rw [← hN] at hM0
  rw [← hN] at hlen
  simp only [← hN]
  replace hlen := Lib.hid hlen
  replace hN := Lib.hid hN.symm
  go_wp2_with fail
  go_loopw [8] (fun i wr => ∃ k : Nat, k ≤ N ∧ i = .int .i64 k ∧ ∃ xs : List Ac, Hid (xs.length = N) ∧ Hid (∀ x ∈ xs, FileOk x) ∧ Mem w noH [own mono_ActR 19 67 (.slice oa N oc) xs] noH wr) (fun i _ => N - (intOf i).toNat)
  case atStart => exact ⟨0, by omega, rfl, xs0, hN, hfo0, hM0⟩
  case round =>
    clear hM0 hN
    obtain ⟨k, hk, rfl, xs, hxs, hfo, hM⟩ := hrel
    by_cases h1 : k < N
    · have h2 : k < l.length := by have := hlen.out; omega
      obtain ⟨gb, go, rfl, gc, gi, gl⟩ := IntsR.at (hl.mono mono_IntR hM.ex.ple) k h2
      obtain ⟨x, hkx⟩ : ∃ x, xs[k]? = some x := ⟨xs[k]'(by rw [hxs.out]; exact h1), List.getElem?_eq_getElem _⟩
      obtain ⟨g, rfl, hg, -, hfz, hI⟩ := acts_row hM hkx
      have har := around_c l[k] 1048576 wr gi (by omega) (by omega)
      obtain ⟨q0, q1⟩ := aroundV_range (m := 1048576) gi (by omega)
      have hja : decide (k < N) = true := by simpa using h1
      generalize l[k] = y at *
      generalize aroundV y 1048576 = q at *
      have hkl : Hid (k < xs.length) := Lib.hid (by rw [hxs.out]; exact h1)
      clear hkx hfz hI
      by_cases hq : q % 5 < 2
      · have hqb : decide (q % 5 < 2) = true := by simpa using hq
        clear hq
        go_wp2_with fail
        refine RetV_at har ?_
        intro w2 hx2
        go_wp2_with fail
        go_roundw
        case rel => exact ⟨k + 1, by omega, rfl, xs, hxs, hfo, hM.ext hx2⟩
        case measure => simp [intOf]; omega
      · have hqb : decide (q % 5 < 2) = false := by simpa using hq
        clear hq
        go_wp2_with fail
        refine RetV_at har ?_
        intro w2 hx2
        have hM2 := hM.ext hx2
        obtain ⟨j6, e6⟩ : ∃ j : Nat, q / 7 % 6 = j := ⟨(q / 7 % 6).toNat, by omega⟩
        have j6l : j6 < 6 := by omega
        have j6i : (j6 : Int) < 6 := by omega
        obtain ⟨z6, c6, i6⟩ := lit_at [0, 2, 2, 7, 9, 17] (by intro z hz; simp only [List.mem_cons, List.not_mem_nil, or_false] at hz; unfold I64; omega) 3 w2 j6 j6l
        simp only [List.map_cons, List.map_nil] at c6
        have hX : Hid (∀ Z : Ac, Z = (⟨21, max 0 (d - 30 + q / 5 % 60), q / 3 % 4, 0, q / 300 % 2, 0, 0, z6, 0⟩ : Ac) → Z.I ∧ FileOk Z) := Lib.hid (by
          rintro Z rfl
          refine ⟨?_, ?_⟩
          · unfold I64 at i6; unfold Ac.I I64; dsimp only; omega
          · unfold FileOk; dsimp only; omega)
        have hw1 : IntKind.i64.wrap (d - 30) = d - 30 := by rw [IntKind.wrap_i64]; omega
        have hM4 := (hM2.allocN (.cells #[.int .i64 0, .int .i64 2, .int .i64 2, .int .i64 7, .int .i64 9, .int .i64 17] 3)).new' (actC ⟨21, max 0 (d - 30 + q / 5 % 60), q / 3 % 4, 0, q / 300 % 2, 0, 0, z6, 0⟩).toArray 67 (n := w2.heap.size + 1) (by simp)
        simp only [List.nil_append, List.cons_append] at hM4
        have hlt6 : w2.heap.size < (w2.alloc (.cells #[.int .i64 0, .int .i64 2, .int .i64 2, .int .i64 7, .int .i64 9, .int .i64 17] 3)).heap.size := by simp
        clear hM hM2 gc hl har hg gl
        go_upto_region 7 with (fail)
        go_upto_region 8 with (first | (refine wpList_build_act rfl _ rfl (⟨21, max 0 (d - 30 + q / 5 % 60), q / 3 % 4, 0, q / 300 % 2, 0, 0, z6, 0⟩) (by kernel_rfl) ?_) | (refine wpList_store_new' rfl 67 _ _ rfl (w2.heap.size + 1) (actC ⟨21, max 0 (d - 30 + q / 5 % 60), q / 3 % 4, 0, q / 300 % 2, 0, 0, z6, 0⟩).toArray rfl (by simp) rfl 67 _ (by kernel_rfl) rfl (one_act _) ?_))
        obtain ⟨hXI, hXf⟩ := hX.out _ rfl
        replace hXf := Lib.hid hXf
        replace hXI := Lib.hid hXI
        clear hX c6 i6 e6 j6l j6i hlt6 hw1
        generalize (⟨21, max 0 (d - 30 + q / 5 % 60), q / 3 % 4, 0, q / 300 % 2, 0, 0, z6, 0⟩ : Ac) = X at *
        generalize hW4 : (w2.alloc _).alloc _ = W4 at *
        clear hW4
        have hb4 : w2.heap.size + 1 < W4.heap.size := hM4.lt (i := 1) rfl rfl
        generalize w2.heap.size + 1 = bx at *
        obtain ⟨j12, e12⟩ : ∃ j : Nat, q / 31 % 12 = j := ⟨(q / 31 % 12).toNat, by omega⟩
        have j12l : j12 < 12 := by omega
        have j12i : (j12 : Int) < 12 := by omega
        obtain ⟨z12, c12, i12⟩ := lit_at [0, 1, 2, 6, 13, 24, 100, 101, 120, 121, -1, 5000] (by intro z hz; simp only [List.mem_cons, List.not_mem_nil, or_false] at hz; unfold I64; omega) 3 W4 j12 j12l
        simp only [List.map_cons, List.map_nil] at c12
        have hM5 := hM4.allocN (.cells #[.int .i64 0, .int .i64 1, .int .i64 2, .int .i64 6, .int .i64 13, .int .i64 24, .int .i64 100, .int .i64 101, .int .i64 120, .int .i64 121, .int .i64 (-1), .int .i64 5000] 3)
        have hM6 := hM5.set 1 rfl 8 (.int .i64 z12)
        rw [act_set8] at hM6
        simp only [List.set_cons_succ, List.set_cons_zero] at hM6
        have hlt12 : W4.heap.size < (W4.alloc (.cells #[.int .i64 0, .int .i64 1, .int .i64 2, .int .i64 6, .int .i64 13, .int .i64 24, .int .i64 100, .int .i64 101, .int .i64 120, .int .i64 121, .int .i64 (-1), .int .i64 5000] 3)).heap.size := by simp
        have hb5 : bx < (W4.alloc (.cells #[.int .i64 0, .int .i64 1, .int .i64 2, .int .i64 6, .int .i64 13, .int .i64 24, .int .i64 100, .int .i64 101, .int .i64 120, .int .i64 121, .int .i64 (-1), .int .i64 5000] 3)).heap.size := by simp; omega
        have f8 := (hM5.box 1 rfl).facts.2 8
        have c8 : _ = some (Value.int .i64 X.amount) := (hM5.box 1 rfl).facts.1 8
        have hYI : Hid (Ac.I { X with amount := z12 }) := Lib.hid (by obtain ⟨a0, a1, a2, a3, a4, a5, a6, a7, a8⟩ := hXI.out; exact ⟨a0, a1, a2, a3, a4, a5, a6, a7, i12⟩)
        have hYf : Hid (FileOk { X with amount := z12 }) := Lib.hid hXf.out
        clear hM4 hb4 hXI hXf
        go_upto_region 9 with (fail)
        generalize hW5 : (W4.alloc _).setCell _ _ = W5 at *
        clear hW5 c8 f8 hM5 hlt12 hb5 c12 i12 e12 j12l j12i
        generalize ({ X with amount := z12 } : Ac) = Y at *
        have hb5 : bx < W5.heap.size := hM6.lt (i := 1) rfl rfl
        by_cases hr : q % 61 = 3
        · have hrb : (q % 61 == 3) = true := by simpa using hr
          have hM7 := hM6.set 1 rfl 1 (.int .i64 0)
          rw [act_set1] at hM7
          simp only [List.set_cons_succ, List.set_cons_zero] at hM7
          have f1 := (hM6.box 1 rfl).facts.2 1
          have c1 : _ = some (Value.int .i64 Y.day) := (hM6.box 1 rfl).facts.1 1
          have hZI : Hid (Ac.I { Y with day := 0 }) := Lib.hid (Ac.I1 hYI.out (by unfold I64; omega))
          have hZf : Hid (FileOk { Y with day := 0 }) := Lib.hid hYf.out
          clear hM6 hYI hYf hr
          go_upto_region 11 with (fail)
          generalize hW6 : W5.setCell _ _ = W6 at *
          clear hW6 c1 f1 hb5
          generalize ({ Y with day := 0 } : Ac) = Z at *
          have hb6 : bx < W6.heap.size := hM7.lt (i := 1) rfl rfl
          go_upto_region 4 with (first | (refine wpList_load_row rfl 67 _ rfl _ rfl 67 (actC (Z)).toArray (0, 0) _ (hM7.box 1 rfl) Tryz.underlying67 rfl (by kernel_rfl) ?_) | (refine wpList_store_M (xs := xs) (n := N) (cap := oc) (g := g) rfl 67 _ _ rfl k rfl (cs := actC Z) rfl (x' := Z) hM7 0 rfl hkl.out ⟨rfl, hZI.out⟩ rfl (fun u hu => one_ActR (h := noH) _ _ ⟨rfl, hZI.out⟩ u hu) (by kernel_rfl) ?c5))
          case c5 =>
            intro w8 hM8
            try simp only [List.set_cons_zero] at hM8
            have hM9 := hM8.pick [0] (by decide)
            simp only [List.map_cons, List.map_nil, List.getElem?_cons_zero, Option.getD_some] at hM9
            clear hM7 hM8
            go_wp2_with fail
            go_roundw
            case rel => exact ⟨k + 1, by omega, rfl, xs.set k Z, Lib.hid (by rw [List.length_set]; exact hxs.out), Lib.hid (fun y hy => by rcases List.mem_or_eq_of_mem_set hy with hy | hy; (exact hfo.out y hy); (rw [hy]; exact hZf.out)), hM9⟩
            case measure => simp [intOf]; omega
        · have hrb : (q % 61 == 3) = false := by simpa using hr
          clear hr
          go_upto_region 11 with (fail)
          go_upto_region 4 with (first | (refine wpList_load_row rfl 67 _ rfl _ rfl 67 (actC (Y)).toArray (0, 0) _ (hM6.box 1 rfl) Tryz.underlying67 rfl (by kernel_rfl) ?_) | (refine wpList_store_M (xs := xs) (n := N) (cap := oc) (g := g) rfl 67 _ _ rfl k rfl (cs := actC Y) rfl (x' := Y) hM6 0 rfl hkl.out ⟨rfl, hYI.out⟩ rfl (fun u hu => one_ActR (h := noH) _ _ ⟨rfl, hYI.out⟩ u hu) (by kernel_rfl) ?d5))
          case d5 =>
            intro w8 hM8
            try simp only [List.set_cons_zero] at hM8
            have hM9 := hM8.pick [0] (by decide)
            simp only [List.map_cons, List.map_nil, List.getElem?_cons_zero, Option.getD_some] at hM9
            clear hM6 hM8
            go_wp2_with fail
            go_roundw
            case rel => exact ⟨k + 1, by omega, rfl, xs.set k Y, Lib.hid (by rw [List.length_set]; exact hxs.out), Lib.hid (fun y hy => by rcases List.mem_or_eq_of_mem_set hy with hy | hy; (exact hfo.out y hy); (rw [hy]; exact hYf.out)), hM9⟩
            case measure => simp [intOf]; omega
    · have hja : decide (k < N) = false := by simpa using h1
      have hxl : Hid (xs.length = min l.length m) := by show _ = _; rw [hxs.out]; exact hlen.out
      go_wp2_with fail
      go_ret
      exact ⟨_, xs, rfl, hM.ex, hxl.out, hfo, hM.ownS 0 rfl⟩
end Go.Proofs.YtcmdekhhclgdcaaGreatDoor
