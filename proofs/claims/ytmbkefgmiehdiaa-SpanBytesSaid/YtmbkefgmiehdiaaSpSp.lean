/- the generator Spoilt. -/
import Derived.Deep.CutBlock
import Derived.Test.YtmbkefgmiehdiaaSpGA
namespace Go.Proofs.Ytmbkefgmiehdiaa
open Go.RowKit Go.Shelf
set_option linter.unusedSimpArgs false
set_option linter.unusedVariables false
section
variable {α : Type} {E : PH → List Value → α → Prop} {sz : Nat} {H : PH} {T : TypeId} {v : Value}
theorem Cells.setAt {j : Nat} (hj : j < sz) {x x' : α} {u : Value} (h : ∀ cs, E H cs x → E H (cs.set j u) x') : ∀ {xs : List α} {c : List Value} (k : Nat), xs[k]? = some x → Cells H E sz c xs → Cells H E sz (c.set (k * sz + j) u) (xs.set k x')
  | [], _, k, hk, _ => by simp at hk
  | z :: zs, c, 0, hk, hc => by
    obtain ⟨cs, rest, rfl, h1, h2, h3⟩ := hc
    obtain rfl : z = x := by simpa using hk
    refine ⟨cs.set j u, rest, ?_, by simpa using h1, h _ h2, h3⟩
    rw [Nat.zero_mul, Nat.zero_add, List.set_append_left _ _ (by omega)]
  | z :: zs, c, k + 1, hk, hc => by
    obtain ⟨cs, rest, rfl, h1, h2, h3⟩ := hc
    refine ⟨cs, rest.set (k * sz + j) u, ?_, h1, h2, Cells.setAt hj h k (by simpa using hk) h3⟩
    rw [List.set_append_right _ _ (by rw [Nat.add_mul]; omega)]
    congr 2; rw [Nat.add_mul]; omega
/-- a cell of element k of an own slice is written -/
theorem Mem.setAt {w0 w : World} {H0 : PH} {L : List Chunk} {hm : Mono E} {xs : List α} {x x' : α} {u : Value} (h : Mem w0 H0 L H w) (i : Nat) (hi : L[i]? = some (own hm sz T v xs)) (k j : Nat) (hj : j < sz) (hk : xs[k]? = some x) (hx : ∀ cs, E H cs x → E H (cs.set j u) x') :
    ∃ g cap, v = .slice (some ⟨g, 0, none⟩) xs.length cap ∧ w.frozen? ⟨g, k * sz + j, none⟩ = false ∧ (∃ u0, w.cell? ⟨g, k * sz + j, none⟩ = some u0) ∧ g < w.heap.size ∧
      Mem w0 H0 (L.set i (own hm sz T v (xs.set k x'))) H (w.setCell ⟨g, k * sz + j, none⟩ u) := by
  have h4 : OwnC H w E sz T v xs := h.ok i _ hi
  obtain ⟨hkl, hkx⟩ := List.getElem?_eq_some_iff.1 hk
  rcases h4 with ⟨rfl, rfl⟩ | ⟨g, cap, cur, rfl, k1, k2, k3, k4, k5⟩
  · simp at hkl
  · have hgl := (Array.getElem?_eq_some_iff.1 k1).1
    have hlt : k * sz + j < xs.length * sz := by
      have := Nat.mul_le_mul_right sz (show k + 1 ≤ xs.length from hkl); rw [Nat.add_mul] at this; omega
    have hlt2 : xs.length * sz ≤ cap * sz := Nat.mul_le_mul_right _ k2
    refine ⟨g, cap, rfl, by simp [World.frozen?, k1], ⟨cur[k * sz + j]'(by omega), ?_⟩, hgl, ?_⟩
    · rw [show w.cell? ⟨g, k * sz + j, none⟩ = cur[k * sz + j]? by simp [World.cell?, k1]]
      exact Array.getElem?_eq_getElem (by omega)
    · refine h.put i hi (c' := own hm sz T _ (xs.set k x')) (.inr ⟨g, cap, cur.setIfInBounds (k * sz + j) u, by simp, Own.set (T := T) k1 _ _, by simpa using k2, k3, by simpa using k4, ?_⟩) (fun k hk => .inl hk) (h.ex.set' (h.fr i _ hi g rfl).1 _) fun j hj hne => ?_
      · have := Cells.setAt (H := H) hj hx k hk k5
        rw [List.length_set, Array.toList_setIfInBounds, List.take_set]
        exact this
      · rw [Below.heap_setCell _ _ _ _ (fun e => hne (by rw [e]; rfl))]
end
section
variable {P : Program} {α : Type} {E : PH → List Value → α → Prop} {hm : Mono E} {sz : Nat} {T : TypeId} {w0 w : World} {H0 H : PH} {L : List Chunk} {xs : List α}
/-- a row of an own slice is written: the walk's arm -/
theorem oper_store_M {o : Oper} {a : Act} {K : Act → World → Prop} {Q : Exit → Act → World → Prop} (ty : TypeId) (x y : Operand) (ho : o.op = .store ty x y)
    {g n cap : Nat} (k : Nat) (hx : a.eval x = .pointer (some ⟨g, k * sz, none⟩)) {cs : List Value} (hy : a.eval y = .agg cs.toArray) {x' : α} (h : Mem w0 H0 L H w) (i : Nat) (hi : L[i]? = some (own hm sz T (.slice (some ⟨g, 0, none⟩) n cap) xs)) (hk : k < xs.length)
    (hE : E H cs x') (hcs : cs.length = sz) (hone : ∀ u ∈ cs, u.oneCell' = true) (hinfo : (P.info? ty).map (·.size) = some sz)
    (hn : ∀ w', Mem w0 H0 (L.set i (own hm sz T (.slice (some ⟨g, 0, none⟩) n cap) (xs.set k x'))) H w' → K (a.put o.dst undef) w') : o.wp P a w K Q := by
  obtain ⟨cur, hg, hc1, hc2, rfl⟩ := h.cur i hi
  have hkn : k * sz + sz ≤ cap * sz := by
    have := Nat.mul_le_mul_right sz (show k + 1 ≤ cap by omega); rw [Nat.add_mul] at this; omega
  have hst := run_storeCells_at (P := P) g (k * sz) T cs 0 cur w hg (by omega) hone
  simp only [Nat.add_zero] at hst
  rw [hcs] at hst
  have hv : (storeVar ty ⟨g, k * sz, none⟩ (.agg cs.toArray)).run P w = .ok () (w.setRow g (cur.toList.take (k * sz) ++ cs ++ cur.toList.drop (k * sz + sz)).toArray) := by
    cases hq : P.info? ty with
    | none => simp [hq] at hinfo
    | some j =>
      have hs : cs.length = j.size := by simp [hq] at hinfo; omega
      simp [storeVar, sizeOf, typeInfo, hq, Value.cells, hs, hst]
  unfold Oper.wp execOp
  simp only [ho, hx, hy, Instr.storeAt, Instr.sureAddr, Sem.run_bind, Sem.run_pure, Result.andThen_ok, hv]
  exact (hn _ (h.putRow i hi rfl k hk hE hcs hg))
end
theorem itC_len (x : Itv) : (itC x).length = 8 := rfl
theorem itvs_row {w W : World} {oa : Option Addr} {N oc k : Nat} {xs : List Itv} {x : Itv} (hM : Mem w noH [own mono_ItvR 8 43 (.slice oa N oc) xs] noH W) (hk : xs[k]? = some x) :
    ∃ g, oa = some ⟨g, 0, none⟩ ∧ g < W.heap.size ∧ (∀ j u, (itC x)[j]? = some u → W.cell? ⟨g, k * 8 + j, none⟩ = some u) ∧ (∀ j, W.frozen? ⟨g, j, none⟩ = false) ∧ x.I := by
  obtain ⟨hkl, hkx⟩ := List.getElem?_eq_some_iff.1 hk
  obtain ⟨g, cap, cs, hv, hcs, hc, ⟨hc1, hI⟩, hg⟩ := hM.get 0 rfl k hkl
  rw [hkx] at hc1 hI
  subst hc1
  cases hv
  refine ⟨g, rfl, hg, fun j u hu => ?_, fun j => ?_, hI⟩
  · obtain ⟨hj, he⟩ := List.getElem?_eq_some_iff.1 hu
    rw [hc j (by rw [itC_len] at hj; exact hj), ← he]
    simp [List.getD_eq_getElem?_getD, hj]
  · have h4 : OwnC noH W ItvR 8 43 (.slice (some ⟨g, 0, none⟩) xs.length oc) xs := hM.ok 0 _ rfl
    rcases h4 with ⟨h4, -⟩ | ⟨g', cap', cur, he, k1, -⟩
    · cases h4
    · cases he; simp [World.frozen?, k1]
theorem itvs_step {w W : World} {g N oc k j : Nat} {xs : List Itv} {x x' : Itv} {u : Value} (hM : Mem w noH [own mono_ItvR 8 43 (.slice (some ⟨g, 0, none⟩) N oc) xs] noH W) (hN : xs.length = N) (hj : j < 8) (hk : xs[k]? = some x) (hx : (itC x).set j u = itC x') (hI : x'.I) :
    ∃ ys, ys.length = N ∧ Mem w noH [own mono_ItvR 8 43 (.slice (some ⟨g, 0, none⟩) N oc) ys] noH (W.setCell ⟨g, k * 8 + j, none⟩ u) := by
  obtain ⟨g', cap, e1, -, -, -, hM1⟩ := hM.setAt 0 rfl k j hj hk (x' := x') (u := u) (by rintro cs ⟨rfl, -⟩; exact ⟨hx, hI⟩)
  cases e1
  simp only [List.set_cons_zero] at hM1
  exact ⟨_, by simp [hN], hM1⟩
theorem i64_tdiv {n k : Int} (hk : 0 < k) (h : I64 n) : I64 (n.tdiv k) := by
  unfold I64 at *
  have h1 := Int.natAbs_tdiv_le_natAbs n k
  by_cases h0 : 0 ≤ n
  · have := Int.tdiv_nonneg h0 (Int.le_of_lt hk); omega
  · have h2 : n.tdiv k ≤ 0 := by
      have := Int.tdiv_nonneg (a := -n) (b := k) (by omega) (by omega)
      rw [Int.neg_tdiv] at this; omega
    omega
theorem wrap_tdiv {n k : Int} (hk : 0 < k) (h : I64 n) : IntKind.i64.wrap (n.tdiv k) = n.tdiv k := by
  have := i64_tdiv hk h
  unfold I64 at this
  rw [IntKind.wrap_i64]; omega
set_option maxRecDepth 100000 in
set_option maxHeartbeats 8000000 in
theorem spoilt_c (vl : Value) (l : List Itv) (n m : Int) (w : World) (hl : ItvsR (ph w) vl l) (hlen : l.length ≤ 1000) (hn : I64 n) (hm : I64 m) :
    Calls Try.prog 11 #[vl, .int .i64 n, .int .i64 m] w (ListG (l.length + 1) w) := by
  have hM0 := (Mem.start w noH (noH_le _)).nil mono_ItvR 8 43
  simp only [List.nil_append] at hM0
  have hS := (Src.ofRep (w := w) hl (PLe.refl _)).free (H' := noH) fun _ _ h => h
  obtain ⟨la, lc, rfl, -, hl⟩ := hl.form
  go_enter Try.func11, Try.ntmps11
  go_upto_region 3 with (first | (at_builtin; refine wpList_append_M 0 rfl _ _ 23 rfl Try.underlying23 infoItv rfl rfl rfl hM0 rfl hS one_ItvR (by simp; omega) (by simp; omega) ?a5))
  case a5 =>
    intro v' w' hM
    try simp only [List.set_cons_zero, List.set_cons_succ, List.nil_append] at hM
    clear hM0 hS hl
    obtain ⟨oa, oc, rfl, -⟩ := hM.form 0 rfl
    by_cases h0 : l = []
    · subst h0
      have hM4 := hM.ext (Ext.new w' (.cells #[.int .i64 m, .int .i64 1, .int .i64 0, .int .i64 0, .bool false, .bool false, .bool false, .bool true] 43))
      have hS := Src.lit1 (H := noH) (E := ItvR) (sz := 8) (w := w'.alloc (.cells #[.int .i64 m, .int .i64 1, .int .i64 0, .int .i64 0, .bool false, .bool false, .bool false, .bool true] 43)) (b := w'.heap.size) (x := ⟨⟨m, 1⟩, ⟨0, 0⟩, false, false, false, true⟩) (cs := [.int .i64 m, .int .i64 1, .int .i64 0, .int .i64 0, .bool false, .bool false, .bool false, .bool true]) ⟨rfl, ⟨⟨hm, by unfold I64; dsimp only; omega⟩, ⟨by unfold I64; dsimp only; omega, by unfold I64; dsimp only; omega⟩⟩⟩ rfl (fun j => by rw [(Proofs.Ytmbkefgmiehdiaa.Own.new _ _ _).facts.1]; simp)
      clear hM
      simp only [List.length_nil] at *
      go_wp2_with (first | (at_builtin; refine wpList_append_M 0 rfl _ _ 23 rfl Try.underlying23 infoItv rfl rfl rfl hM4 rfl hS one_ItvR (by simp) (by simp) ?b5))
      case b5 =>
        intro v' w2 hM
        try simp only [List.set_cons_zero, List.set_cons_succ, List.nil_append] at hM
        clear hM4 hS
        have hr := Lib.hid (hM.rep 0 rfl)
        have hx := hM.ex
        clear hM
        go_wp2_with fail
        go_ret
        exact ⟨_, _, rfl, hx, hr.out, by simp⟩
    · obtain ⟨N, hN⟩ : ∃ N, l.length = N := ⟨_, rfl⟩
      have hN0 : 0 < N := by
        cases l with
        | nil => exact absurd rfl h0
        | cons => rw [← hN]; simp
      have hNb : ((N : Int) == 0) = false := by simp; omega
      rw [hN] at hM hlen ⊢
      have hq10 : I64 (n.tdiv 10) := i64_tdiv (by omega) hn
      have hw10 : IntKind.i64.wrap (n.tdiv 10) = n.tdiv 10 := wrap_tdiv (by omega) hn
      have hc1 := fun w => around_c (n.tdiv 10) N w hq10 (by omega) (by omega)
      have hc2 := fun w => around_c n 10 w hn (by omega) (by omega)
      obtain ⟨k0, k1⟩ := aroundV_range (n := n.tdiv 10) (m := N) hq10 (by omega)
      obtain ⟨q0, q1⟩ := aroundV_range (n := n) (m := 10) hn (by omega)
      generalize aroundV (n.tdiv 10) N = kk at *
      generalize aroundV n 10 = q at *
      obtain ⟨k, rfl⟩ : ∃ k : Nat, kk = k := ⟨kk.toNat, by omega⟩
      have hkl : k < l.length := by omega
      have hk0 : (k : Int) < (N : Int) := by omega
      have hk3 : k < N := by omega
      replace hc1 := Lib.hid hc1
      replace hc2 := Lib.hid hc2
      replace hN := Lib.hid hN
      replace h0 := Lib.hid h0
      replace k1 := Lib.hid k1
      generalize hW : w' = W at *
      clear hW
      go_wp2_with fail
      refine RetV_at (hc1.out _) ?_
      intro w2 hx2
      go_wp2_with fail
      refine RetV_at (hc2.out _) ?_
      intro w3 hx3
      replace hM := (hM.ext hx2).ext hx3
      clear hc1 hc2 hx2 hx3 hq10
      obtain ⟨x, hkx⟩ : ∃ x, l[k]? = some x := ⟨l[k], List.getElem?_eq_getElem _⟩
      obtain ⟨g, rfl, hg, hcx, hfx, hI⟩ := itvs_row hM hkx
      go_upto_block 0 with (fail)
      go_cut [7] (fun v wx => ∃ xs : List Itv, xs.length ≤ N + 1 ∧ Mem w noH [own mono_ItvR 8 43 v xs] noH wx)
      case first =>
        have hq : q = 0 ∨ q = 1 ∨ q = 2 ∨ q = 3 ∨ q = 4 ∨ q = 5 ∨ q = 6 ∨ q = 7 ∨ q = 8 ∨ q = 9 := by omega
        obtain ⟨⟨xa, xb⟩, ⟨xc, xd⟩, lO, rO, lI, rI⟩ := x
        obtain ⟨⟨i0, i1⟩, ⟨i2, i3⟩⟩ := hI
        dsimp only at i0 i1 i2 i3
        clear q0 q1
        replace hkl := Lib.hid hkl
        rcases hq with rfl | rfl | rfl | rfl | rfl | rfl | rfl | rfl | rfl | rfl
        · have c : w3.cell? ⟨g, k * 8, none⟩ = some (.int .i64 xa) := hcx 0 _ rfl
          have f := hfx (k * 8)
          obtain ⟨ys, hy, hM2⟩ := itvs_step (j := 0) (u := .int .i64 m) (x' := ⟨⟨m, xb⟩, ⟨xc, xd⟩, lO, rO, lI, rI⟩) hM hN.out (by omega) hkx rfl ⟨⟨hm, i1⟩, ⟨i2, i3⟩⟩
          try simp only [Nat.add_zero] at hM2
          clear hM hcx hfx hkx
          go_wp2_with fail
          go_meet
          case rel => exact ⟨ys, by omega, hM2⟩
        · have c : w3.cell? ⟨g, k * 8 + 1, none⟩ = some (.int .i64 xb) := hcx 1 _ rfl
          have f := hfx (k * 8 + 1)
          obtain ⟨ys, hy, hM2⟩ := itvs_step (j := 1) (u := .int .i64 m) (x' := ⟨⟨xa, m⟩, ⟨xc, xd⟩, lO, rO, lI, rI⟩) hM hN.out (by omega) hkx rfl ⟨⟨i0, hm⟩, ⟨i2, i3⟩⟩
          try simp only [Nat.add_zero] at hM2
          clear hM hcx hfx hkx
          go_wp2_with fail
          go_meet
          case rel => exact ⟨ys, by omega, hM2⟩
        · have c : w3.cell? ⟨g, k * 8 + 2, none⟩ = some (.int .i64 xc) := hcx 2 _ rfl
          have f := hfx (k * 8 + 2)
          obtain ⟨ys, hy, hM2⟩ := itvs_step (j := 2) (u := .int .i64 m) (x' := ⟨⟨xa, xb⟩, ⟨m, xd⟩, lO, rO, lI, rI⟩) hM hN.out (by omega) hkx rfl ⟨⟨i0, i1⟩, ⟨hm, i3⟩⟩
          try simp only [Nat.add_zero] at hM2
          clear hM hcx hfx hkx
          go_wp2_with fail
          go_meet
          case rel => exact ⟨ys, by omega, hM2⟩
        · have c : w3.cell? ⟨g, k * 8 + 3, none⟩ = some (.int .i64 xd) := hcx 3 _ rfl
          have f := hfx (k * 8 + 3)
          obtain ⟨ys, hy, hM2⟩ := itvs_step (j := 3) (u := .int .i64 m) (x' := ⟨⟨xa, xb⟩, ⟨xc, m⟩, lO, rO, lI, rI⟩) hM hN.out (by omega) hkx rfl ⟨⟨i0, i1⟩, ⟨i2, hm⟩⟩
          try simp only [Nat.add_zero] at hM2
          clear hM hcx hfx hkx
          go_wp2_with fail
          go_meet
          case rel => exact ⟨ys, by omega, hM2⟩
        · have c : w3.cell? ⟨g, k * 8 + 4, none⟩ = some (.bool lO) := hcx 4 _ rfl
          have f := hfx (k * 8 + 4)
          obtain ⟨ys, hy, hM2⟩ := itvs_step (j := 4) (u := .bool (!lO)) (x' := ⟨⟨xa, xb⟩, ⟨xc, xd⟩, !lO, rO, lI, rI⟩) hM hN.out (by omega) hkx rfl ⟨⟨i0, i1⟩, ⟨i2, i3⟩⟩
          try simp only [Nat.add_zero] at hM2
          clear hM hcx hfx hkx
          go_wp2_with fail
          go_meet
          case rel => exact ⟨ys, by omega, hM2⟩
        · have c : w3.cell? ⟨g, k * 8 + 5, none⟩ = some (.bool rO) := hcx 5 _ rfl
          have f := hfx (k * 8 + 5)
          obtain ⟨ys, hy, hM2⟩ := itvs_step (j := 5) (u := .bool (!rO)) (x' := ⟨⟨xa, xb⟩, ⟨xc, xd⟩, lO, !rO, lI, rI⟩) hM hN.out (by omega) hkx rfl ⟨⟨i0, i1⟩, ⟨i2, i3⟩⟩
          try simp only [Nat.add_zero] at hM2
          clear hM hcx hfx hkx
          go_wp2_with fail
          go_meet
          case rel => exact ⟨ys, by omega, hM2⟩
        · have c : w3.cell? ⟨g, k * 8 + 6, none⟩ = some (.bool lI) := hcx 6 _ rfl
          have f := hfx (k * 8 + 6)
          obtain ⟨ys, hy, hM2⟩ := itvs_step (j := 6) (u := .bool (!lI)) (x' := ⟨⟨xa, xb⟩, ⟨xc, xd⟩, lO, rO, !lI, rI⟩) hM hN.out (by omega) hkx rfl ⟨⟨i0, i1⟩, ⟨i2, i3⟩⟩
          try simp only [Nat.add_zero] at hM2
          clear hM hcx hfx hkx
          go_wp2_with fail
          go_meet
          case rel => exact ⟨ys, by omega, hM2⟩
        · have c : w3.cell? ⟨g, k * 8 + 7, none⟩ = some (.bool rI) := hcx 7 _ rfl
          have f := hfx (k * 8 + 7)
          obtain ⟨ys, hy, hM2⟩ := itvs_step (j := 7) (u := .bool (!rI)) (x' := ⟨⟨xa, xb⟩, ⟨xc, xd⟩, lO, rO, lI, !rI⟩) hM hN.out (by omega) hkx rfl ⟨⟨i0, i1⟩, ⟨i2, i3⟩⟩
          try simp only [Nat.add_zero] at hM2
          clear hM hcx hfx hkx
          go_wp2_with fail
          go_meet
          case rel => exact ⟨ys, by omega, hM2⟩
        · have h8 : ∀ j, j < 8 → w3.cell? ⟨g, k * 8 + j, none⟩ = some ((itC ⟨⟨xa, xb⟩, ⟨xc, xd⟩, lO, rO, lI, rI⟩).getD j undef) := fun j hj => hcx j _ (by simp [List.getD_eq_getElem?_getD, List.getElem?_eq_getElem (show j < (itC ⟨⟨xa, xb⟩, ⟨xc, xd⟩, lO, rO, lI, rI⟩).length from hj)])
          have g0 : w3.cell? ⟨g, k * 8, none⟩ = some (.int .i64 xa) := h8 0 (by omega)
          have g1 : w3.cell? ⟨g, k * 8 + 1, none⟩ = some (.int .i64 xb) := h8 1 (by omega)
          have g2 : w3.cell? ⟨g, k * 8 + 2, none⟩ = some (.int .i64 xc) := h8 2 (by omega)
          have g3 : w3.cell? ⟨g, k * 8 + 3, none⟩ = some (.int .i64 xd) := h8 3 (by omega)
          have g4 : w3.cell? ⟨g, k * 8 + 4, none⟩ = some (.bool lO) := h8 4 (by omega)
          have g5 : w3.cell? ⟨g, k * 8 + 5, none⟩ = some (.bool rO) := h8 5 (by omega)
          have g6 : w3.cell? ⟨g, k * 8 + 6, none⟩ = some (.bool lI) := h8 6 (by omega)
          have g7 : w3.cell? ⟨g, k * 8 + 7, none⟩ = some (.bool rI) := h8 7 (by omega)
          have hM4 := hM.ext (Ext.new w3 (.cells #[.int .i64 xa, .int .i64 xb, .int .i64 xc, .int .i64 xd, .bool lO, .bool rO, .bool lI, .bool rI] 43))
          have hS := Src.lit1 (H := noH) (E := ItvR) (sz := 8) (w := w3.alloc (.cells #[.int .i64 xa, .int .i64 xb, .int .i64 xc, .int .i64 xd, .bool lO, .bool rO, .bool lI, .bool rI] 43)) (b := w3.heap.size) (x := ⟨⟨xa, xb⟩, ⟨xc, xd⟩, lO, rO, lI, rI⟩) (cs := [.int .i64 xa, .int .i64 xb, .int .i64 xc, .int .i64 xd, .bool lO, .bool rO, .bool lI, .bool rI]) ⟨rfl, ⟨⟨i0, i1⟩, ⟨i2, i3⟩⟩⟩ rfl (fun j => by rw [(Proofs.Ytmbkefgmiehdiaa.Own.new _ _ _).facts.1]; simp)
          have hl9 : l.length ≤ 1000 := by rw [hN.out]; exact hlen
          clear hM hcx hfx hkx h8
          go_wp2_with (first | (at_builtin; refine wpList_append_M 0 rfl _ _ 23 rfl Try.underlying23 infoItv rfl rfl rfl hM4 rfl hS one_ItvR (by simp; omega) (by simp; omega) ?c5))
          case c5 =>
            intro v' w4 hM
            try simp only [List.set_cons_zero, List.set_cons_succ, List.nil_append] at hM
            clear hM4 hS
            go_wp2_with fail
            go_meet
            case rel => exact ⟨_, by have := hN.out; simp; omega, hM⟩
        · obtain ⟨y, hky⟩ : ∃ y, l[0]? = some y := ⟨l[0]'(by have := hN.out; omega), List.getElem?_eq_getElem _⟩
          obtain ⟨g', e', -, hcy, -, hIy⟩ := itvs_row hM hky
          cases e'
          obtain ⟨⟨ya, yb⟩, ⟨yc, yd⟩, lO', rO', lI', rI'⟩ := y
          have gh : ∀ j, j < 8 → w3.cell? ⟨g, k * 8 + j, none⟩ = some ((itC ⟨⟨xa, xb⟩, ⟨xc, xd⟩, lO, rO, lI, rI⟩).getD j undef) := fun j hj => hcx j _ (by simp [List.getD_eq_getElem?_getD, List.getElem?_eq_getElem (show j < (itC ⟨⟨xa, xb⟩, ⟨xc, xd⟩, lO, rO, lI, rI⟩).length from hj)])
          have zh : ∀ j, j < 8 → w3.cell? ⟨g, j, none⟩ = some ((itC ⟨⟨ya, yb⟩, ⟨yc, yd⟩, lO', rO', lI', rI'⟩).getD j undef) := fun j hj => by
            have := hcy j _ (show _ = some ((itC ⟨⟨ya, yb⟩, ⟨yc, yd⟩, lO', rO', lI', rI'⟩).getD j undef) by simp [List.getD_eq_getElem?_getD, List.getElem?_eq_getElem (show j < (itC ⟨⟨ya, yb⟩, ⟨yc, yd⟩, lO', rO', lI', rI'⟩).length from hj)])
            rwa [Nat.zero_mul, Nat.zero_add] at this
          have g0 : w3.cell? ⟨g, k * 8, none⟩ = some (.int .i64 xa) := gh 0 (by omega)
          have g1 : w3.cell? ⟨g, k * 8 + 1, none⟩ = some (.int .i64 xb) := gh 1 (by omega)
          have g2 : w3.cell? ⟨g, k * 8 + 2, none⟩ = some (.int .i64 xc) := gh 2 (by omega)
          have g3 : w3.cell? ⟨g, k * 8 + 3, none⟩ = some (.int .i64 xd) := gh 3 (by omega)
          have g4 : w3.cell? ⟨g, k * 8 + 4, none⟩ = some (.bool lO) := gh 4 (by omega)
          have g5 : w3.cell? ⟨g, k * 8 + 5, none⟩ = some (.bool rO) := gh 5 (by omega)
          have g6 : w3.cell? ⟨g, k * 8 + 6, none⟩ = some (.bool lI) := gh 6 (by omega)
          have g7 : w3.cell? ⟨g, k * 8 + 7, none⟩ = some (.bool rI) := gh 7 (by omega)
          have z0 : w3.cell? ⟨g, 0, none⟩ = some (.int .i64 ya) := zh 0 (by omega)
          have z1 : w3.cell? ⟨g, 1, none⟩ = some (.int .i64 yb) := zh 1 (by omega)
          have z2 : w3.cell? ⟨g, 2, none⟩ = some (.int .i64 yc) := zh 2 (by omega)
          have z3 : w3.cell? ⟨g, 3, none⟩ = some (.int .i64 yd) := zh 3 (by omega)
          have z4 : w3.cell? ⟨g, 4, none⟩ = some (.bool lO') := zh 4 (by omega)
          have z5 : w3.cell? ⟨g, 5, none⟩ = some (.bool rO') := zh 5 (by omega)
          have z6 : w3.cell? ⟨g, 6, none⟩ = some (.bool lI') := zh 6 (by omega)
          have z7 : w3.cell? ⟨g, 7, none⟩ = some (.bool rI') := zh 7 (by omega)
          have hIx : Itv.I ⟨⟨xa, xb⟩, ⟨xc, xd⟩, lO, rO, lI, rI⟩ := ⟨⟨i0, i1⟩, ⟨i2, i3⟩⟩
          have hMo := Lib.hid hM
          have hl0 : Hid (0 < l.length) := Lib.hid (by have := hN.out; omega)
          clear hM hcx hfx hcy gh zh i0 i1 i2 i3 hkx hky
          have hN0' : 0 < (N : Int) := by omega
          replace hIx := Lib.hid hIx
          replace hIy := Lib.hid hIy
          go_upto_region 7 with (fail)
          refine wp_region_any (by kernel_rfl) ?_
          change wpAny _ _ _ _ _ _ _ (World.drew _)
          have hM7 := hMo.out.ext (Ext.rfl' w3).drew'
          (refine wpAny_take (i := 0) (v := ?_) rfl (by kernel_rfl) (by kernel_rfl) (by kernel_rfl) (fun _ _ _ h => h) (Or.inl ⟨by rfl, ?_⟩) ?_; rotate_left; (focus ((intro w; go_simp); try (with_reducible rfl))); (try simp only [Act.put, List.setIfInBounds_toArray, List.set_cons_zero, List.set_cons_succ]))
          (refine wpAny_take (i := 1) (v := ?_) rfl (by kernel_rfl) (by kernel_rfl) (by kernel_rfl) (fun _ _ _ h => h) (Or.inl ⟨by rfl, ?_⟩) ?_; rotate_left; (focus ((intro w; go_simp); try (with_reducible rfl))); (try simp only [Act.put, List.setIfInBounds_toArray, List.set_cons_zero, List.set_cons_succ]))
          (refine wpAny_take (i := 2) (v := ?_) rfl (by kernel_rfl) (by kernel_rfl) (by kernel_rfl) (fun _ _ _ h => h) (Or.inl ⟨by rfl, ?_⟩) ?_; rotate_left; (focus ((intro w; go_simp); try (with_reducible rfl))); (try simp only [Act.put, List.setIfInBounds_toArray, List.set_cons_zero, List.set_cons_succ]))
          (refine wpAny_take (i := 3) (v := ?_) rfl (by kernel_rfl) (by kernel_rfl) (by kernel_rfl) (fun _ _ _ h => h) (Or.inl ⟨by rfl, ?_⟩) ?_; rotate_left; (focus ((intro w; go_simp); try (with_reducible rfl))); (try simp only [Act.put, List.setIfInBounds_toArray, List.set_cons_zero, List.set_cons_succ]))
          (refine wpAny_take (i := 4) (v := ?_) rfl (by kernel_rfl) (by kernel_rfl) (by kernel_rfl) (fun _ _ _ h => h) (Or.inl ⟨by rfl, ?_⟩) ?_; rotate_left; (focus ((intro w; go_simp); try (with_reducible rfl))); (try simp only [Act.put, List.setIfInBounds_toArray, List.set_cons_zero, List.set_cons_succ]))
          (refine wpAny_take (i := 7) (v := ?_) rfl (by kernel_rfl) (by kernel_rfl) (by kernel_rfl) (fun _ _ _ h => h) (Or.inl ⟨by rfl, ?_⟩) ?_; rotate_left; (focus ((intro w; go_simp); try (with_reducible rfl))); (try simp only [Act.put, List.setIfInBounds_toArray, List.set_cons_zero, List.set_cons_succ]))
          (refine wpAny_take (i := 5) (v := ?_) rfl (by kernel_rfl) (by kernel_rfl) (by kernel_rfl) (fun _ _ _ h => h) (Or.inl ⟨by rfl, ?_⟩) ?_; rotate_left; (focus ((intro w; go_simp); try (with_reducible rfl))); (try simp only [Act.put, List.setIfInBounds_toArray, List.set_cons_zero, List.set_cons_succ]))
          (refine wpAny_take (i := 8) (v := ?_) rfl (by kernel_rfl) (by kernel_rfl) (by kernel_rfl) (fun _ _ _ h => h) (Or.inl ⟨by rfl, ?_⟩) ?_; rotate_left; (focus ((intro w; go_simp); try (with_reducible rfl))); (try simp only [Act.put, List.setIfInBounds_toArray, List.set_cons_zero, List.set_cons_succ]))
          refine wpAny_ready (rs := [6, 9]) (by kernel_rfl) (by simp) ?_
          refine AllReady.cons rfl (fun K hK => ?_) (AllReady.cons rfl (fun K hK => ?_) AllReady.nil)
          · go_simp
            refine hK _ _ ?_
            clear hK K
            (refine wpAny_ready (rs := [9]) (by kernel_rfl) (by simp) ?_; refine AllReady.cons rfl (fun K hK => ?_) AllReady.nil; go_simp; refine hK _ _ ?_; clear hK K)
            (refine wpAny_take (i := 10) (v := ?_) rfl (by kernel_rfl) (by kernel_rfl) (by kernel_rfl) (fun _ _ _ h => h) (Or.inl ⟨by rfl, ?_⟩) ?_; rotate_left; (focus ((intro w; go_simp); try (with_reducible rfl))); (try simp only [Act.put, List.setIfInBounds_toArray, List.set_cons_zero, List.set_cons_succ]))
            refine wpAny_ready (rs := [11]) (by kernel_rfl) (by simp) ?_; refine AllReady.cons rfl (fun K hK => ?_) AllReady.nil; rw [if_pos (by rfl)]
            refine oper_store_M (xs := l) (n := N) (cap := oc) (g := g) 43 _ _ rfl 0 rfl (cs := itC ⟨⟨xa, xb⟩, ⟨xc, xd⟩, lO, rO, lI, rI⟩) rfl (x' := ⟨⟨xa, xb⟩, ⟨xc, xd⟩, lO, rO, lI, rI⟩) hM7 0 rfl hl0.out ⟨rfl, hIx.out⟩ rfl (fun u hu => one_ItvR (h := noH) _ _ ⟨rfl, hIx.out⟩ u hu) (by kernel_rfl) ?_
            intro w8 hM8
            refine hK _ _ ?_
            clear hK K
            try simp only [List.set_cons_zero, List.set_cons_succ, List.nil_append] at hM8
            clear hM7
            (refine wpAny_take (i := 12) (v := ?_) rfl (by kernel_rfl) (by kernel_rfl) (by kernel_rfl) (fun _ _ _ h => h) (Or.inl ⟨by rfl, ?_⟩) ?_; rotate_left; (focus ((intro w; go_simp); try (with_reducible rfl))); (try simp only [Act.put, List.setIfInBounds_toArray, List.set_cons_zero, List.set_cons_succ]))
            refine wpAny_ready (rs := [13]) (by kernel_rfl) (by simp) ?_; refine AllReady.cons rfl (fun K hK => ?_) AllReady.nil; rw [if_pos (by rfl)]
            refine oper_store_M (xs := l.set 0 ⟨⟨xa, xb⟩, ⟨xc, xd⟩, lO, rO, lI, rI⟩) (n := N) (cap := oc) (g := g) 43 _ _ rfl k rfl (cs := itC ⟨⟨ya, yb⟩, ⟨yc, yd⟩, lO', rO', lI', rI'⟩) rfl (x' := ⟨⟨ya, yb⟩, ⟨yc, yd⟩, lO', rO', lI', rI'⟩) hM8 0 rfl (by rw [List.length_set]; exact hkl.out) ⟨rfl, hIy.out⟩ rfl (fun u hu => one_ItvR (h := noH) _ _ ⟨rfl, hIy.out⟩ u hu) (by kernel_rfl) ?_
            intro w9 hM9
            refine hK _ _ ?_
            clear hK K
            try simp only [List.set_cons_zero, List.set_cons_succ, List.nil_append] at hM9
            clear hM8
            refine wpAny_done (by kernel_rfl) ?_ _
            simp only [List.getElem_toArray, List.getElem_cons_succ, List.getElem_cons_zero, Act.put, List.setIfInBounds_toArray, List.set_cons_zero, List.set_cons_succ]
            go_wp2_with fail
            go_meet
            case rel => exact ⟨_, by have := hN.out; simp; omega, hM9⟩
          · go_simp
            refine hK _ _ ?_
            clear hK K
            (refine wpAny_ready (rs := [6]) (by kernel_rfl) (by simp) ?_; refine AllReady.cons rfl (fun K hK => ?_) AllReady.nil; go_simp; refine hK _ _ ?_; clear hK K)
            (refine wpAny_take (i := 10) (v := ?_) rfl (by kernel_rfl) (by kernel_rfl) (by kernel_rfl) (fun _ _ _ h => h) (Or.inl ⟨by rfl, ?_⟩) ?_; rotate_left; (focus ((intro w; go_simp); try (with_reducible rfl))); (try simp only [Act.put, List.setIfInBounds_toArray, List.set_cons_zero, List.set_cons_succ]))
            refine wpAny_ready (rs := [11]) (by kernel_rfl) (by simp) ?_; refine AllReady.cons rfl (fun K hK => ?_) AllReady.nil; rw [if_pos (by rfl)]
            refine oper_store_M (xs := l) (n := N) (cap := oc) (g := g) 43 _ _ rfl 0 rfl (cs := itC ⟨⟨xa, xb⟩, ⟨xc, xd⟩, lO, rO, lI, rI⟩) rfl (x' := ⟨⟨xa, xb⟩, ⟨xc, xd⟩, lO, rO, lI, rI⟩) hM7 0 rfl hl0.out ⟨rfl, hIx.out⟩ rfl (fun u hu => one_ItvR (h := noH) _ _ ⟨rfl, hIx.out⟩ u hu) (by kernel_rfl) ?_
            intro w8 hM8
            refine hK _ _ ?_
            clear hK K
            try simp only [List.set_cons_zero, List.set_cons_succ, List.nil_append] at hM8
            clear hM7
            (refine wpAny_take (i := 12) (v := ?_) rfl (by kernel_rfl) (by kernel_rfl) (by kernel_rfl) (fun _ _ _ h => h) (Or.inl ⟨by rfl, ?_⟩) ?_; rotate_left; (focus ((intro w; go_simp); try (with_reducible rfl))); (try simp only [Act.put, List.setIfInBounds_toArray, List.set_cons_zero, List.set_cons_succ]))
            refine wpAny_ready (rs := [13]) (by kernel_rfl) (by simp) ?_; refine AllReady.cons rfl (fun K hK => ?_) AllReady.nil; rw [if_pos (by rfl)]
            refine oper_store_M (xs := l.set 0 ⟨⟨xa, xb⟩, ⟨xc, xd⟩, lO, rO, lI, rI⟩) (n := N) (cap := oc) (g := g) 43 _ _ rfl k rfl (cs := itC ⟨⟨ya, yb⟩, ⟨yc, yd⟩, lO', rO', lI', rI'⟩) rfl (x' := ⟨⟨ya, yb⟩, ⟨yc, yd⟩, lO', rO', lI', rI'⟩) hM8 0 rfl (by rw [List.length_set]; exact hkl.out) ⟨rfl, hIy.out⟩ rfl (fun u hu => one_ItvR (h := noH) _ _ ⟨rfl, hIy.out⟩ u hu) (by kernel_rfl) ?_
            intro w9 hM9
            refine hK _ _ ?_
            clear hK K
            try simp only [List.set_cons_zero, List.set_cons_succ, List.nil_append] at hM9
            clear hM8
            refine wpAny_done (by kernel_rfl) ?_ _
            simp only [List.getElem_toArray, List.getElem_cons_succ, List.getElem_cons_zero, Act.put, List.setIfInBounds_toArray, List.set_cons_zero, List.set_cons_succ]
            go_wp2_with fail
            go_meet
            case rel => exact ⟨_, by have := hN.out; simp; omega, hM9⟩
      case rest =>
        clear hM hcx hfx
        obtain ⟨xs, hxs, hM⟩ := hcut
        have hr := Lib.hid (hM.rep 0 rfl)
        have hx := hM.ex
        clear hM
        go_wp2_with fail
        go_ret
        exact ⟨_, _, rfl, hx, hr.out, by have := hN.out; omega⟩
end Go.Proofs.Ytmbkefgmiehdiaa
