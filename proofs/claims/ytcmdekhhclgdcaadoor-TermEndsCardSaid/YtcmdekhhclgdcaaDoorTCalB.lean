/- package priorartref14: Bent. -/
import Derived.Test.YtcmdekhhclgdcaaDoorTSome
namespace Go.Proofs.YtcmdekhhclgdcaaDoor
open Go.RowKit Go.Shelf
set_option linter.unusedSimpArgs false
set_option linter.unusedVariables false
theorem ints_at (zs : List Int) (hz : ∀ z ∈ zs, I64 z) (w : World) (j : Nat) (hj : j < zs.length) : ∃ z, (w.alloc (.cells (zs.map (Value.int .i64)).toArray 3)).cell? ⟨w.heap.size, j, none⟩ = some (.int .i64 z) ∧ I64 z := by
  have h := (Proofs.YtcmdekhhclgdcaaDoor.Own.new w (zs.map (Value.int .i64)).toArray 3).facts.1 j
  refine ⟨zs[j], ?_, hz _ (List.getElem_mem hj)⟩
  rw [h]; simp [hj]
theorem Src.freeB {α : Type} {E : PH → List Value → α → Prop} {sz : Nat} {H H' : PH} {w : World} {v : Value} {xs : List α} (h : Src w H E sz v xs) (hE : ∀ cs x, E H cs x → E H' cs x) : Src w H' E sz v xs := by
  obtain ⟨a, cap, h1, h2, h3⟩ := h
  refine ⟨a, cap, h1, h2, ?_⟩
  rcases h3 with h3 | ⟨ad, c, h3, h4, h5⟩
  · exact .inl h3
  · exact .inr ⟨ad, c, h3, h4.mono hE, h5⟩
theorem Cells.setAtB {α : Type} {E : PH → List Value → α → Prop} {sz : Nat} {H : PH} {j : Nat} (hj : j < sz) {x x' : α} {u : Value} (h : ∀ cs, E H cs x → E H (cs.set j u) x') : ∀ {xs : List α} {c : List Value} (k : Nat), xs[k]? = some x → Cells H E sz c xs → Cells H E sz (c.set (k * sz + j) u) (xs.set k x')
  | [], _, k, hk, _ => by simp at hk
  | z :: zs, c, 0, hk, hc => by
    obtain ⟨cs, rest, rfl, h1, h2, h3⟩ := hc
    obtain rfl : z = x := by simpa using hk
    refine ⟨cs.set j u, rest, ?_, by simpa using h1, h _ h2, h3⟩
    rw [Nat.zero_mul, Nat.zero_add, List.set_append_left _ _ (by omega)]
  | z :: zs, c, k + 1, hk, hc => by
    obtain ⟨cs, rest, rfl, h1, h2, h3⟩ := hc
    refine ⟨cs, rest.set (k * sz + j) u, ?_, h1, h2, Cells.setAtB hj h k (by simpa using hk) h3⟩
    rw [List.set_append_right _ _ (by rw [Nat.add_mul]; omega)]
    congr 2; rw [Nat.add_mul]; omega
/-- a cell of the first date of an own slice is written -/
theorem dat_first {w0 w : World} {L : List Chunk} {v : Value} {x x' : Dat} {xs : List Dat} {T : TypeId} {u : Value} (h : Mem w0 noH L noH w) (i : Nat) (hi : L[i]? = some (own mono_DateR 3 T v (x :: xs))) (j : Nat) (hj : j < 3) (hx : ∀ cs, DateR noH cs x → DateR noH (cs.set j u) x') :
    ∃ g cap, v = .slice (some ⟨g, 0, none⟩) (x :: xs).length cap ∧ w.frozen? ⟨g, j, none⟩ = false ∧ (∃ n, w.cell? ⟨g, j, none⟩ = some (.int .i64 n)) ∧ g < w.heap.size ∧
      Mem w0 noH (L.set i (own mono_DateR 3 T v (x' :: xs))) noH (w.setCell ⟨g, j, none⟩ u) := by
  obtain ⟨g0, cap0, cs0, hv0, hl0, hc0, ⟨hcs, -⟩, -⟩ := h.get i hi 0 (by simp)
  have h4 : OwnC noH w DateR 3 T v (x :: xs) := h.ok i _ hi
  rcases h4 with ⟨-, h4⟩ | ⟨g, cap, cur, rfl, k1, k2, k3, k4, k5⟩
  · cases h4
  · cases hv0
    have hgl := (Array.getElem?_eq_some_iff.1 k1).1
    refine ⟨g0, cap0, rfl, by simp [World.frozen?, k1], ?_, hgl, ?_⟩
    · have := hc0 j hj
      rw [Nat.zero_mul, Nat.zero_add] at this
      subst hcs
      simp only [List.getElem_cons_zero] at this
      match j, hj with
      | 0, _ => exact ⟨_, this⟩
      | 1, _ => exact ⟨_, this⟩
      | 2, _ => exact ⟨_, this⟩
    · refine h.put i hi (c' := own mono_DateR 3 T _ (x' :: xs)) (.inr ⟨g0, cap0, cur.setIfInBounds j u, by simp, Own.set (T := T) k1 _ _, by simpa using k2, k3, by simpa using k4, ?_⟩) (fun k hk => .inl hk) (h.ex.set' (h.fr i _ hi g0 rfl).1 _) fun j hj hne => ?_
      · have := Cells.setAtB (H := noH) hj hx 0 rfl k5
        rw [Nat.zero_mul, Nat.zero_add] at this
        rw [Array.toList_setIfInBounds, List.take_set]
        exact this
      · rw [Below.heap_setCell _ _ _ _ (fun e => hne (by rw [e]; rfl))]
/-- a calendar comes back -/
def CalP (w : World) (e : Ending) (w' : World) : Prop := ∃ v c, e = .returned v ∧ Ext w w' ∧ CalR (ph w') v c
theorem dat_set {H : PH} {x x' : Dat} {j : Nat} {u : Value} (h : (datC x).set j u = datC x') (hI : I64 x.1 ∧ I64 x.2.1 ∧ I64 x.2.2 → I64 x'.1 ∧ I64 x'.2.1 ∧ I64 x'.2.2) : ∀ cs, DateR H cs x → DateR H (cs.set j u) x' := by
  rintro cs ⟨rfl, hx⟩; exact ⟨h, hI hx⟩
set_option maxRecDepth 100000 in
set_option maxHeartbeats 4000000 in
theorem calBent_c (c : Cal) (v : Value) (how by' : Int) (w : World) (hr : CalR (ph w) v c) (h1 : c.1.length ≤ 1000) (h2 : c.2.length ≤ 1000) (hh : I64 how) (hb : I64 by') :
    Calls Tryd.prog 27 #[v, .int .i64 how, .int .i64 by'] w (CalP w) := by
  obtain ⟨a, b, rfl, hW, hH⟩ := hr
  obtain ⟨wa, wc, rfl, wlen, hW⟩ := hW.form
  obtain ⟨ha, hc, rfl, hlen', hH⟩ := hH.form
  have har := fun w => around_c how 5 w hh (by omega) (by omega)
  obtain ⟨s0, s1⟩ := aroundV_range (m := 5) hh (by omega)
  generalize aroundV how 5 = s at *
  have ha4 := fun w => around_c by' 4 w hb (by omega) (by omega)
  obtain ⟨r0, r1⟩ := aroundV_range (m := 4) hb (by omega)
  generalize aroundV by' 4 = r at *
  obtain ⟨j4, rfl⟩ : ∃ k : Nat, r = k := ⟨r.toNat, by omega⟩
  have ha6 := fun w => around_c by' 6 w hb (by omega) (by omega)
  obtain ⟨u0, u1⟩ := aroundV_range (m := 6) hb (by omega)
  generalize aroundV by' 6 = u at *
  obtain ⟨j6, rfl⟩ : ∃ k : Nat, u = k := ⟨u.toNat, by omega⟩
  have ha3 := fun w => around_c by' 3 w hb (by omega) (by omega)
  obtain ⟨t0, t1⟩ := aroundV_range (m := 3) hb (by omega)
  generalize aroundV by' 3 = t at *
  have ha5 := fun w => around_c by' 5 w hb (by omega) (by omega)
  generalize aroundV by' 5 = q at *
  replace har := Lib.hid har
  replace ha3 := Lib.hid ha3
  replace ha4 := Lib.hid ha4
  replace ha5 := Lib.hid ha5
  replace ha6 := Lib.hid ha6
  have hM0 := ((((Mem.start w noH (noH_le _)).new #[.slice wa c.1.length wc, .slice ha c.2.length hc] 41).new' #[.slice none 0 0, .slice none 0 0] 41 (n := w.heap.size + 1) (by simp)).nil mono_IntR 1 3).nil mono_DateR 3 94
  simp only [List.nil_append, List.cons_append] at hM0
  go_enter Tryd.func27, Tryd.ntmps27
  go_upto_region 3 with (fail)
  generalize (w.alloc _).alloc _ = W at *
  replace hW := hW.mono mono_IntR hM0.ex.ple
  have a0 : _ = some (Value.slice wa c.1.length wc) := (hM0.box 0 rfl).facts.1 0
  have hS0 : Src W noH IntR 1 (.slice wa c.1.length wc) c.1 := (Src.ofRep (w := W) hW (PLe.refl _)).freeB fun _ _ h => h
  go_wp2_with (first | (at_builtin; refine wpList_append_M 2 rfl _ _ 22 rfl Tryd.underlying22 infoInt rfl rfl rfl hM0 rfl hS0 one_IntR ?c3 ?c4 ?c5))
  case c3 => simp; omega
  case c4 => simp; omega
  case c5 =>
  intro v1 w1 hM1
  try simp only [List.set_cons_succ, List.set_cons_zero, List.nil_append] at hM1
  obtain ⟨xa, xc, rfl, -⟩ := hM1.form 2 rfl
  clear hS0 a0 hW
  have a1 : _ = some (Value.slice ha c.2.length hc) := (hM1.box 0 rfl).facts.1 1
  have hS1 : Src w1 noH DateR 3 (.slice ha c.2.length hc) c.2 := (Src.ofRep (w := w1) (hH.mono mono_DateR hM1.ex.ple) (PLe.refl _)).freeB fun _ _ h => h
  clear hH
  go_wp2_with (first | (at_builtin; refine wpList_append_M 3 rfl _ _ 37 rfl Tryd.underlying37 infoDat rfl rfl rfl hM1 rfl hS1 one_DateR ?d3 ?d4 ?d5))
  case d3 => simp; omega
  case d4 => simp; omega
  case d5 =>
  intro v2 w2 hM2
  try simp only [List.set_cons_succ, List.set_cons_zero, List.nil_append] at hM2
  obtain ⟨ya, yc, rfl, -⟩ := hM2.form 3 rfl
  clear hS1 a1 hM1 hM0
  go_wp2_with fail
  refine RetV_at (har.out _) ?_
  intro w3 hx3
  replace hM2 := hM2.ext hx3
  obtain ⟨ws, hs⟩ := c
  dsimp only at *
  by_cases e0 : s = 0
  · subst e0
    obtain ⟨z, hz, hzI⟩ := ints_at [by', 6, 7, -1] (by intro z hz; simp at hz; unfold I64 at *; omega) w3 j4 (by simp; omega)
    have hz : _ = some (Value.int .i64 z) := hz
    have hM3 := hM2.allocN (.cells #[.int .i64 by', .int .i64 6, .int .i64 7, .int .i64 (-1)] 3)
    have hlt3 : w3.heap.size < (w3.alloc (.cells #[.int .i64 by', .int .i64 6, .int .i64 7, .int .i64 (-1)] 3)).heap.size := by simp
    have hj : (j4 : Int) < 4 := by omega
    go_wp2_with fail
    refine RetV_at (ha4.out _) ?_
    intro w4 hx4
    replace hM3 := (hM3.ext hx4).allocN (.cells #[.int .i64 z] 3)
    have hz4 := hx4.cell1 hz
    have hS := Src.lit1 (w := w4.alloc (.cells #[.int .i64 z] 3)) (b := w4.heap.size) (sz := 1) (E := IntR) (H := noH) (x := z) (cs := [.int .i64 z]) ⟨rfl, hzI⟩ rfl (fun j => by rw [(Proofs.YtcmdekhhclgdcaaDoor.Own.new w4 #[.int .i64 z] 3).facts.1 j]; simp)
    go_wp2_with (first | (at_builtin; refine wpList_append_M 2 rfl _ _ 22 rfl Tryd.underlying22 infoInt rfl rfl rfl hM3 rfl hS one_IntR ?e3 ?e4 ?e5))
    case e3 => simp; omega
    case e4 => simp; omega
    case e5 =>
      intro v5 w5 hM5
      try simp only [List.set_cons_succ, List.set_cons_zero] at hM5
      obtain ⟨na, nc, rfl, -⟩ := hM5.form 2 rfl
      simp only [List.length_append, List.length_cons, List.length_nil, Nat.zero_add] at hM5
      have k0 : _ = some (Value.slice none 0 0) := (hM5.box 1 rfl).facts.1 0
      have k1 : _ = some (Value.slice none 0 0) := (hM5.box 1 rfl).facts.1 1
      have m0 := (hM5.box 1 rfl).facts.2 0
      have m1 := (hM5.box 1 rfl).facts.2 1
      have hMf := (hM5.set 1 rfl 0 (Value.slice na (ws.length + 1) nc)).set 1 rfl 1 (Value.slice ya hs.length yc)
      try simp only [List.set_cons_succ, List.set_cons_zero, List.setIfInBounds_toArray] at hMf
      have z0 : _ = some (Value.slice na (ws.length + 1) nc) := (hMf.box 1 rfl).facts.1 0
      have z1 : _ = some (Value.slice ya hs.length yc) := (hMf.box 1 rfl).facts.1 1
      go_wp2_with fail
      refine bodyPost_ret (v := .agg #[Value.slice na (ws.length + 1) nc, Value.slice ya hs.length yc]) (by simp [results, Tryd.results27, go_sem, z0, z1]) rfl ?_
      exact ⟨_, (ws ++ [z], hs), rfl, hMf.ex, ⟨_, _, rfl, by have := hMf.rep 2 rfl; simpa using this, hMf.rep 3 rfl⟩⟩
  · have b0 : (s == 0) = false := by simpa using e0
    by_cases e1 : s = 1
    · subst e1
      have hM3 := (hM2.new #[.int .i64 0, .int .i64 1, .int .i64 2, .int .i64 3, .int .i64 4, .int .i64 5, .int .i64 6] 3)
      simp only [List.nil_append, List.cons_append] at hM3
      have hM4 := hM3.asOwn (xs := [0, 1, 2, 3, 4, 5, 6]) (E := IntR) (sz := 1) 4 rfl mono_IntR (n := 7) (by simp) (by decide) rfl (⟨[_], _, rfl, rfl, ⟨rfl, by unfold I64; omega⟩, ⟨[_], _, rfl, rfl, ⟨rfl, by unfold I64; omega⟩, ⟨[_], _, rfl, rfl, ⟨rfl, by unfold I64; omega⟩, ⟨[_], _, rfl, rfl, ⟨rfl, by unfold I64; omega⟩, ⟨[_], _, rfl, rfl, ⟨rfl, by unfold I64; omega⟩, ⟨[_], _, rfl, rfl, ⟨rfl, by unfold I64; omega⟩, ⟨[_], _, rfl, rfl, ⟨rfl, by unfold I64; omega⟩, rfl⟩⟩⟩⟩⟩⟩⟩)
      simp only [List.set_cons_succ, List.set_cons_zero] at hM4
      have k0 : _ = some (Value.slice none 0 0) := (hM4.box 1 rfl).facts.1 0
      have k1 : _ = some (Value.slice none 0 0) := (hM4.box 1 rfl).facts.1 1
      have m0 := (hM4.box 1 rfl).facts.2 0
      have m1 := (hM4.box 1 rfl).facts.2 1
      have hMf := (hM4.set 1 rfl 0 (Value.slice (some ⟨w3.heap.size, 0, none⟩) 7 7)).set 1 rfl 1 (Value.slice ya hs.length yc)
      try simp only [List.set_cons_succ, List.set_cons_zero, List.setIfInBounds_toArray] at hMf
      have z0 : _ = some (Value.slice (some ⟨w3.heap.size, 0, none⟩) 7 7) := (hMf.box 1 rfl).facts.1 0
      have z1 : _ = some (Value.slice ya hs.length yc) := (hMf.box 1 rfl).facts.1 1
      go_wp2_with fail
      refine bodyPost_ret (v := .agg #[Value.slice (some ⟨w3.heap.size, 0, none⟩) 7 7, Value.slice ya hs.length yc]) (by simp [results, Tryd.results27, go_sem, z0, z1]) rfl ?_
      exact ⟨_, ([0, 1, 2, 3, 4, 5, 6], hs), rfl, hMf.ex, ⟨_, _, rfl, hMf.rep 4 rfl, hMf.rep 3 rfl⟩⟩
    · have b1 : (s == 1) = false := by simpa using e1
      by_cases e2 : s = 2
      · subst e2
        obtain ⟨z, hz, hzI⟩ := ints_at [by', 12, 0, 13] (by intro z hz; simp at hz; unfold I64 at *; omega) w3 j4 (by simp; omega)
        have hz : _ = some (Value.int .i64 z) := hz
        have hM3 := hM2.allocN (.cells #[.int .i64 by', .int .i64 12, .int .i64 0, .int .i64 13] 3)
        have hlt3 : w3.heap.size < (w3.alloc (.cells #[.int .i64 by', .int .i64 12, .int .i64 0, .int .i64 13] 3)).heap.size := by simp
        have hj : (j4 : Int) < 4 := by omega
        go_wp2_with fail
        refine RetV_at (ha4.out _) ?_
        intro w4 hx4
        replace hM3 := (hM3.ext hx4).allocN (.cells #[.int .i64 0, .int .i64 z, .int .i64 31] 94)
        have hz4 := hx4.cell1 hz
        have hS := Src.lit1 (w := w4.alloc (.cells #[.int .i64 0, .int .i64 z, .int .i64 31] 94)) (b := w4.heap.size) (sz := 3) (E := DateR) (H := noH) (x := (0, z, 31)) (cs := [.int .i64 0, .int .i64 z, .int .i64 31]) ⟨rfl, by unfold I64 at *; dsimp only; omega⟩ rfl (fun j => by rw [(Proofs.YtcmdekhhclgdcaaDoor.Own.new w4 #[.int .i64 0, .int .i64 z, .int .i64 31] 94).facts.1 j]; simp)
        go_wp2_with (first | (at_builtin; refine wpList_append_M 3 rfl _ _ 37 rfl Tryd.underlying37 infoDat rfl rfl rfl hM3 rfl hS one_DateR ?f3 ?f4 ?f5))
        case f3 => simp; omega
        case f4 => simp; omega
        case f5 =>
          intro v5 w5 hM5
          try simp only [List.set_cons_succ, List.set_cons_zero] at hM5
          obtain ⟨na, nc, rfl, -⟩ := hM5.form 3 rfl
          simp only [List.length_append, List.length_cons, List.length_nil, Nat.zero_add] at hM5
          have k0 : _ = some (Value.slice none 0 0) := (hM5.box 1 rfl).facts.1 0
          have k1 : _ = some (Value.slice none 0 0) := (hM5.box 1 rfl).facts.1 1
          have m0 := (hM5.box 1 rfl).facts.2 0
          have m1 := (hM5.box 1 rfl).facts.2 1
          have hMf := (hM5.set 1 rfl 0 (Value.slice xa ws.length xc)).set 1 rfl 1 (Value.slice na (hs.length + 1) nc)
          try simp only [List.set_cons_succ, List.set_cons_zero, List.setIfInBounds_toArray] at hMf
          have z0 : _ = some (Value.slice xa ws.length xc) := (hMf.box 1 rfl).facts.1 0
          have z1 : _ = some (Value.slice na (hs.length + 1) nc) := (hMf.box 1 rfl).facts.1 1
          go_wp2_with fail
          refine bodyPost_ret (v := .agg #[Value.slice xa ws.length xc, Value.slice na (hs.length + 1) nc]) (by simp [results, Tryd.results27, go_sem, z0, z1]) rfl ?_
          exact ⟨_, (ws, hs ++ [(0, z, 31)]), rfl, hMf.ex, ⟨_, _, rfl, hMf.rep 2 rfl, by have := hMf.rep 3 rfl; simpa using this⟩⟩
      · have b2 : (s == 2) = false := by simpa using e2
        by_cases e3 : s = 3
        · subst e3
          cases hs with
          | nil =>
            simp only [List.length_nil] at *
            have k0 : _ = some (Value.slice none 0 0) := (hM2.box 1 rfl).facts.1 0
            have k1 : _ = some (Value.slice none 0 0) := (hM2.box 1 rfl).facts.1 1
            have m0 := (hM2.box 1 rfl).facts.2 0
            have m1 := (hM2.box 1 rfl).facts.2 1
            have hMf := (hM2.set 1 rfl 0 (Value.slice xa ws.length xc)).set 1 rfl 1 (Value.slice ya 0 yc)
            try simp only [List.set_cons_succ, List.set_cons_zero, List.setIfInBounds_toArray] at hMf
            have z0 : _ = some (Value.slice xa ws.length xc) := (hMf.box 1 rfl).facts.1 0
            have z1 : _ = some (Value.slice ya 0 yc) := (hMf.box 1 rfl).facts.1 1
            go_wp2_with fail
            refine bodyPost_ret (v := .agg #[Value.slice xa ws.length xc, Value.slice ya 0 yc]) (by simp [results, Tryd.results27, go_sem, z0, z1]) rfl ?_
            exact ⟨_, (ws, []), rfl, hMf.ex, ⟨_, _, rfl, hMf.rep 2 rfl, hMf.rep 3 rfl⟩⟩
          | cons x xs =>
            obtain ⟨z, hz, hzI⟩ := ints_at [by', 0, 29, 30, 31, 32] (by intro z hz; simp at hz; unfold I64 at *; omega) w3 j6 (by simp; omega)
            have hz : _ = some (Value.int .i64 z) := hz
            have hM3 := hM2.allocN (.cells #[.int .i64 by', .int .i64 0, .int .i64 29, .int .i64 30, .int .i64 31, .int .i64 32] 3)
            have hlt3 : w3.heap.size < (w3.alloc (.cells #[.int .i64 by', .int .i64 0, .int .i64 29, .int .i64 30, .int .i64 31, .int .i64 32] 3)).heap.size := by simp
            have hj : (j6 : Int) < 6 := by omega
            have hpos : (0 : Int) < ((x :: xs).length : Int) := by simp
            obtain ⟨N, hN⟩ : ∃ N, (x :: xs).length = N := ⟨_, rfl⟩
            rw [hN] at hM2 hM3 hpos
            simp only [hN]
            go_wp2_with fail
            refine RetV_at (ha6.out _) ?_
            intro w4 hx4
            replace hM3 := hM3.ext hx4
            have hz4 := hx4.cell1 hz
            rw [← hN] at hM3
            obtain ⟨g, cap, hv, hfz, ⟨n9, hc9⟩, hgs, hM4⟩ := dat_first (x' := (x.1, x.2.1, z)) (u := .int .i64 z) hM3 3 rfl 2 (by omega) (dat_set rfl fun h => ⟨h.1, h.2.1, hzI⟩)
            cases hv
            simp only [List.set_cons_succ, List.set_cons_zero] at hM4
            rw [hN] at hM4
            have k0 : _ = some (Value.slice none 0 0) := (hM4.box 1 rfl).facts.1 0
            have k1 : _ = some (Value.slice none 0 0) := (hM4.box 1 rfl).facts.1 1
            have m0 := (hM4.box 1 rfl).facts.2 0
            have m1 := (hM4.box 1 rfl).facts.2 1
            have hMf := (hM4.set 1 rfl 0 (Value.slice xa ws.length xc)).set 1 rfl 1 (Value.slice (some ⟨g, 0, none⟩) N yc)
            try simp only [List.set_cons_succ, List.set_cons_zero, List.setIfInBounds_toArray] at hMf
            have z0 : _ = some (Value.slice xa ws.length xc) := (hMf.box 1 rfl).facts.1 0
            have z1 : _ = some (Value.slice (some ⟨g, 0, none⟩) N yc) := (hMf.box 1 rfl).facts.1 1
            go_wp2_with fail
            refine bodyPost_ret (v := .agg #[Value.slice xa ws.length xc, Value.slice (some ⟨g, 0, none⟩) N yc]) (by simp [results, Tryd.results27, go_sem, z0, z1]) rfl ?_
            exact ⟨_, (ws, (x.1, x.2.1, z) :: xs), rfl, hMf.ex, ⟨_, _, rfl, hMf.rep 2 rfl, by have := hMf.rep 3 rfl; exact this⟩⟩
        · have b3 : (s == 3) = false := by simpa using e3
          cases hs with
          | nil =>
            simp only [List.length_nil] at *
            go_wp2_with fail
            go_loopw [8, 9] (fun vh i wr => ∃ k : Nat, k ≤ 60 ∧ i = .int .i64 k ∧ ∃ hz : List Dat, Hid (hz.length ≤ 1000 + k) ∧ Mem w noH [box w.heap.size #[.slice wa ws.length wc, .slice ha 0 hc] 41, box (w.heap.size + 1) #[.slice none 0 0, .slice none 0 0] 41, own mono_IntR 1 3 (.slice xa ws.length xc) ws, own mono_DateR 3 94 vh hz] noH wr) (fun _ i _ => 60 - (intOf i).toNat)
            case atStart => exact ⟨0, by omega, rfl, [], Lib.hid (by simp), hM2⟩
            case round =>
              clear hM2
              obtain ⟨k, hk, rfl, hz, hzl, hM⟩ := hrel
              obtain ⟨ba, bc, rfl, -⟩ := hM.form 3 rfl
              by_cases hlt : k < 60
              · have hlt' : (k : Int) < 60 := by omega
                go_wp2_with fail
                refine RetV_at (ha5.out _) ?_
                intro w7 hx7
                replace hM := hM.ext hx7
                by_cases hq : q = 0
                · subst hq
                  replace hM := hM.allocN (.cells #[.int .i64 0, .int .i64 12, .int .i64 31] 94)
                  have hS := Src.lit1 (w := w7.alloc (.cells #[.int .i64 0, .int .i64 12, .int .i64 31] 94)) (b := w7.heap.size) (sz := 3) (E := DateR) (H := noH) (x := (0, 12, 31)) (cs := [.int .i64 0, .int .i64 12, .int .i64 31]) ⟨rfl, by unfold I64; dsimp only; omega⟩ rfl (fun j => by rw [(Proofs.YtcmdekhhclgdcaaDoor.Own.new w7 #[.int .i64 0, .int .i64 12, .int .i64 31] 94).facts.1 j]; simp)
                  go_wp2_with (first | (at_builtin; refine wpList_append_M 3 rfl _ _ 37 rfl Tryd.underlying37 infoDat rfl rfl rfl hM rfl hS one_DateR ?g3 ?g4 ?g5))
                  case g3 => have := hzl.out; simp; omega
                  case g4 => have := hzl.out; simp; omega
                  case g5 =>
                    intro v5 w5 hM5
                    try simp only [List.set_cons_succ, List.set_cons_zero] at hM5
                    go_wp2_with fail
                    go_roundw
                    case rel => exact ⟨k + 1, by omega, rfl, hz ++ [(0, 12, 31)], Lib.hid (by have := hzl.out; simp; omega), hM5⟩
                    case measure => simp [intOf]; omega
                · have hqb : (q == 0) = false := by simpa using hq
                  have k0 : _ = some (Value.slice none 0 0) := (hM.box 1 rfl).facts.1 0
                  have k1 : _ = some (Value.slice none 0 0) := (hM.box 1 rfl).facts.1 1
                  have m0 := (hM.box 1 rfl).facts.2 0
                  have m1 := (hM.box 1 rfl).facts.2 1
                  have hMf := (hM.set 1 rfl 0 (Value.slice xa ws.length xc)).set 1 rfl 1 (Value.slice ba hz.length bc)
                  try simp only [List.set_cons_succ, List.set_cons_zero, List.setIfInBounds_toArray] at hMf
                  have z0 : _ = some (Value.slice xa ws.length xc) := (hMf.box 1 rfl).facts.1 0
                  have z1 : _ = some (Value.slice ba hz.length bc) := (hMf.box 1 rfl).facts.1 1
                  go_wp2_with fail
                  refine bodyPost_ret (v := .agg #[Value.slice xa ws.length xc, Value.slice ba hz.length bc]) (by simp [results, Tryd.results27, go_sem, z0, z1]) rfl ?_
                  exact ⟨_, (ws, hz), rfl, hMf.ex, ⟨_, _, rfl, hMf.rep 2 rfl, hMf.rep 3 rfl⟩⟩
              · have hlt' : ¬ (k : Int) < 60 := by omega
                have k0 : _ = some (Value.slice none 0 0) := (hM.box 1 rfl).facts.1 0
                have k1 : _ = some (Value.slice none 0 0) := (hM.box 1 rfl).facts.1 1
                have m0 := (hM.box 1 rfl).facts.2 0
                have m1 := (hM.box 1 rfl).facts.2 1
                have hMf := (hM.set 1 rfl 0 (Value.slice xa ws.length xc)).set 1 rfl 1 (Value.slice ba hz.length bc)
                try simp only [List.set_cons_succ, List.set_cons_zero, List.setIfInBounds_toArray] at hMf
                have z0 : _ = some (Value.slice xa ws.length xc) := (hMf.box 1 rfl).facts.1 0
                have z1 : _ = some (Value.slice ba hz.length bc) := (hMf.box 1 rfl).facts.1 1
                go_wp2_with fail
                refine bodyPost_ret (v := .agg #[Value.slice xa ws.length xc, Value.slice ba hz.length bc]) (by simp [results, Tryd.results27, go_sem, z0, z1]) rfl ?_
                exact ⟨_, (ws, hz), rfl, hMf.ex, ⟨_, _, rfl, hMf.rep 2 rfl, hMf.rep 3 rfl⟩⟩
          | cons x xs =>
            have hpos : (0 : Int) < ((x :: xs).length : Int) := by simp
            obtain ⟨N, hN⟩ : ∃ N, (x :: xs).length = N := ⟨_, rfl⟩
            have hN' : Hid (xs.length + 1 = N) := Lib.hid hN
            rw [hN] at hM2 hpos h2
            simp only [hN]
            go_wp2_with fail
            refine RetV_at (ha3.out _) ?_
            intro w4 hx4
            replace hM3 := hM2.ext hx4
            rw [← hN] at hM3
            obtain ⟨g, cap, hv, hfz, ⟨n9, hc9⟩, hgs, hM4⟩ := dat_first (x' := (t, x.2.1, x.2.2)) (u := .int .i64 t) hM3 3 rfl 0 (by omega) (dat_set rfl fun h => ⟨by unfold I64; omega, h.2.1, h.2.2⟩)
            cases hv
            simp only [List.set_cons_succ, List.set_cons_zero] at hM4
            rw [hN] at hM4
            clear hM3 hM2 hN
            go_wp2_with fail
            go_loopw [8, 9] (fun vh i wr => ∃ k : Nat, k ≤ 60 ∧ i = .int .i64 k ∧ ∃ hz : List Dat, Hid (hz.length ≤ 1000 + k) ∧ Mem w noH [box w.heap.size #[.slice wa ws.length wc, .slice ha N hc] 41, box (w.heap.size + 1) #[.slice none 0 0, .slice none 0 0] 41, own mono_IntR 1 3 (.slice xa ws.length xc) ws, own mono_DateR 3 94 vh hz] noH wr) (fun _ i _ => 60 - (intOf i).toNat)
            case atStart => exact ⟨0, by omega, rfl, ((t, x.2.1, x.2.2) :: xs), Lib.hid (by have := hN'.out; simp; omega), hM4⟩
            case round =>
              clear hM4
              obtain ⟨k, hk, rfl, hz, hzl, hM⟩ := hrel
              obtain ⟨ba, bc, rfl, -⟩ := hM.form 3 rfl
              by_cases hlt : k < 60
              · have hlt' : (k : Int) < 60 := by omega
                go_wp2_with fail
                refine RetV_at (ha5.out _) ?_
                intro w7 hx7
                replace hM := hM.ext hx7
                by_cases hq : q = 0
                · subst hq
                  replace hM := hM.allocN (.cells #[.int .i64 0, .int .i64 12, .int .i64 31] 94)
                  have hS := Src.lit1 (w := w7.alloc (.cells #[.int .i64 0, .int .i64 12, .int .i64 31] 94)) (b := w7.heap.size) (sz := 3) (E := DateR) (H := noH) (x := (0, 12, 31)) (cs := [.int .i64 0, .int .i64 12, .int .i64 31]) ⟨rfl, by unfold I64; dsimp only; omega⟩ rfl (fun j => by rw [(Proofs.YtcmdekhhclgdcaaDoor.Own.new w7 #[.int .i64 0, .int .i64 12, .int .i64 31] 94).facts.1 j]; simp)
                  go_wp2_with (first | (at_builtin; refine wpList_append_M 3 rfl _ _ 37 rfl Tryd.underlying37 infoDat rfl rfl rfl hM rfl hS one_DateR ?h3 ?h4 ?h5))
                  case h3 => have := hzl.out; simp; omega
                  case h4 => have := hzl.out; simp; omega
                  case h5 =>
                    intro v5 w5 hM5
                    try simp only [List.set_cons_succ, List.set_cons_zero] at hM5
                    go_wp2_with fail
                    go_roundw
                    case rel => exact ⟨k + 1, by omega, rfl, hz ++ [(0, 12, 31)], Lib.hid (by have := hzl.out; simp; omega), hM5⟩
                    case measure => simp [intOf]; omega
                · have hqb : (q == 0) = false := by simpa using hq
                  have k0 : _ = some (Value.slice none 0 0) := (hM.box 1 rfl).facts.1 0
                  have k1 : _ = some (Value.slice none 0 0) := (hM.box 1 rfl).facts.1 1
                  have m0 := (hM.box 1 rfl).facts.2 0
                  have m1 := (hM.box 1 rfl).facts.2 1
                  have hMf := (hM.set 1 rfl 0 (Value.slice xa ws.length xc)).set 1 rfl 1 (Value.slice ba hz.length bc)
                  try simp only [List.set_cons_succ, List.set_cons_zero, List.setIfInBounds_toArray] at hMf
                  have z0 : _ = some (Value.slice xa ws.length xc) := (hMf.box 1 rfl).facts.1 0
                  have z1 : _ = some (Value.slice ba hz.length bc) := (hMf.box 1 rfl).facts.1 1
                  go_wp2_with fail
                  refine bodyPost_ret (v := .agg #[Value.slice xa ws.length xc, Value.slice ba hz.length bc]) (by simp [results, Tryd.results27, go_sem, z0, z1]) rfl ?_
                  exact ⟨_, (ws, hz), rfl, hMf.ex, ⟨_, _, rfl, hMf.rep 2 rfl, hMf.rep 3 rfl⟩⟩
              · have hlt' : ¬ (k : Int) < 60 := by omega
                have k0 : _ = some (Value.slice none 0 0) := (hM.box 1 rfl).facts.1 0
                have k1 : _ = some (Value.slice none 0 0) := (hM.box 1 rfl).facts.1 1
                have m0 := (hM.box 1 rfl).facts.2 0
                have m1 := (hM.box 1 rfl).facts.2 1
                have hMf := (hM.set 1 rfl 0 (Value.slice xa ws.length xc)).set 1 rfl 1 (Value.slice ba hz.length bc)
                try simp only [List.set_cons_succ, List.set_cons_zero, List.setIfInBounds_toArray] at hMf
                have z0 : _ = some (Value.slice xa ws.length xc) := (hMf.box 1 rfl).facts.1 0
                have z1 : _ = some (Value.slice ba hz.length bc) := (hMf.box 1 rfl).facts.1 1
                go_wp2_with fail
                refine bodyPost_ret (v := .agg #[Value.slice xa ws.length xc, Value.slice ba hz.length bc]) (by simp [results, Tryd.results27, go_sem, z0, z1]) rfl ?_
                exact ⟨_, (ws, hz), rfl, hMf.ex, ⟨_, _, rfl, hMf.rep 2 rfl, hMf.rep 3 rfl⟩⟩
end Go.Proofs.YtcmdekhhclgdcaaDoor
