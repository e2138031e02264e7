/- acts: making and changing them; the generators Closures, Acts and Bent.; the examples of the section on terms. -/
import Derived.Great.BuildSlice
import Derived.Test.YtcmdekhhclgdcaaGreatDoorEndA
namespace Go.Proofs.YtcmdekhhclgdcaaGreatDoor
open Go.RowKit Go.Shelf
set_option linter.unusedSimpArgs false
set_option linter.unusedVariables false
def FileOk (x : Ac) : Prop := 0 ≤ x.file ∧ x.file ≤ 1 ∧ 0 ≤ x.known ∧ x.known ≤ 6
theorem act_set0 (x : Ac) (v : Int) : (actC x).toArray.setIfInBounds 0 (.int .i64 v) = (actC { x with kind := v }).toArray := rfl
theorem act_set1 (x : Ac) (v : Int) : (actC x).toArray.setIfInBounds 1 (.int .i64 v) = (actC { x with day := v }).toArray := rfl
theorem act_set3 (x : Ac) (v : Int) : (actC x).toArray.setIfInBounds 3 (.int .i64 v) = (actC { x with file := v }).toArray := rfl
theorem act_set7 (x : Ac) (v : Int) : (actC x).toArray.setIfInBounds 7 (.int .i64 v) = (actC { x with number := v }).toArray := rfl
theorem fill_act1 (X : Ac) : Instr.fill (fun i => some (i * 19, 19)) (Array.map (fun x => (Value.agg #[Value.int .i64 0, Value.int .i64 0, Value.int .i64 0, Value.int .i64 0, Value.int .i64 0, Value.int .i64 0, Value.int .i64 0, Value.int .i64 0, Value.int .i64 0, Value.int .i64 0, Value.int .i64 0, Value.slice none 0 0, Value.slice none 0 0, Value.slice none 0 0, Value.slice none 0 0, Value.int .i64 0, Value.int .i64 0, Value.slice none 0 0, Value.slice none 0 0]).cells[x % (Value.agg #[Value.int .i64 0, Value.int .i64 0, Value.int .i64 0, Value.int .i64 0, Value.int .i64 0, Value.int .i64 0, Value.int .i64 0, Value.int .i64 0, Value.int .i64 0, Value.int .i64 0, Value.int .i64 0, Value.slice none 0 0, Value.slice none 0 0, Value.slice none 0 0, Value.slice none 0 0, Value.int .i64 0, Value.int .i64 0, Value.slice none 0 0, Value.slice none 0 0]).cells.size]!) (Array.range (1 * 19))) [(0, Value.agg (actC X).toArray)] = some (actC X).toArray := by kernel_rfl
theorem wpList_slice_act {ops : Array Oper} {rest : List Oper} {o : Oper} {a : Act} {w : World} {Q : Exit → Act → World → Prop} (hg : o.guard = none) (x : Operand) (ho : o.op = .buildSlice 31 1 #[(0, x)]) (X : Ac)
    (hx : a.eval x = .agg (actC X).toArray) (h : wpList Tryz.prog ops Q rest (a.put o.dst (.slice (some ⟨w.heap.size, 0, none⟩) 1 1)) (w.alloc (.cells (actC X).toArray 67))) : wpList Tryz.prog ops Q (o :: rest) a w := by
  obtain ⟨i, hi, hz0, hz1, hz2⟩ := info_parts infoAct
  refine wpList_buildSlice hg _ 67 1 _ ho (actC X).toArray i _ Tryz.underlying31 hi hz0 (by rw [hz1]; decide) (by rw [hz1]; decide) ?_ h
  rw [hz1]
  simp only [List.map_toArray, List.map_cons, List.map_nil, hx]
  exact fill_act1 X
theorem wpList_build_act {ops : Array Oper} {rest : List Oper} {o : Oper} {a : Act} {w : World} {Q : Exit → Act → World → Prop} (hg : o.guard = none) (parts : Array (Nat × Operand)) (ho : o.op = .build 67 parts) (X : Ac)
    (hx : Tryz.prog.built 67 (parts.map fun (i, x) => (i, a.eval x)).toList = some (actC X).toArray) (h : wpList Tryz.prog ops Q rest (a.put o.dst (.agg (actC X).toArray)) w) : wpList Tryz.prog ops Q (o :: rest) a w := by
  refine wpList_build hg 67 parts ho (by rw [hx]; rfl) ?_
  rw [hx]; exact h
end Go.Proofs.YtcmdekhhclgdcaaGreatDoor
namespace Go.Proofs.YtcmdekhhclgdcaaGreatDoor
open Go.RowKit Go.Shelf
set_option linter.unusedSimpArgs false
set_option linter.unusedVariables false
/-- acts come back, fresh and one's own -/
def ActsP (w : World) (m : Nat) (e : Ending) (w' : World) : Prop := ∃ v xs, e = .returned v ∧ Ext w w' ∧ xs.length = m ∧ Hid (∀ x ∈ xs, FileOk x) ∧ OwnS w.heap.size noH w' ActR 19 67 v xs
set_option maxRecDepth 100000 in
set_option maxHeartbeats 2000000 in
theorem closures_c (l : List Int) (vl : Value) (d : Int) (m : Nat) (w : World) (hl : IntsR (ph w) vl l) (hd : 0 ≤ d) (hd' : d ≤ 131073) (hm : m ≤ 100) :
    Calls Tryz.prog 33 #[vl, .int .i64 d, .int .i64 m] w (ActsP w (min l.length m)) := by
  obtain ⟨la, lc, rfl, llen, hl⟩ := hl.form
  go_enter Tryz.func33, Tryz.ntmps33
  go_wp2_with fail
  have hM0 := (Mem.start w noH (noH_le _)).nil mono_ActR 19 67
  simp only [List.nil_append] at hM0
  go_loopw [7, 8] (fun vo i wr => ∃ k : Nat, k ≤ l.length ∧ k ≤ m ∧ i = .int .i64 k ∧ ∃ xs : List Ac, xs.length = k ∧ Hid (∀ x ∈ xs, FileOk x) ∧ Mem w noH [own mono_ActR 19 67 vo xs] noH wr) (fun _ i _ => l.length - (intOf i).toNat)
  case atStart => exact ⟨0, by omega, by omega, rfl, [], rfl, Lib.hid (by simp), hM0⟩
  case round =>
    clear hM0
    obtain ⟨k, hk, hkm, rfl, xs, hxs, hfo, hM⟩ := hrel
    obtain ⟨oa, oc, rfl, -⟩ := hM.form 0 rfl
    replace hxs := Lib.hid hxs
    by_cases h1 : k < l.length
    · by_cases h2 : k < m
      · obtain ⟨gb, go, rfl, gc, gi, gl⟩ := IntsR.at (hl.mono mono_IntR hM.ex.ple) k h1
        have har := around_c l[k] 1048576 wr gi (by omega) (by omega)
        obtain ⟨q0, q1⟩ := aroundV_range (m := 1048576) gi (by omega)
        have hja : decide (k < l.length) = true := by simpa using h1
        have hjb : decide ((k : Int) < (m : Int)) = true := by simpa using h2
        generalize l[k] = x at *
        generalize aroundV x 1048576 = q at *
        go_wp2_with fail
        refine RetV_at har ?_
        intro w2 hx2
        have hM2 := hM.ext hx2
        have hw1 : IntKind.i64.wrap (d - 20) = d - 20 := by rw [IntKind.wrap_i64]; omega
        have hX0 : Ac.I ⟨20, max 0 (d - 20 + q % 60), q % 7, 0, q / 60 % 3, 0, 0, 0, 0⟩ := by unfold Ac.I I64; dsimp only; omega
        have hDb : Hid (∀ Z : Ac, Z = (⟨20, max 0 (d - 20 + q % 60), q % 7, 0, q / 60 % 3, 0, 0, 0, 0⟩ : Ac) → (0 ≤ Z.day ∧ Z.day ≤ 131200) ∧ Hid (FileOk Z)) := Lib.hid (by rintro Z rfl; exact ⟨by dsimp only; omega, Lib.hid ⟨by dsimp only; omega, by dsimp only; omega, by dsimp only; omega, by dsimp only; omega⟩⟩)
        have hM3 := hM2.new (actC ⟨20, max 0 (d - 20 + q % 60), q % 7, 0, q / 60 % 3, 0, 0, 0, 0⟩).toArray 67
        simp only [List.cons_append, List.nil_append] at hM3
        clear gc hl
        go_upto_region 7 with (first | (refine wpList_build_act rfl _ rfl (⟨20, max 0 (d - 20 + q % 60), q % 7, 0, q / 60 % 3, 0, 0, 0, 0⟩) (by kernel_rfl) ?_) | (refine wpList_store_new rfl 67 _ _ rfl (actC (⟨20, max 0 (d - 20 + q % 60), q % 7, 0, q / 60 % 3, 0, 0, 0, 0⟩)).toArray rfl rfl 67 _ (by kernel_rfl) rfl (one_act _) ?_))
        obtain ⟨hXd, hXf⟩ := hDb.out _ rfl
        clear hDb
        generalize (⟨20, max 0 (d - 20 + q % 60), q % 7, 0, q / 60 % 3, 0, 0, 0, 0⟩ : Ac) = X at *
        generalize w2.alloc _ = W3 at *
        have hsz : w2.heap.size < W3.heap.size := hM3.lt (i := 1) rfl rfl
        obtain ⟨fc, ff⟩ := (hM3.box 1 rfl).facts
        have c1 : _ = some (Value.int .i64 X.day) := fc 1
        have f0 := ff 0
        have f7 := ff 7
        have c0 : _ = some (Value.int .i64 X.kind) := fc 0
        have c7 : _ = some (Value.int .i64 X.number) := fc 7
        clear fc ff
        obtain ⟨dd0, dd1⟩ := hXd
        have hM4 := hM3.set 1 rfl 7 (.int .i64 (X.day + q / 180 % 12))
        rw [act_set7] at hM4
        simp only [List.set_cons_succ, List.set_cons_zero] at hM4
        have hX1 : Ac.I { X with number := X.day + q / 180 % 12 } := by
          obtain ⟨i0, i1, i2, i3, i4, i5, i6, i7, i8⟩ := hX0
          exact ⟨i0, i1, i2, i3, i4, i5, i6, by unfold I64; dsimp only; omega, i8⟩
        have dd2 : Hid (∀ Z : Ac, Z = { X with number := X.day + q / 180 % 12 } → (0 ≤ Z.day ∧ Z.day ≤ 131200) ∧ Hid (FileOk Z)) := Lib.hid (by rintro Z rfl; exact ⟨by dsimp only; omega, Lib.hid hXf.out⟩)
        go_upto_region 8 with (fail)
        obtain ⟨hYd, hYf⟩ := dd2.out _ rfl
        clear dd2
        generalize ({ X with number := X.day + q / 180 % 12 } : Ac) = Y at *
        generalize W3.setCell _ _ = W4 at *
        have hsz4 : w2.heap.size < W4.heap.size := hM4.lt (i := 1) rfl rfl
        obtain ⟨fc, ff⟩ := (hM4.box 1 rfl).facts
        replace c1 : _ = some (Value.int .i64 Y.day) := fc 1
        replace f0 := ff 0
        replace f7 := ff 7
        replace c0 : _ = some (Value.int .i64 Y.kind) := fc 0
        replace c7 : _ = some (Value.int .i64 Y.number) := fc 7
        obtain ⟨e0, e1⟩ := hYd
        clear fc ff hX0 hM3 dd0 dd1 hM2 hM
        have hr0 : 0 ≤ q / 2160 % 9 := by omega
        go_upto_block 2 with (fail)
        go_cut [] (fun wx => ∃ Z : Ac, Hid (FileOk Z) ∧ Z.I ∧ Mem w noH [own mono_ActR 19 67 (.slice oa xs.length oc) xs, box w2.heap.size (actC Z).toArray 67] noH wx)
        case first =>
          generalize q / 2160 % 9 = r at *
          obtain ⟨i0, i1, i2, i3, i4, i5, i6, i7, i8⟩ := hX1
          by_cases r0 : r = 0
          · subst r0
            have hM5 := hM4.set 1 rfl 0 (.int .i64 9)
            rw [act_set0] at hM5
            simp only [List.set_cons_succ, List.set_cons_zero] at hM5
            go_wp2_with fail
            go_meet
            case rel => exact ⟨{ Y with kind := 9 }, Lib.hid hYf.out, ⟨by unfold I64; dsimp only; omega, i1, i2, i3, i4, i5, i6, i7, i8⟩, hM5⟩
          · have b0 : (r == 0) = false := by simpa using r0
            by_cases r1 : r = 1
            · subst r1
              have hM5 := hM4.set 1 rfl 7 (.int .i64 (Y.day - 1))
              rw [act_set7] at hM5
              simp only [List.set_cons_succ, List.set_cons_zero] at hM5
              have hw2 : IntKind.i64.wrap (Y.day - 1) = Y.day - 1 := by rw [IntKind.wrap_i64]; omega
              go_wp2_with fail
              go_meet
              case rel => exact ⟨{ Y with number := Y.day - 1 }, Lib.hid hYf.out, ⟨i0, i1, i2, i3, i4, i5, i6, by unfold I64; dsimp only; omega, i8⟩, hM5⟩
            · have b1 : (r == 1) = false := by simpa using r1
              by_cases r2 : r = 2
              · subst r2
                have hM5 := hM4.set 1 rfl 7 (.int .i64 (Y.day + 300))
                rw [act_set7] at hM5
                simp only [List.set_cons_succ, List.set_cons_zero] at hM5
                go_wp2_with fail
                go_meet
                case rel => exact ⟨{ Y with number := Y.day + 300 }, Lib.hid hYf.out, ⟨i0, i1, i2, i3, i4, i5, i6, by unfold I64; dsimp only; omega, i8⟩, hM5⟩
              · have b2 : (r == 2) = false := by simpa using r2
                clear r0 r1 r2
                go_wp2_with fail
                go_meet
                case rel => exact ⟨_, hYf, ⟨i0, i1, i2, i3, i4, i5, i6, i7, i8⟩, hM4⟩
        case rest =>
          obtain ⟨Z, hZf, hZ, hM5⟩ := hcut
          clear hM4 c0 c1 c7 f0 f7 hX1
          have hM6 := hM5.allocN (.cells (actC Z).toArray 67)
          have hS := Src.lit1 (w := wc.alloc (.cells (actC Z).toArray 67)) (b := wc.heap.size) (sz := 19) (E := ActR) (H := noH) (x := Z) (cs := actC Z) ⟨rfl, hZ⟩ rfl (fun j => by rw [(Proofs.YtcmdekhhclgdcaaGreatDoor.Own.new wc (actC Z).toArray 67).facts.1 j]; simp)
          have hxl : xs.length ≤ 100 := by have := hxs.out; omega
          go_upto_region 4 with (first | (refine wpList_load_row rfl 67 _ rfl _ rfl 67 (actC (Z)).toArray (0, 0) _ (hM5.box 1 rfl) Tryz.underlying67 rfl (by kernel_rfl) ?_) | (refine wpList_slice_act rfl _ rfl (Z) rfl ?_) | (at_builtin; refine wpList_append_M 0 rfl _ _ 31 rfl Tryz.underlying31 infoAct rfl rfl rfl hM6 rfl hS one_ActR (by simp; omega) (by simp; omega) ?c5))
          case c5 =>
            intro v' w6 hM7
            try simp only [List.set_cons_succ, List.set_cons_zero] at hM7
            obtain ⟨na, nc, rfl, -⟩ := hM7.form 0 rfl
            have hM8 := hM7.pick [0] (by decide)
            simp only [List.map_cons, List.map_nil, List.getElem?_cons_zero, Option.getD_some] at hM8
            go_wp2_with fail
            go_roundw
            case rel => exact ⟨k + 1, by omega, by omega, rfl, xs ++ [Z], by have := hxs.out; simp; omega, Lib.hid (by intro y hy; rcases List.mem_append.1 hy with hy | hy; (exact hfo.out y hy); (have e : y = Z := (by simpa using hy)); (rw [e]; exact hZf.out)), by simpa using hM8⟩
            case measure => simp [intOf]; omega
      · have hja : decide (k < l.length) = true := by simpa using h1
        have hjb : decide ((k : Int) < (m : Int)) = false := by simpa using h2
        have hmin : Hid (xs.length = min l.length m) := by show _ = _; have := hxs.out; omega
        go_wp2_with fail
        go_ret
        exact ⟨_, xs, rfl, hM.ex, hmin.out, hfo, hM.ownS 0 rfl⟩
    · have hja : decide (k < l.length) = false := by simpa using h1
      have hmin : Hid (xs.length = min l.length m) := by show _ = _; have := hxs.out; omega
      go_wp2_with fail
      go_ret
      exact ⟨_, xs, rfl, hM.ex, hmin.out, hfo, hM.ownS 0 rfl⟩
end Go.Proofs.YtcmdekhhclgdcaaGreatDoor
namespace Go.Proofs.YtcmdekhhclgdcaaGreatDoor
open Go.RowKit Go.Shelf
set_option linter.unusedSimpArgs false
set_option linter.unusedVariables false
section
variable {α : Type} {E : PH → List Value → α → Prop} {sz : Nat} {H : PH} {T : TypeId} {v : Value}
theorem Cells.setAt {j : Nat} (hj : j < sz) {x x' : α} {u : Value} (h : ∀ cs, E H cs x → E H (cs.set j u) x') : ∀ {xs : List α} {c : List Value} (k : Nat), xs[k]? = some x → Cells H E sz c xs → Cells H E sz (c.set (k * sz + j) u) (xs.set k x')
  | [], _, k, hk, _ => by simp at hk
  | z :: zs, c, 0, hk, hc => by
    obtain ⟨cs, rest, rfl, h1, h2, h3⟩ := hc
    obtain rfl : z = x := by simpa using hk
    refine ⟨cs.set j u, rest, ?_, by simpa using h1, h _ h2, h3⟩
    rw [Nat.zero_mul, Nat.zero_add, List.set_append_left _ _ (by omega)]
  | z :: zs, c, k + 1, hk, hc => by
    obtain ⟨cs, rest, rfl, h1, h2, h3⟩ := hc
    refine ⟨cs, rest.set (k * sz + j) u, ?_, h1, h2, Cells.setAt hj h k (by simpa using hk) h3⟩
    rw [List.set_append_right _ _ (by rw [Nat.add_mul]; omega)]
    congr 2; rw [Nat.add_mul]; omega
/-- a cell of element k of an own slice is written -/
theorem Mem.setAt {w0 w : World} {H0 : PH} {L : List Chunk} {hm : Mono E} {xs : List α} {x x' : α} {u : Value} (h : Mem w0 H0 L H w) (i : Nat) (hi : L[i]? = some (own hm sz T v xs)) (k j : Nat) (hj : j < sz) (hk : xs[k]? = some x) (hx : ∀ cs, E H cs x → E H (cs.set j u) x') :
    ∃ g cap, v = .slice (some ⟨g, 0, none⟩) xs.length cap ∧ w.frozen? ⟨g, k * sz + j, none⟩ = false ∧ (∃ u0, w.cell? ⟨g, k * sz + j, none⟩ = some u0) ∧ g < w.heap.size ∧
      Mem w0 H0 (L.set i (own hm sz T v (xs.set k x'))) H (w.setCell ⟨g, k * sz + j, none⟩ u) := by
  have h4 : OwnC H w E sz T v xs := h.ok i _ hi
  obtain ⟨hkl, hkx⟩ := List.getElem?_eq_some_iff.1 hk
  rcases h4 with ⟨rfl, rfl⟩ | ⟨g, cap, cur, rfl, k1, k2, k3, k4, k5⟩
  · simp at hkl
  · have hgl := (Array.getElem?_eq_some_iff.1 k1).1
    have hlt : k * sz + j < xs.length * sz := by
      have := Nat.mul_le_mul_right sz (show k + 1 ≤ xs.length from hkl); rw [Nat.add_mul] at this; omega
    have hlt2 : xs.length * sz ≤ cap * sz := Nat.mul_le_mul_right _ k2
    refine ⟨g, cap, rfl, by simp [World.frozen?, k1], ⟨cur[k * sz + j]'(by omega), ?_⟩, hgl, ?_⟩
    · rw [show w.cell? ⟨g, k * sz + j, none⟩ = cur[k * sz + j]? by simp [World.cell?, k1]]
      exact Array.getElem?_eq_getElem (by omega)
    · refine h.put i hi (c' := own hm sz T _ (xs.set k x')) (.inr ⟨g, cap, cur.setIfInBounds (k * sz + j) u, by simp, Own.set (T := T) k1 _ _, by simpa using k2, k3, by simpa using k4, ?_⟩) (fun k hk => .inl hk) (h.ex.set' (h.fr i _ hi g rfl).1 _) fun j hj hne => ?_
      · have := Cells.setAt (H := H) hj hx k hk k5
        rw [List.length_set, Array.toList_setIfInBounds, List.take_set]
        exact this
      · rw [Below.heap_setCell _ _ _ _ (fun e => hne (by rw [e]; rfl))]
theorem Mem.ofOwnS {w w' : World} {hm : Mono E} {xs : List α} (e : Ext w w') (ho : OwnS w.heap.size noH w' E sz T v xs) : Mem w noH [own hm sz T v xs] noH w' := by
  have h := ((Mem.start w noH (noH_le _)).ext e).add (own hm sz T v xs) ho.c (fun k hk => ⟨(ho.lt k hk).1, rfl, fun i d hi => by cases hi⟩)
  exact h
end
theorem actR_set {H : PH} {x x' : Ac} {j : Nat} {u : Value} (h : (actC x).set j u = actC x') (hI : x.I → x'.I) : ∀ cs, ActR H cs x → ActR H (cs.set j u) x' := by
  rintro cs ⟨rfl, hx⟩; exact ⟨h, hI hx⟩
theorem Ac.I0 {x : Ac} (h : x.I) {v : Int} (hv : I64 v) : Ac.I { x with kind := v } := by obtain ⟨i0, i1, i2, i3, i4, i5, i6, i7, i8⟩ := h; exact ⟨hv, i1, i2, i3, i4, i5, i6, i7, i8⟩
theorem Ac.I1 {x : Ac} (h : x.I) {v : Int} (hv : I64 v) : Ac.I { x with day := v } := by obtain ⟨i0, i1, i2, i3, i4, i5, i6, i7, i8⟩ := h; exact ⟨i0, hv, i2, i3, i4, i5, i6, i7, i8⟩
theorem Ac.I3 {x : Ac} (h : x.I) {v : Int} (hv : I64 v) : Ac.I { x with file := v } := by obtain ⟨i0, i1, i2, i3, i4, i5, i6, i7, i8⟩ := h; exact ⟨i0, i1, i2, hv, i4, i5, i6, i7, i8⟩
theorem Ac.I7 {x : Ac} (h : x.I) {v : Int} (hv : I64 v) : Ac.I { x with number := v } := by obtain ⟨i0, i1, i2, i3, i4, i5, i6, i7, i8⟩ := h; exact ⟨i0, i1, i2, i3, i4, i5, i6, hv, i8⟩
theorem acts_row {w W : World} {oa : Option Addr} {N oc k : Nat} {xs : List Ac} {x : Ac} (hM : Mem w noH [own mono_ActR 19 67 (.slice oa N oc) xs] noH W) (hk : xs[k]? = some x) :
    ∃ g, oa = some ⟨g, 0, none⟩ ∧ g < W.heap.size ∧ (∀ j u, (actC x)[j]? = some u → W.cell? ⟨g, k * 19 + j, none⟩ = some u) ∧ (∀ j, W.frozen? ⟨g, j, none⟩ = false) ∧ x.I := by
  obtain ⟨hkl, hkx⟩ := List.getElem?_eq_some_iff.1 hk
  obtain ⟨g, cap, cs, hv, hcs, hc, ⟨hc1, hI⟩, hg⟩ := hM.get 0 rfl k hkl
  rw [hkx] at hc1 hI
  subst hc1
  cases hv
  refine ⟨g, rfl, hg, fun j u hu => ?_, fun j => ?_, hI⟩
  · obtain ⟨hj, he⟩ := List.getElem?_eq_some_iff.1 hu
    rw [hc j (by rw [actC_len] at hj; exact hj), ← he]
    simp [List.getD_eq_getElem?_getD, hj]
  · have h4 : OwnC noH W ActR 19 67 (.slice (some ⟨g, 0, none⟩) xs.length oc) xs := hM.ok 0 _ rfl
    rcases h4 with ⟨h4, -⟩ | ⟨g', cap', cur, he, k1, -⟩
    · cases h4
    · cases he; simp [World.frozen?, k1]
theorem acts_step {w W : World} {g N oc k j : Nat} {xs : List Ac} {x x' : Ac} {u : Value} (hM : Mem w noH [own mono_ActR 19 67 (.slice (some ⟨g, 0, none⟩) N oc) xs] noH W) (hN : xs.length = N) (hj : j < 19) (hk : xs[k]? = some x) (hx : (actC x).set j u = actC x') (hI : x'.I) :
    ∃ ys, Hid ((∀ x ∈ xs, FileOk x) → FileOk x' → ∀ y ∈ ys, FileOk y) ∧ ys.length = N ∧ ys[k]? = some x' ∧ Mem w noH [own mono_ActR 19 67 (.slice (some ⟨g, 0, none⟩) N oc) ys] noH (W.setCell ⟨g, k * 19 + j, none⟩ u) := by
  obtain ⟨g', cap, e1, -, -, -, hM1⟩ := hM.setAt 0 rfl k j hj hk (x' := x') (u := u) (actR_set hx fun _ => hI)
  cases e1
  simp only [List.set_cons_zero] at hM1
  have hkl := (List.getElem?_eq_some_iff.1 hk).1
  exact ⟨_, Lib.hid (fun h h' y hy => by rcases List.mem_or_eq_of_mem_set hy with hy | hy; (exact h y hy); (rw [hy]; exact h')), by simp [hN], by simp [hkl], hM1⟩
set_option maxRecDepth 100000 in
set_option maxHeartbeats 2000000 in
theorem acts_c (l : List Int) (vl : Value) (d : Int) (m : Nat) (w : World) (hl : IntsR (ph w) vl l) (hd : 0 ≤ d) (hd' : d ≤ 131073) (hm : m ≤ 100) :
    Calls Tryz.prog 21 #[vl, .int .i64 d, .int .i64 m] w (ActsP w (min l.length m)) := by
  have hcl := closures_c l vl d m w hl hd hd' hm
  obtain ⟨la, lc, rfl, llen, hl⟩ := hl.form
  go_enter Tryz.func21, Tryz.ntmps21
  go_wp2_with fail
  refine hcl.mono ?_
  rintro e w1 ⟨v, xs0, rfl, hx1, hlen, hfo0, ho⟩
  have hM0 := Mem.ofOwnS (hm := mono_ActR) hx1 ho
  obtain ⟨oa, oc, rfl, -⟩ := hM0.form 0 rfl
  clear ho hcl
  obtain ⟨N, hN⟩ : ∃ N, N = xs0.length := ⟨_, rfl⟩
  rw [← hN] at hM0
  rw [← hN] at hlen
  simp only [← hN]
  replace hlen := Lib.hid hlen
  replace hN := Lib.hid hN.symm
  go_wp2_with fail
  go_loopw [8] (fun i wr => ∃ k : Nat, k ≤ N ∧ i = .int .i64 k ∧ ∃ xs : List Ac, Hid (xs.length = N) ∧ Hid (∀ x ∈ xs, FileOk x) ∧ Mem w noH [own mono_ActR 19 67 (.slice oa N oc) xs] noH wr) (fun i _ => N - (intOf i).toNat)
  case atStart => exact ⟨0, by omega, rfl, xs0, hN, hfo0, hM0⟩
  case round =>
    clear hM0 hN
    obtain ⟨k, hk, rfl, xs, hxs, hfo, hM⟩ := hrel
    by_cases h1 : k < N
    · have h2 : k < l.length := by have := hlen.out; omega
      obtain ⟨gb, go, rfl, gc, gi, gl⟩ := IntsR.at (hl.mono mono_IntR hM.ex.ple) k h2
      obtain ⟨x, hkx⟩ : ∃ x, xs[k]? = some x := ⟨xs[k]'(by rw [hxs.out]; exact h1), List.getElem?_eq_getElem _⟩
      obtain ⟨g, rfl, hg, -, hfz, hI⟩ := acts_row hM hkx
      have har := around_c l[k] 1048576 wr gi (by omega) (by omega)
      obtain ⟨q0, q1⟩ := aroundV_range (m := 1048576) gi (by omega)
      have hja : decide (k < N) = true := by simpa using h1
      generalize l[k] = y at *
      generalize aroundV y 1048576 = q at *
      replace hkx := Lib.hid hkx
      by_cases hq : q % 3 = 0
      · have hqb : (q % 3 == 0) = true := by simpa using hq
        clear hq
        go_wp2_with fail
        refine RetV_at har ?_
        intro w2 hx2
        go_wp2_with fail
        go_roundw
        case rel => exact ⟨k + 1, by omega, rfl, xs, hxs, hfo, hM.ext hx2⟩
        case measure => simp [intOf]; omega
      · have hqb : (q % 3 == 0) = false := by simpa using hq
        clear hq
        go_wp2_with fail
        refine RetV_at har ?_
        intro w2 hx2
        have hM2 := hM.ext hx2
        obtain ⟨_, e, hg2, hc2, hf2, -⟩ := acts_row hM2 hkx.out
        cases e
        have c : w2.cell? ⟨g, k * 19, none⟩ = some (.int .i64 x.kind) := hc2 0 _ rfl
        have f := hf2 (k * 19)
        obtain ⟨y1, fo1, l1, k1, hM3⟩ := acts_step (j := 0) (u := .int .i64 9) (x' := { x with kind := 9 }) hM2 hxs.out (by omega) hkx.out rfl (Ac.I0 hI (by unfold I64; omega))
        have hI1 := Ac.I0 hI (v := 9) (by unfold I64; omega)
        simp only [Nat.add_zero] at hM3
        have fx0 : Hid (FileOk x) := Lib.hid (hfo.out x (List.mem_of_getElem? hkx.out))
        replace fo1 := Lib.hid (fo1.out hfo.out fx0.out)
        have fx1 : Hid (FileOk ({ x with kind := 9 } : Ac)) := Lib.hid fx0.out
        clear hc2 hf2 hM2 hM gc hl har hg hfz
        replace l1 := Lib.hid l1
        replace k1 := Lib.hid k1
        go_upto_region 8 with (fail)
        generalize w2.setCell _ _ = W1 at *
        generalize ({ x with kind := 9 } : Ac) = x1 at *
        clear c f hkx hxs
        obtain ⟨_, e, hg3, hc2, hf2, -⟩ := acts_row hM3 k1.out
        cases e
        have c : W1.cell? ⟨g, k * 19 + 3, none⟩ = some (.int .i64 x1.file) := hc2 3 _ rfl
        have f := hf2 (k * 19 + 3)
        have hq1 : 0 ≤ q / 3 % 2 ∧ q / 3 % 2 ≤ 1 := by omega
        obtain ⟨y2, fo2, l2, k2, hM4⟩ := acts_step (j := 3) (u := .int .i64 (q / 3 % 2)) (x' := { x1 with file := q / 3 % 2 }) hM3 l1.out (by omega) k1.out rfl (Ac.I3 hI1 (by unfold I64; omega))
        have hI2 := Ac.I3 hI1 (v := q / 3 % 2) (by unfold I64; omega)
        have fx2 : Hid (∀ Z : Ac, Z = ({ x1 with file := q / 3 % 2 } : Ac) → FileOk Z) := Lib.hid (by rintro Z rfl; exact ⟨hq1.1, hq1.2, fx1.out.2.2⟩)
        replace fo2 := Lib.hid (fo2.out fo1.out (fx2.out _ rfl))
        clear hc2 hf2
        replace l2 := Lib.hid l2
        replace k2 := Lib.hid k2
        go_upto_region 9 with (fail)
        generalize W1.setCell _ _ = W2 at *
        replace fx2 := Lib.hid (fx2.out _ rfl)
        generalize ({ x1 with file := q / 3 % 2 } : Ac) = x2 at *
        clear c f k1 l1 hM3
        obtain ⟨_, e, hg4, hc2, hf2, -⟩ := acts_row hM4 k2.out
        cases e
        have c : W2.cell? ⟨g, k * 19 + 1, none⟩ = some (.int .i64 x2.day) := hc2 1 _ rfl
        have f := hf2 (k * 19 + 1)
        have hw1 : IntKind.i64.wrap (d - 10) = d - 10 := by rw [IntKind.wrap_i64]; omega
        have hDb : Hid (∀ D : Int, D = max 0 (d - 10 + q / 7 % 200) → 0 ≤ D ∧ D ≤ 140000) := Lib.hid (by rintro D rfl; omega)
        obtain ⟨y3, fo3, l3, k3, hM5⟩ := acts_step (j := 1) (u := .int .i64 (max 0 (d - 10 + q / 7 % 200))) (x' := { x2 with day := max 0 (d - 10 + q / 7 % 200) }) hM4 l2.out (by omega) k2.out rfl (Ac.I1 hI2 (by unfold I64; omega))
        replace fo3 := Lib.hid (fo3.out fo2.out fx2.out)
        have hI3 := Ac.I1 hI2 (v := max 0 (d - 10 + q / 7 % 200)) (by unfold I64; omega)
        clear hc2 hf2
        replace l3 := Lib.hid l3
        replace k3 := Lib.hid k3
        go_upto_region 10 with (fail)
        have hDD := hDb.out _ rfl
        clear hDb
        generalize max 0 (d - 10 + q / 7 % 200) = D at *
        generalize W2.setCell _ _ = W3 at *
        clear c f k2 l2 hM4
        obtain ⟨_, e, hg5, hc2, hf2, -⟩ := acts_row hM5 k3.out
        cases e
        have c : W3.cell? ⟨g, k * 19 + 7, none⟩ = some (.int .i64 x2.number) := hc2 7 _ rfl
        have c1 : W3.cell? ⟨g, k * 19 + 1, none⟩ = some (.int .i64 D) := hc2 1 _ rfl
        have f := hf2 (k * 19 + 7)
        obtain ⟨D0, D1⟩ := hDD
        have hw2 : IntKind.i64.wrap (D + q / 11 % 25 - 1) = D + q / 11 % 25 - 1 := by rw [IntKind.wrap_i64]; omega
        have hMb : Hid (∀ M : Int, M = min 131072 (D + q / 11 % 25 - 1) → -10 ≤ M ∧ M ≤ 140000) := Lib.hid (by rintro M rfl; omega)
        obtain ⟨y4, fo4, l4, k4, hM6⟩ := acts_step (j := 7) (u := .int .i64 (min 131072 (D + q / 11 % 25 - 1))) (x' := { x2 with day := D, number := min 131072 (D + q / 11 % 25 - 1) }) hM5 l3.out (by omega) k3.out rfl (Ac.I7 hI3 (by unfold I64; omega))
        replace fo4 := Lib.hid (fo4.out fo3.out fx2.out)
        have hI4 := Ac.I7 hI3 (v := min 131072 (D + q / 11 % 25 - 1)) (by unfold I64; omega)
        clear hc2 hf2
        replace l4 := Lib.hid l4
        replace k4 := Lib.hid k4
        go_upto_region 11 with (fail)
        generalize W3.setCell _ _ = W4 at *
        clear c f k3 l3 hM5 c1
        by_cases hr : q % 17 = 5
        · have hrb : (q % 17 == 5) = true := by simpa using hr
          clear hr
          obtain ⟨_, e, hg6, hc2, hf2, -⟩ := acts_row hM6 k4.out
          cases e
          have c : ∃ u, W4.cell? ⟨g, k * 19 + 7, none⟩ = some (.int .i64 u) := ⟨_, hc2 7 _ rfl⟩
          obtain ⟨u, c⟩ := c
          have c1 : W4.cell? ⟨g, k * 19 + 1, none⟩ = some (.int .i64 D) := hc2 1 _ rfl
          have f := hf2 (k * 19 + 7)
          obtain ⟨y5, fo5, l5, k5, hM7⟩ := acts_step (j := 7) (u := .int .i64 (min 131072 (D + 200))) (x' := { x2 with day := D, number := min 131072 (D + 200) }) hM6 l4.out (by omega) k4.out rfl (Ac.I7 hI3 (by unfold I64; omega))
          clear hc2 hf2
          replace l5 := Lib.hid l5
          replace fo5 := Lib.hid (fo5.out fo4.out fx2.out)
          go_wp2_with fail
          go_roundw
          case rel => exact ⟨k + 1, by omega, rfl, y5, l5, fo5, hM7⟩
          case measure => simp [intOf]; omega
        · have hrb : (q % 17 == 5) = false := by simpa using hr
          clear hr
          go_wp2_with fail
          go_roundw
          case rel => exact ⟨k + 1, by omega, rfl, y4, l4, fo4, hM6⟩
          case measure => simp [intOf]; omega
    · have hja : decide (k < N) = false := by simpa using h1
      have hxl : Hid (xs.length = min l.length m) := by show _ = _; rw [hxs.out]; exact hlen.out
      go_wp2_with fail
      go_ret
      exact ⟨_, xs, rfl, hM.ex, hxl.out, hfo, hM.ownS 0 rfl⟩
end Go.Proofs.YtcmdekhhclgdcaaGreatDoor
namespace Go.Proofs.YtcmdekhhclgdcaaGreatDoor
open Go.RowKit Go.Shelf
set_option linter.unusedSimpArgs false
set_option linter.unusedVariables false
def BentP (w : World) (m : Nat) (e : Ending) (w' : World) : Prop := ∃ v xs, e = .returned v ∧ Ext w w' ∧ xs.length ≤ m ∧ OwnS w.heap.size noH w' ActR 19 67 v xs
theorem three_at {by' a b : Int} (hb : I64 by') (ha : I64 a) (hc : I64 b) (w : World) (j : Nat) (hj : j < 3) : ∃ z, (w.alloc (.cells #[.int .i64 by', .int .i64 a, .int .i64 b] 3)).cell? ⟨w.heap.size, j, none⟩ = some (.int .i64 z) ∧ I64 z := by
  have h := (Proofs.YtcmdekhhclgdcaaGreatDoor.Own.new w #[.int .i64 by', .int .i64 a, .int .i64 b] 3).facts.1 j
  match j, hj with
  | 0, _ => exact ⟨_, h, hb⟩
  | 1, _ => exact ⟨_, h, ha⟩
  | 2, _ => exact ⟨_, h, hc⟩
theorem tdiv_i64 {n : Int} (h : I64 n) : I64 (n.tdiv 8) := by
  unfold I64 at *
  by_cases h0 : 0 ≤ n
  · rw [Int.tdiv_eq_ediv_of_nonneg h0]; omega
  · have e : n.tdiv 8 = -((-n).tdiv 8) := by rw [Int.neg_tdiv]; omega
    rw [e, Int.tdiv_eq_ediv_of_nonneg (by omega)]; omega
theorem Src.free {α : Type} {E : PH → List Value → α → Prop} {sz : Nat} {H H' : PH} {w : World} {v : Value} {xs : List α} (h : Src w H E sz v xs) (hE : ∀ cs x, E H cs x → E H' cs x) : Src w H' E sz v xs := by
  obtain ⟨a, cap, h1, h2, h3⟩ := h
  refine ⟨a, cap, h1, h2, ?_⟩
  rcases h3 with h3 | ⟨ad, c, h3, h4, h5⟩
  · exact .inl h3
  · exact .inr ⟨ad, c, h3, h4.mono hE, h5⟩
end Go.Proofs.YtcmdekhhclgdcaaGreatDoor
namespace Go.Proofs.YtcmdekhhclgdcaaGreatDoor
open Go.RowKit Go.Shelf
set_option linter.unusedSimpArgs false
set_option linter.unusedVariables false
theorem add_0_1 : addV 0 1 = (31, 0) := by
  have h : IsDate 0 1900 1 1 := ⟨by omega, by omega, by omega, by omega, by unfold lenM; omega, by rw [bef1900]; rfl⟩
  have e : addD (dateV 0) 1 = 31 := by
    rw [dateV_eq h]
    unfold addD numV
    simp only [bef1900]
    rfl
  unfold addV
  rw [if_neg (by omega), if_neg (by omega), e]
  rfl
abbrev c0 : Cal := ([], [])
theorem calE_0 : calE c0 = 0 := by
  unfold calE
  rw [if_neg (by simp), if_neg (by simp), ErrIf_t]
  exact ⟨fun k hk => by simp at hk, fun k hk => by simp at hk⟩
theorem checkE_0 {office d : Int} (ho : 0 ≤ office ∧ office ≤ 11) (hd : 0 ≤ d ∧ d ≤ 131072) : checkE c0 office d = 0 := by
  unfold checkE
  rw [calE_0]
  simp only [ne_eq, not_true, if_false]
  rw [if_neg (by simpa using ho), if_neg (by simpa using hd)]
abbrev a1 : Ac := ⟨9, 10, 0, 0, 0, 0, 0, 12, 0⟩
abbrev a2 : Ac := ⟨9, 32, 0, 0, 0, 0, 0, 33, 0⟩
theorem tchk_0' : tchk 0 [] = 0 := by unfold tchk; rw [if_neg (by omega)]; rfl
theorem tchk_2 : tchk 0 [a1, a2] = 0 := by unfold tchk; rw [if_neg (by omega)]; rfl
theorem brk_2 : BrkOk 0 [a1, a2] [(10, 12), (32, 33)] := by
  refine ⟨⟨by decide, by decide, show (32 : Int) ≤ 33 by decide⟩, fun d => ?_, ?_, by simp⟩
  · unfold cov brokB brkB
    simp
  · intro x hx
    simp at hx
    rcases hx with rfl | rfl <;> decide
theorem nextE_0 {xs : List Ac} {d : Int} (hd : 0 ≤ d ∧ d ≤ 131072) (h : ∀ x ∈ xs, x.kind ≠ 20) : nextE c0 xs 0 d = (d, 0) := by
  unfold nextE
  rw [if_pos (checkE_0 (by omega) hd)]
  show nextF _ (4095 + 1) d = _
  unfold nextF
  rw [if_neg (by omega), if_pos]
  unfold opB
  have : xs.any (shutB 0 d) = false := by
    rw [List.any_eq_false]
    intro x hx
    have := h x hx
    unfold shutB
    simp [this]
  rw [this]
  simp
theorem end_1 : endE c0 [] 0 0 0 1 = (31, 0) := by
  unfold endE
  rw [checkE_0 (by omega) (by omega), tchk_0', add_0_1]
  simp only [ne_eq, not_true, if_false]
  have e : endF (brokB 0 []) 131074 (0 + 1) 31 = 31 := by
    show endF (brokB 0 []) (131073 + 1) (0 + 1) 31 = 31
    exact endF_stop (.inl (by rfl))
  rw [e, if_neg (by omega)]
  exact nextE_0 (by omega) (fun x hx => by cases hx)
theorem end_2 : endE c0 [a1, a2] 0 0 0 1 = (36, 0) := by
  unfold endE
  rw [checkE_0 (by omega) (by omega), tchk_2, add_0_1]
  simp only [ne_eq, not_true, if_false]
  have m1 : many (brokB 0 [a1, a2]) (0 + 1) 31 = 3 := by rfl
  have m2 : many (brokB 0 [a1, a2]) (31 + 1) (31 + 3) = 2 := by rfl
  have m3 : many (brokB 0 [a1, a2]) (31 + 3 + 1) (31 + 3 + 2) = 0 := by rfl
  have e : endF (brokB 0 [a1, a2]) 131074 (0 + 1) 31 = 36 := by
    show endF (brokB 0 [a1, a2]) (131073 + 1) (0 + 1) 31 = 36
    rw [endF_go (by rw [m1]; omega), m1]
    show endF (brokB 0 [a1, a2]) (131072 + 1) (31 + 1) (31 + 3) = 36
    rw [endF_go (by rw [m2]; omega), m2]
    show endF (brokB 0 [a1, a2]) (131071 + 1) (31 + 3 + 1) (31 + 3 + 2) = 36
    rw [endF_stop (.inl m3)]
    rfl
  rw [e, if_neg (by omega)]
  exact nextE_0 (by omega) (fun x hx => by simp at hx; rcases hx with rfl | rfl <;> decide)
theorem fill_act2 (X Y : Ac) : Instr.fill (fun i => some (i * 19, 19)) (Array.map (fun x => (Value.agg #[Value.int .i64 0, Value.int .i64 0, Value.int .i64 0, Value.int .i64 0, Value.int .i64 0, Value.int .i64 0, Value.int .i64 0, Value.int .i64 0, Value.int .i64 0, Value.int .i64 0, Value.int .i64 0, Value.slice none 0 0, Value.slice none 0 0, Value.slice none 0 0, Value.slice none 0 0, Value.int .i64 0, Value.int .i64 0, Value.slice none 0 0, Value.slice none 0 0]).cells[x % (Value.agg #[Value.int .i64 0, Value.int .i64 0, Value.int .i64 0, Value.int .i64 0, Value.int .i64 0, Value.int .i64 0, Value.int .i64 0, Value.int .i64 0, Value.int .i64 0, Value.int .i64 0, Value.int .i64 0, Value.slice none 0 0, Value.slice none 0 0, Value.slice none 0 0, Value.slice none 0 0, Value.int .i64 0, Value.int .i64 0, Value.slice none 0 0, Value.slice none 0 0]).cells.size]!) (Array.range (2 * 19))) [(0, Value.agg (actC X).toArray), (1, Value.agg (actC Y).toArray)] = some (actC X ++ actC Y).toArray := by kernel_rfl
theorem wpList_slice_act2 {ops : Array Oper} {rest : List Oper} {o : Oper} {a : Act} {w : World} {Q : Exit → Act → World → Prop} (hg : o.guard = none) (x y : Operand) (ho : o.op = .buildSlice 31 2 #[(0, x), (1, y)]) (X Y : Ac)
    (hx : a.eval x = .agg (actC X).toArray) (hy : a.eval y = .agg (actC Y).toArray) (h : wpList Tryz.prog ops Q rest (a.put o.dst (.slice (some ⟨w.heap.size, 0, none⟩) 2 2)) (w.alloc (.cells (actC X ++ actC Y).toArray 67))) : wpList Tryz.prog ops Q (o :: rest) a w := by
  obtain ⟨i, hi, hz0, hz1, hz2⟩ := info_parts infoAct
  refine wpList_buildSlice hg _ 67 2 _ ho (actC X ++ actC Y).toArray i _ Tryz.underlying31 hi hz0 (by rw [hz1]; decide) (by rw [hz1]; decide) ?_ h
  rw [hz1]
  simp only [List.map_toArray, List.map_cons, List.map_nil, hx, hy]
  exact fill_act2 X Y
theorem two_rep (w : World) (X Y : Ac) (hX : X.I) (hY : Y.I) : ActsR (ph (w.alloc (.cells (actC X ++ actC Y).toArray 67))) (.slice (some ⟨w.heap.size, 0, none⟩) 2 2) [X, Y] := by
  have h : OwnS 0 noH (w.alloc (.cells (actC X ++ actC Y).toArray 67)) ActR 19 67 (.slice (some ⟨w.heap.size, 0, none⟩) 2 2) [X, Y] :=
    OwnS.ofNew (xs := [X, Y]) (Nat.zero_le _) (Proofs.YtcmdekhhclgdcaaGreatDoor.Own.new w (actC X ++ actC Y).toArray 67) rfl (by decide) rfl ⟨actC X, actC Y, rfl, rfl, ⟨rfl, hX⟩, actC Y, [], by simp, rfl, ⟨rfl, hY⟩, rfl⟩
  exact h.rep mono_ActR (noH_le _)
theorem eqIv_run (a b c d : Int) (w : World) : (Op.equalIn 10000 126 (.agg #[.int .i64 a, .int .i64 b]) (.agg #[.int .i64 c, .int .i64 d])).run Tryz.prog w = .ok (a == c && b == d) w := by
  have u3 := Tryz.underlying3
  have a3 := Tryz.isAgg3
  have z3 := Tryz.sizeOf3
  rw [show (10000 : Nat) = 9999 + 1 from rfl, Op.equalIn]
  simp only [Sem.run_bind, run_underlying Tryz.underlying126, Result.andThen_ok]
  simp only [Std.Legacy.Range.forIn_eq_forIn_range', Std.Legacy.Range.size, Nat.sub_zero, Nat.add_sub_cancel, Nat.div_one, List.range'_succ, List.range'_zero, List.forIn_cons, List.forIn_nil]
  go_simp
  by_cases h1 : a = c <;> by_cases h2 : b = d <;> simp [h1, h2]
attribute [local go_sem] eqIv_run
theorem calR_0 (h : PH) : CalR h (.agg #[.slice none 0 0, .slice none 0 0]) c0 := ⟨_, _, rfl, SliceRep.nil _ _ _, SliceRep.nil _ _ _⟩
end Go.Proofs.YtcmdekhhclgdcaaGreatDoor
