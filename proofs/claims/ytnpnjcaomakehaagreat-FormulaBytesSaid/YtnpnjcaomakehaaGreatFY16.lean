/- Lemmas for FY, part 17: wire.Writer: its methods add bytes to the writer's own buffer, and more. -/
import Derived.Lib.Zigzag
import Derived.Lib.SliceRun
import Derived.Lib.VarintDec
import Derived.Laws.Bits64
import Derived.Laws.Bits64b
import Derived.Lib.SlBytesRow
import Derived.Lib.BufferRead
import Derived.Test.YtnpnjcaomakehaaGreatFY00
import Derived.Test.YtnpnjcaomakehaaGreatFY01
set_option linter.unusedSimpArgs false
set_option linter.unusedVariables false
namespace Go.Proofs.YtnpnjcaomakehaaGreat
open Go.RowKit
theorem infoByte : (Tryz.prog.info? 5).map (fun i => (i.zero, i.size, i.bytes)) = some (some (.int .u8 0), 1, 1) := by kernel_rfl
theorem one_ByteR {h : PH} : ∀ cs x, ByteR h cs x → ∀ u ∈ cs, u.oneCell' = true := by
  rintro cs x rfl u hu
  obtain rfl := List.mem_singleton.1 hu
  rfl
structure ExtW (w w' : World) (g : Nat) (row : Option Nat) : Prop where
  os : w'.os = w.os
  tape : w'.tape = w.tape
  output : w'.output = w.output
  size : w.heap.size ≤ w'.heap.size
  block : ∀ k, k < w.heap.size → k ≠ g → row ≠ some k → w'.heap[k]? = w.heap[k]?
theorem ExtW.rfl' (w : World) (g : Nat) (row : Option Nat) : ExtW w w g row := ⟨rfl, rfl, rfl, Nat.le_refl _, fun _ _ _ _ => rfl⟩
theorem ExtW.then {a b c : World} {g : Nat} {row row' : Option Nat} (h : ExtW a b g row) (k : ExtW b c g row') (hr : ∀ i, row' = some i → row = some i ∨ a.heap.size ≤ i) : ExtW a c g row :=
  ⟨k.os.trans h.os, k.tape.trans h.tape, k.output.trans h.output, Nat.le_trans h.size k.size, fun i hi hg hn => by
    rw [k.block i (by have := h.size; omega) hg (fun he => by rcases hr i he with h1 | h1; exact hn h1; omega)]
    exact h.block i hi hg hn⟩
theorem Ext.toW {a b : World} (h : Ext a b) (g : Nat) (row : Option Nat) : ExtW a b g row := ⟨h.os, h.tape, h.output, h.size, fun k hk _ _ => h.block k hk⟩
theorem ExtW.toExt {w0 w w' : World} {g : Nat} {row : Option Nat} (h : Ext w0 w) (k : ExtW w w' g row) (hg : w0.heap.size ≤ g) (hr : ∀ i, row = some i → w0.heap.size ≤ i) : Ext w0 w' :=
  ⟨k.os.trans h.os, k.tape.trans h.tape, k.output.trans h.output, Nat.le_trans h.size k.size, fun i hi => by
    rw [k.block i (by have := h.size; omega) (by omega) (fun he => by have := hr i he; omega)]
    exact h.block i hi⟩
theorem Own.keepW {w w' : World} {g b : Nat} {row : Option Nat} {c : Array Value} {T : TypeId} (h : Own w b c T) (e : ExtW w w' g row) (h1 : b ≠ g) (h2 : row ≠ some b) : Own w' b c T := by
  unfold Own; rw [e.block b h.lt h1 h2]; exact h
def Wr (base : Nat) (w : World) (g : Nat) (row : Option Nat) (xs : List UInt8) : Prop :=
  ∃ v, Own w g #[v] 64 ∧ v.ownBlock = row ∧ OwnS base noH w ByteR 1 5 v xs ∧ row ≠ some g ∧ base ≤ g ∧ base ≤ w.heap.size
theorem Wr.row {base : Nat} {w : World} {g : Nat} {row : Option Nat} {xs : List UInt8} (h : Wr base w g row xs) : ∀ k, row = some k → base ≤ k ∧ k < w.heap.size := by
  obtain ⟨v, h1, rfl, h2, -⟩ := h
  intro k hk
  exact ⟨(h2.lt k hk).1, (h2.lt k hk).2.1⟩
theorem Wr.lt {base : Nat} {w : World} {g : Nat} {row : Option Nat} {xs : List UInt8} (h : Wr base w g row xs) : base ≤ g ∧ g < w.heap.size := by
  obtain ⟨v, h1, rfl, h2, h3, h4, -⟩ := h
  exact ⟨h4, h1.lt⟩
theorem Wr.keep {base : Nat} {w w' : World} {g : Nat} {row : Option Nat} {xs : List UInt8} (h : Wr base w g row xs) (e : Ext w w') : Wr base w' g row xs := by
  obtain ⟨v, h1, h2, h3, h4, h5, h6⟩ := h
  exact ⟨v, h1.keep e, h2, h3.keep e, h4, h5, Nat.le_trans h6 e.size⟩
def Wto (base : Nat) (w : World) (g : Nat) (row : Option Nat) (xs : List UInt8) (w' : World) : Prop :=
  ∃ row', Wr base w' g row' xs ∧ ExtW w w' g row ∧ (∀ k, row' = some k → row = some k ∨ w.heap.size ≤ k)
theorem Wto.rfl' {base : Nat} {w : World} {g : Nat} {row : Option Nat} {xs : List UInt8} (h : Wr base w g row xs) : Wto base w g row xs w := ⟨row, h, ExtW.rfl' _ _ _, fun _ h => .inl h⟩
theorem Wto.then {base : Nat} {w w1 w2 : World} {g : Nat} {row row' : Option Nat} {ys : List UInt8} (hx : ExtW w w1 g row) (hr : ∀ k, row' = some k → row = some k ∨ w.heap.size ≤ k) (h : Wto base w1 g row' ys w2) : Wto base w g row ys w2 := by
  obtain ⟨r2, h1, h2, h3⟩ := h
  refine ⟨r2, h1, hx.then h2 hr, fun k hk => ?_⟩
  rcases h3 k hk with h4 | h4
  · exact hr k h4
  · right; exact Nat.le_trans hx.size h4
def WrP (base : Nat) (w : World) (g : Nat) (row : Option Nat) (xs : List UInt8) (e : Ending) (w' : World) : Prop :=
  e = .returned (.tuple #[]) ∧ Wto base w g row xs w'
theorem Wr.step {base : Nat} {w : World} {o : Obj} {g : Nat} {v v' : Value} {row : Option Nat} {ys : List UInt8} (hW : Own w g #[v] 64) (hg : base ≤ g) (hb : base ≤ w.heap.size) (hne : row ≠ some g)
    {w2 : World} (ho : OwnS base noH w2 ByteR 1 5 v' ys) (hgr : (w.alloc o).grownBy w2 row) (hk : ∀ k, v'.ownBlock = some k → row = some k ∨ w.heap.size + 1 ≤ k) :
    Own w2 g #[v] 64 ∧ Hid (Wto base w g row ys (w2.setCell ⟨g, 0, none⟩ v')) := by
  have hx := Ext.new w o
  have hs1 := hx.size
  have hgl := hW.lt
  have hW2 : Own w2 g #[v] 64 := (hW.keep hx).grown hgr (fun e => hne e.symm)
  have hng : v'.ownBlock ≠ some g := by
    intro he
    rcases hk g he with h1 | h1
    · exact hne h1
    · omega
  have hs2 : (w.alloc o).heap.size ≤ w2.heap.size := hgr.size
  refine ⟨hW2, ⟨_, ⟨v', by simpa using hW2.set 0 v', rfl, ho.keepB (fun k hk => ?_) (fun _ _ => rfl) (fun _ _ h => h), hng, hg, by simp; omega⟩, ⟨?_, ?_, ?_, ?_, ?_⟩, ?_⟩⟩
  · exact Below.heap_setCell _ _ _ _ (fun h => hng (by rw [hk]; exact congrArg some h))
  · exact hgr.os.trans hx.os
  · exact hgr.tape.trans hx.tape
  · exact hgr.output.trans hx.output
  · simp; omega
  · intro k hk1 hk2 hk3
    rw [Below.heap_setCell _ _ _ _ hk2, hgr.block k (by omega) (fun e => hk3 e.symm)]
    exact hx.block k hk1
  · intro k hk'
    rcases hk k hk' with h1 | h1
    · exact .inl h1
    · right; omega
abbrev uvar := Lib.uvarint
abbrev zig := Lib.zigzag
theorem uvar_small {n : Nat} (h : n < 128) : uvar n = [n.toUInt8] := Lib.uvarint_small h
theorem uvar_big {n : Nat} (h : ¬ n < 128) : uvar n = (n % 128 + 128).toUInt8 :: uvar (n / 128) := Lib.uvarint_big (by omega)
theorem uvar_len10 {n : Nat} (h : n ≤ 18446744073709551615) : (uvar n).length ≤ 10 := Lib.uvarint_length64 (by omega)
theorem zig_le {n : Int} (h : I64 n) : zig n ≤ 18446744073709551615 := Nat.le_of_lt_succ (Lib.zigzag_lt h.1 h.2)
theorem zigzag_c (n : Int) (w : World) (hn : I64 n) : Calls Tryz.prog 71 #[.int .i64 n] w (RetV w (.int .u64 (zig n))) := by
  obtain ⟨h1, h2⟩ := hn
  by_cases h0 : 0 ≤ n
  · have hz : bits BinOp.xor IntKind.u64 (n * 2) (n / 9223372036854775808) = (zig n : Int) := by
      have e1 : n / 9223372036854775808 = ((0 : Nat) : Int) := by omega
      have e2 : n * 2 = (((2 * n).toNat : Nat) : Int) := by omega
      rw [e1, e2, bits_xor_u64_nat _ _ (by omega) (by omega), Nat.xor_zero, zig, Lib.zigzag, if_pos h0]
    go_enter Tryz.func71, Tryz.ntmps71
    go_wp2_with fail
    go_ret
    exact ⟨rfl, xE⟩
  · have hz : bits BinOp.xor IntKind.u64 (IntKind.u64.wrap (IntKind.u64.wrap n * 2)) (IntKind.u64.wrap (n / 9223372036854775808)) = (zig n : Int) := by
      have e1 : IntKind.u64.wrap (n / 9223372036854775808) = ((2 ^ 64 - 1 : Nat) : Int) := by rw [IntKind.wrap_u64]; omega
      have e2 : IntKind.u64.wrap (IntKind.u64.wrap n * 2) = (((2 * n + 18446744073709551616).toNat : Nat) : Int) := by rw [IntKind.wrap_u64, IntKind.wrap_u64]; omega
      rw [e1, e2, bits_xor_u64_nat _ _ (by omega) (by omega), Nat.xor_comm, Lib.xor_ones64 _ (by omega), zig, Lib.zigzag, if_neg h0]
      omega
    go_enter Tryz.func71, Tryz.ntmps71
    go_wp2_with fail
    go_ret
    exact ⟨rfl, xE⟩
set_option maxRecDepth 100000 in
set_option maxHeartbeats 400000 in
theorem uint_c (base g : Nat) (row : Option Nat) (xs : List UInt8) (n : Nat) (w : World) (hn : n ≤ 18446744073709551615) (hW : Wr base w g row xs) (hlen : xs.length ≤ 1000000000) :
    Calls Tryz.prog 70 #[.pointer (some ⟨g, 0, none⟩), .int .u64 n] w (WrP base w g row (xs ++ uvar n)) := by
  have h10 := uvar_len10 hn
  go_enter Tryz.func70, Tryz.ntmps70
  go_wp2_with fail
  go_loopw [1] (fun i wr => ∃ m : Nat, i = .int .u64 m ∧ m ≤ 18446744073709551615 ∧ ∃ pre, Hid (uvar n = pre ++ uvar m) ∧ pre.length ≤ 10 ∧ Wto base w g row (xs ++ pre) wr) (fun i _ => (intOf i).toNat)
  case atStart => exact ⟨n, rfl, hn, [], Lib.hid rfl, by simp, Wto.rfl' (by simpa using hW)⟩
  case round =>
    obtain ⟨m, rfl, hm, pre, hpre, hpl, row', hWr, hx, hrow⟩ := hrel
    replace hrow := Lib.hid hrow
    obtain ⟨v, hO, hv, hS, hne, hg, hb⟩ := hWr
    obtain ⟨zs, hzs⟩ : ∃ zs, Hid (xs ++ pre = zs) := ⟨_, Lib.hid rfl⟩
    have hzl : zs.length ≤ 1000000010 := by rw [← hzs.out]; simp; omega
    rw [hzs.out] at hS
    obtain ⟨a, c, rfl, hl⟩ := hS.form
    obtain ⟨hoc, hof⟩ := hO.facts
    have hgl := hO.lt
    by_cases h128 : m < 128
    · have hE : ByteR noH [.int .u8 m] m.toUInt8 := by unfold ByteR; rw [show (m.toUInt8).toNat = m by simp; omega]
      have hum := Lib.hid (uvar_small h128)
      generalize m.toUInt8 = y at *
      go_wp2_with (at_builtin; refine wpList_append_S (E := ByteR) (H := noH) (base := base) (ys := [y]) rfl _ _ 23 5 rfl (.int .u8 0) 1 Tryz.underlying23 infoByte rfl rfl rfl (hS.keep xE) (Src.lit1 hE rfl (fun j => by simp [go_sem])) (noH_le _) ?c2 one_ByteR ?c3 ?c4 ?c5)
      case c2 => simp; omega
      case c3 => simp; omega
      case c4 => simp; omega
      case c5 =>
        intro l' w2 hl1 hg1 hn1
        obtain ⟨hO2, hR⟩ := Wr.step hO hg hb hne hl1 hg1 hn1
        obtain ⟨a', c', rfl, -⟩ := hl1.form
        obtain ⟨hoc2, hof2⟩ := hO2.facts
        have hgl2 := hO2.lt
        clear hS hg1 hn1 hoc hof hl1
        go_wp2_with fail
        have hT := Wto.then hx hrow.out hR.out
        rw [show (zs ++ [y]).length = zs.length + 1 by simp, ← hzs.out, List.append_assoc, ← hum.out, ← hpre.out, hzs.out] at hT
        exact bodyPost_ret (v := .tuple #[]) (by simp [results, Tryz.results70, go_sem]) rfl ⟨rfl, hT⟩
    · have hE : ByteR noH [.int .u8 (m % 128 + 128)] (m % 128 + 128).toUInt8 := by unfold ByteR; rw [show ((m % 128 + 128).toUInt8).toNat = m % 128 + 128 by simp; omega]; simp
      have hum := Lib.hid (uvar_big h128)
      generalize (m % 128 + 128).toUInt8 = y at *
      have hor : bits .or .u8 ((m : Int) % 256) 128 = ((m % 128 + 128 : Int)) := by
        rw [Lib.u8_or128_any _ (by omega) (by omega)]
        omega
      go_wp2_with (at_builtin; refine wpList_append_S (E := ByteR) (H := noH) (base := base) (ys := [y]) rfl _ _ 23 5 rfl (.int .u8 0) 1 Tryz.underlying23 infoByte rfl rfl rfl (hS.keep xE) (Src.lit1 hE rfl (fun j => by simp [go_sem])) (noH_le _) ?c2 one_ByteR ?c3 ?c4 ?c5)
      case c2 => simp; omega
      case c3 => simp; omega
      case c4 => simp; omega
      case c5 =>
        intro l' w2 hl1 hg1 hn1
        obtain ⟨hO2, hR⟩ := Wr.step hO hg hb hne hl1 hg1 hn1
        obtain ⟨a', c', rfl, -⟩ := hl1.form
        obtain ⟨hoc2, hof2⟩ := hO2.facts
        have hgl2 := hO2.lt
        clear hS hg1 hn1 hoc hof hl1
        go_wp2_with fail
        go_roundw
        case rel =>
          have hT := Wto.then hx hrow.out hR.out
          rw [List.length_append, List.length_singleton] at hT
          have hpre2 : uvar n = (pre ++ [y]) ++ uvar (m / 128) := by rw [hpre.out, hum.out]; simp
          refine ⟨m / 128, by go_num, by omega, pre ++ [y], hpre2, ?_, ?_⟩
          · have := congrArg List.length hpre2
            rw [List.length_append] at this
            omega
          · rw [← List.append_assoc, hzs.out]; exact hT
        case measure => simp [intOf]; omega
def encI (n : Int) : List UInt8 := uvar (zig n)
theorem encI_len {n : Int} (h : I64 n) : (encI n).length ≤ 10 := uvar_len10 (zig_le h)
theorem int_c (base g : Nat) (row : Option Nat) (xs : List UInt8) (n : Int) (w : World) (hn : I64 n) (hW : Wr base w g row xs) (hlen : xs.length ≤ 1000000000) :
    Calls Tryz.prog 30 #[.pointer (some ⟨g, 0, none⟩), .int .i64 n] w (WrP base w g row (xs ++ encI n)) := by
  have hz := zig_le hn
  go_enter Tryz.func30, Tryz.ntmps30
  go_wp2_with fail
  refine (zigzag_c n _ hn).mono ?_
  rintro e w1 ⟨rfl, hb1⟩
  go_wp2_with fail
  refine (uint_c base g row xs _ _ hz (hW.keep hb1) hlen).mono ?_
  rintro e w2 ⟨rfl, hT⟩
  go_wp2_with fail
  exact bodyPost_ret (v := .tuple #[]) (by simp [results, Tryz.results30, go_sem]) rfl ⟨rfl, Wto.then (hb1.toW g row) (fun _ h => .inl h) hT⟩
def encL (l : List Int) : List UInt8 := l.flatMap encI
def encInts (l : List Int) : List UInt8 := uvar l.length ++ encL l
theorem encL_len {l : List Int} (h : ∀ x ∈ l, I64 x) : (encL l).length ≤ 10 * l.length := by
  induction l with
  | nil => simp [encL]
  | cons x l ih =>
    have h1 := encI_len (h x (by simp))
    have h2 := ih fun y hy => h y (by simp [hy])
    simp only [encL, List.flatMap_cons, List.length_append, List.length_cons] at *
    omega
theorem encL_snoc (l : List Int) (k : Nat) (h : k < l.length) : encL (l.take (k + 1)) = encL (l.take k) ++ encI l[k] := by
  unfold encL; rw [take_snoc l k h, List.flatMap_append]; simp
theorem Wto.own {base : Nat} {w w' : World} {g b : Nat} {row : Option Nat} {ys : List UInt8} {c : Array Value} {T : TypeId} (hO : Own w b c T) (hW : Wto base w g row ys w') (h1 : b ≠ g) (h2 : row ≠ some b) : Own w' b c T := by
  obtain ⟨r, h3, h4, h5⟩ := hW
  exact hO.keepW h4 h1 h2
theorem IntsR.all {H : PH} {v : Value} {l : List Int} (h : IntsR H v l) : ∀ x ∈ l, I64 x := by
  obtain ⟨a, c, rfl, h1, h⟩ := h.form
  intro x hx
  obtain ⟨k, hk, rfl⟩ := List.mem_iff_getElem.1 hx
  obtain ⟨b, o, cs, -, -, -, -, h2⟩ := h.get k hk
  exact h2
theorem Src.keep {α : Type} {E : PH → List Value → α → Prop} {sz : Nat} {H : PH} {w w' : World} {v : Value} {xs : List α} (h : Src w H E sz v xs) (e : Ext w w') : Src w' H E sz v xs := by
  obtain ⟨a, cap, rfl, h1, h2⟩ := h
  refine ⟨a, cap, rfl, h1, ?_⟩
  rcases h2 with h2 | ⟨ad, c, rfl, h3, h4⟩
  · exact .inl h2
  · refine .inr ⟨ad, c, rfl, h3, fun j u hu => ?_⟩
    have h5 := h4 j u hu
    rw [← h5]
    exact Below.cell e (World.block_lt_of_cell? w _ h5)
def FreshB (w : World) (xs : List UInt8) (e : Ending) (w' : World) : Prop := ∃ v, e = .returned v ∧ OwnS w.heap.size noH w' ByteR 1 5 v xs ∧ Ext w w'
set_option maxRecDepth 100000 in
theorem clone_c (vs : Value) (xs : List UInt8) (w : World) (hs : Src w noH ByteR 1 vs xs) (hlen : xs.length ≤ 2000000000) :
    Calls Tryz.prog 43 #[vs] w (FreshB w xs) := by
  have hS := hs
  have q46 : ∀ (w : World) (a : Option Addr) (n c n' c' : Nat), (binOp .eql 23 (.slice a n c) (.slice none n' c')).run Tryz.prog w = .ok (.bool a.isNone) w := fun w a n c n' c' => Lib.run_eql_slice_nil w _ _ a n c n' c' Tryz.underlying23
  obtain ⟨a, cap, rfl, h1, h2⟩ := hs
  cases a with
  | none =>
    have : xs = [] := by
      rcases h2 with h2 | ⟨_, _, h, _⟩
      · exact h2
      · cases h
    subst this
    clear h2
    go_enter Tryz.func43, Tryz.ntmps43
    go_wp2_with fail
    go_ret
    exact ⟨_, rfl, OwnS.nil _ _ _ _ _ _, xE⟩
  | some a =>
    clear h2
    go_enter Tryz.func43, Tryz.ntmps43
    go_wp2_with (at_builtin; refine wpList_append_S (E := ByteR) (H := noH) (base := w.heap.size) (xs := []) (ys := xs) rfl _ _ 23 5 rfl (.int .u8 0) 1 Tryz.underlying23 infoByte rfl rfl rfl (OwnS.ofNew (Nat.le_refl _) (Own.new _ _ _) rfl (by simp [maxLen]) rfl rfl) (hS.keep xE) (noH_le _) ?c2 one_ByteR ?c3 ?c4 ?c5)
    case c2 => simp
    case c3 => simp; omega
    case c4 => simp; omega
    case c5 =>
      intro l' w2 hl1 hg1 hn1
      have hb2 : Ext w w2 := Ext.grown xE hg1 (fun k e => by simp [Value.ownBlock] at e; omega)
      clear hg1 hn1 hS
      go_wp2_with fail
      go_ret
      exact ⟨_, rfl, hl1, hb2⟩
set_option maxRecDepth 100000 in
theorem done_c (base g : Nat) (row : Option Nat) (xs : List UInt8) (w : World) (hW : Wr base w g row xs) (hlen : xs.length ≤ 2000000000) :
    Calls Tryz.prog 33 #[.pointer (some ⟨g, 0, none⟩)] w (FreshB w xs) := by
  obtain ⟨v, hO, hv, hS, hne, hg, hb⟩ := hW
  obtain ⟨a, c, rfl, hl⟩ := hS.form
  obtain ⟨hoc, hof⟩ := hO.facts
  have hgl := hO.lt
  go_enter Tryz.func33, Tryz.ntmps33
  go_wp2_with fail
  refine (clone_c _ xs _ (Src.ofOwn (hS.keep xE)) hlen).mono ?_
  rintro e w1 ⟨v1, rfl, hF, hb1⟩
  go_wp2_with fail
  go_ret
  exact ⟨_, rfl, hF, xE⟩
theorem Wr.fresh (w : World) : Wr w.heap.size (w.alloc (.cells #[.slice none 0 0] 64)) w.heap.size none [] :=
  ⟨_, Own.new _ _ _, rfl, OwnS.nil _ _ _ _ _ _, by simp, Nat.le_refl _, by simp⟩
theorem OwnS.base {α : Type} {b0 base : Nat} {H : PH} {w : World} {E : PH → List Value → α → Prop} {sz : Nat} {T : TypeId} {v : Value} {xs : List α} (h : OwnS base H w E sz T v xs) (hb : b0 ≤ base) : OwnS b0 H w E sz T v xs := by
  rcases h with h | ⟨g, cap, cur, h1, h2, h3⟩
  · exact .inl h
  · exact .inr ⟨g, cap, cur, h1, Nat.le_trans hb h2, h3⟩
end Go.Proofs.YtnpnjcaomakehaaGreat
namespace Go.Proofs.YtnpnjcaomakehaaGreat
theorem uvar_pre : ∀ (n m : Nat) (r r' : List UInt8), uvar n ++ r = uvar m ++ r' → n = m ∧ r = r' := by
  intro n
  induction n using Nat.strongRecOn with
  | ind n ih =>
    intro m r r' h
    have hb : ∀ k : Nat, k < 256 → (k.toUInt8).toNat = k := fun k hk => by simp [Nat.toUInt8]; omega
    by_cases hn : n < 128
    · rw [uvar_small hn] at h
      by_cases hm : m < 128
      · rw [uvar_small hm] at h
        simp only [List.cons_append, List.nil_append, List.cons.injEq] at h
        have := congrArg UInt8.toNat h.1
        rw [hb n (by omega), hb m (by omega)] at this
        exact ⟨this, h.2⟩
      · rw [uvar_big hm] at h
        simp only [List.cons_append, List.nil_append, List.cons.injEq] at h
        have := congrArg UInt8.toNat h.1
        rw [hb n (by omega), hb _ (by omega)] at this
        omega
    · rw [uvar_big hn] at h
      by_cases hm : m < 128
      · rw [uvar_small hm] at h
        simp only [List.cons_append, List.nil_append, List.cons.injEq] at h
        have := congrArg UInt8.toNat h.1
        rw [hb m (by omega), hb _ (by omega)] at this
        omega
      · rw [uvar_big hm] at h
        simp only [List.cons_append, List.cons.injEq] at h
        have h1 := congrArg UInt8.toNat h.1
        rw [hb _ (by omega), hb _ (by omega)] at h1
        obtain ⟨h2, h3⟩ := ih (n / 128) (by omega) (m / 128) r r' h.2
        exact ⟨by omega, h3⟩
theorem encI_pre {n m : Int} (hn : I64 n) (hm : I64 m) {r r' : List UInt8} (h : encI n ++ r = encI m ++ r') : n = m ∧ r = r' := by
  obtain ⟨h1, h2⟩ := uvar_pre _ _ _ _ h
  refine ⟨?_, h2⟩
  unfold I64 at *
  simp only [zig, Lib.zigzag] at h1
  split at h1 <;> split at h1 <;> omega
theorem encL_pre : ∀ {l m : List Int}, l.length = m.length → (∀ x ∈ l, I64 x) → (∀ x ∈ m, I64 x) → ∀ {r r' : List UInt8}, encL l ++ r = encL m ++ r' → l = m ∧ r = r'
  | [], [], _, _, _, r, r', h => ⟨rfl, h⟩
  | x :: l, y :: m, hl, h1, h2, r, r', h => by
    simp only [encL, List.flatMap_cons, List.append_assoc] at h
    obtain ⟨rfl, h3⟩ := encI_pre (h1 x (by simp)) (h2 y (by simp)) h
    obtain ⟨rfl, h4⟩ := encL_pre (by simpa using hl) (fun z hz => h1 z (by simp [hz])) (fun z hz => h2 z (by simp [hz])) h3
    exact ⟨rfl, h4⟩
theorem encInts_pre {l m : List Int} (h1 : ∀ x ∈ l, I64 x) (h2 : ∀ x ∈ m, I64 x) {r r' : List UInt8} (h : encInts l ++ r = encInts m ++ r') : l = m ∧ r = r' := by
  simp only [encInts, List.append_assoc] at h
  obtain ⟨h3, h4⟩ := uvar_pre _ _ _ _ h
  exact encL_pre h3 h1 h2 h4
end Go.Proofs.YtnpnjcaomakehaaGreat
namespace Go.Proofs.YtnpnjcaomakehaaGreat
open Go.RowKit
theorem Mem.init {w0 w : World} {H0 H : PH} {L : List Chunk} {c : Chunk} (h : Mem w0 H0 (L ++ [c]) H w) : Mem w0 H0 L H w := by
  have h1 := h.pick (List.range L.length) List.nodup_range
  have e : (List.range L.length).map (fun i => ((L ++ [c])[i]?).getD nop) = L := by
    refine List.ext_getElem (by simp) fun i hi _ => ?_
    have hi' : i < L.length := by simpa using hi
    simp [List.getElem?_append_left hi', hi']
  rw [e] at h1; exact h1
def MB (w0 : World) (K : List Chunk) (F : PH) (v : Value) (xs : List UInt8) (w : World) : Prop := ∃ H, PLe F H ∧ Mem w0 noH (Proofs.YtnpnjcaomakehaaGreat.own mono_ByteR 1 5 v xs :: K) H w
theorem MB.start (w : World) : MB w [] noH (.slice none 0 0) [] w := ⟨noH, PLe.refl _, (Mem.start w noH (noH_le _)).nil mono_ByteR 1 5⟩
theorem MB.box {w0 w : World} {K : List Chunk} {F : PH} {v : Value} {xs : List UInt8} (h : MB w0 K F v xs w) (c : Array Value) (T : TypeId) : MB w0 (K ++ [Proofs.YtnpnjcaomakehaaGreat.box w.heap.size c T]) F v xs (w.alloc (.cells c T)) := by
  obtain ⟨H, hF, h⟩ := h
  exact ⟨H, hF, h.new c T⟩
theorem MB.own1 {w0 w : World} {K : List Chunk} {F : PH} {v : Value} {xs : List UInt8} (h : MB w0 K F v xs w) (i : Nat) {b : Nat} {c : Array Value} {T : TypeId} (hi : K[i]? = some (Proofs.YtnpnjcaomakehaaGreat.box b c T)) : Own w b c T := by
  obtain ⟨H, hF, h⟩ := h
  exact h.box (i + 1) (by simpa using hi)
theorem MB.keep {w0 w w' : World} {K : List Chunk} {F : PH} {v : Value} {xs : List UInt8} (h : MB w0 K F v xs w) (e : Ext w w') : MB w0 K F v xs w' := by
  obtain ⟨H, hF, h⟩ := h
  exact ⟨H, hF, h.ext e⟩
theorem MB.ex {w0 w : World} {K : List Chunk} {F : PH} {v : Value} {xs : List UInt8} (h : MB w0 K F v xs w) : Ext w0 w := by
  obtain ⟨H, hF, h⟩ := h
  exact h.ex
theorem MB.form {w0 w : World} {K : List Chunk} {F : PH} {v : Value} {xs : List UInt8} (h : MB w0 K F v xs w) : ∃ a cap, v = .slice a xs.length cap ∧ xs.length ≤ 9223372036854775807 := by
  obtain ⟨H, hF, h⟩ := h
  exact h.form 0 rfl
theorem MB.own {w0 w : World} {K : List Chunk} {F : PH} {v : Value} {xs : List UInt8} (h : MB w0 K F v xs w) : OwnS w0.heap.size noH w ByteR 1 5 v xs := by
  obtain ⟨H, hF, h⟩ := h
  exact (h.ownS 0 rfl).keepB (fun _ _ => rfl) (fun _ _ => rfl) (fun _ _ h => h)
theorem MB.fresh {w0 w : World} {K : List Chunk} {F : PH} {v : Value} {xs : List UInt8} (h : MB w0 K F v xs w) : FreshB w0 xs (.returned v) w := ⟨v, rfl, h.own, h.ex⟩
theorem MB.src {w0 w : World} {K : List Chunk} {F : PH} {v : Value} {xs : List UInt8} (h : MB w0 K F v xs w) : Src w noH ByteR 1 v xs := by
  exact Src.ofOwn h.own
theorem MB.take {w0 w w' : World} {K : List Chunk} {F : PH} {v vx : Value} {xs ys : List UInt8} (h : MB w0 K F v xs w) (e : Ext w w') (ho : OwnS w.heap.size noH w' ByteR 1 5 vx ys) : MB w0 K F v xs w' ∧ MB w0 [] F vx ys w' := by
  obtain ⟨H, hF, h⟩ := h
  obtain ⟨H2, hl, -, h2⟩ := h.take e ho mono_ByteR (noH_le _)
  refine ⟨⟨H2, hF.trans hl, h2.init⟩, ⟨H2, hF.trans hl, ?_⟩⟩
  have h3 := h2.pick [K.length + 1] (by simp)
  simpa using h3
theorem MB.take' {w0 w w' : World} {K : List Chunk} {F : PH} {v vx : Value} {xs ys : List UInt8} (h : MB w0 K F v xs w) (e : Ext w w') (ho : OwnS w.heap.size noH w' ByteR 1 5 vx ys) : MB w0 K F vx ys w' := by
  obtain ⟨H, hF, h⟩ := h
  obtain ⟨H2, hl, -, h2⟩ := h.take e ho mono_ByteR (noH_le _)
  refine ⟨H2, hF.trans hl, ?_⟩
  have h3 := h2.pick ((K.length + 1) :: (List.range K.length).map (· + 1)) (by
    rw [List.nodup_cons]
    refine ⟨by simp, ?_⟩
    exact List.Pairwise.map _ (fun a b h => by omega) List.nodup_range)
  have e : ((K.length + 1) :: (List.range K.length).map (· + 1)).map (fun i => (((Proofs.YtnpnjcaomakehaaGreat.own mono_ByteR 1 5 v xs :: K) ++ [Proofs.YtnpnjcaomakehaaGreat.own mono_ByteR 1 5 vx ys])[i]?).getD nop) = Proofs.YtnpnjcaomakehaaGreat.own mono_ByteR 1 5 vx ys :: K := by
    rw [List.map_cons, List.map_map]
    congr 1
    · simp
    · refine List.ext_getElem (by simp) fun i hi _ => ?_
      have hi' : i < K.length := by simpa using hi
      simp [List.getElem?_append_left hi', hi']
  rw [e] at h3; exact h3
theorem wpList_append_B {P : Program} {ops : Array Oper} {rest : List Oper} {o : Oper} {a : Act} {Q : Exit → Act → World → Prop} (hgd : o.guard = none) (s x : Operand) (t : TypeId)
    (ho : o.op = .call { callee := .builtin .append, args := #[s, x], argTypes := #[t, t] }) {z : Value} {bytes : Nat}
    (ht : P.underlying t = some (.slice 5)) (hinfo : (P.info? 5).map (fun i => (i.zero, i.size, i.bytes)) = some (some z, 1, bytes)) (hzs : z.cells.size = 1) (hby : bytes = 1)
    {w0 w : World} {K : List Chunk} {F : PH} {v vx : Value} {xs ys : List UInt8} (hs : a.eval s = v) (hx : a.eval x = vx) (hS : MB w0 K F v xs w) (hsrc : Src w noH ByteR 1 vx ys)
    (hcnt : xs.length + ys.length ≤ 140737488355328)
    (h : ∀ v' w', MB w0 K F v' (xs ++ ys) w' → wpList P ops Q rest (a.put o.dst v') w') :
    wpList P ops Q (o :: rest) a w := by
  obtain ⟨H, hF, hM⟩ := hS
  obtain ⟨a', cap, hv, h1, h2⟩ := hsrc
  have hsr : Src w H ByteR 1 vx ys := by
    refine ⟨a', cap, hv, h1, ?_⟩
    rcases h2 with h2 | ⟨ad, c, q1, q2, q3⟩
    · exact .inl h2
    · exact .inr ⟨ad, c, q1, (by refine Cells.mono ?_ q2; exact fun _ _ h => h), q3⟩
  refine wpList_append_M 0 hgd s x t ho ht hinfo hzs hs hx hM rfl hsr one_ByteR (by subst hby; omega) hcnt fun v' w' hM' => h v' w' ⟨H, hF, hM'⟩
theorem refZig_c (n : Int) (w : World) (hn : I64 n) : Calls Tryz.prog 78 #[.int .i64 n] w (RetV w (.int .u64 (zig n))) := by
  obtain ⟨h1, h2⟩ := hn
  go_enter Tryz.func78, Tryz.ntmps78
  by_cases h0 : n < 0
  · have hz : (zig n : Int) = 2 * (-(n + 1)) + 1 := by rw [zig, Lib.zigzag, if_neg (by omega)]; omega
    have h0b : decide (n < 0) = true := by simpa using h0
    replace hz := Lib.hid hz
    go_wp2_with fail
    go_ret
    refine ⟨?_, xE⟩
    rw [hz.out]
    first | rfl | (congr 1; done) | (simp only [IntKind.wrap_u64, IntKind.wrap_i64]; refine ret_int ?_; omega)
  · have hz : (zig n : Int) = 2 * n := by rw [zig, Lib.zigzag, if_pos (by omega)]; omega
    have h0b : decide (n < 0) = false := by simpa using h0
    replace hz := Lib.hid hz
    go_wp2_with fail
    go_ret
    refine ⟨?_, xE⟩
    rw [hz.out]
    first | rfl | (congr 1; done) | (simp only [IntKind.wrap_u64, IntKind.wrap_i64]; refine ret_int ?_; omega)
set_option maxRecDepth 100000 in
set_option maxHeartbeats 400000 in
theorem refUint_c (n : Nat) (w : World) (hn : n ≤ 18446744073709551615) : Calls Tryz.prog 77 #[.int .u64 n] w (FreshB w (uvar n)) := by
  have h10 := uvar_len10 hn
  have hM := MB.start w
  go_enter Tryz.func77, Tryz.ntmps77
  go_wp2_with fail
  go_loopw [0, 3] (fun i v wr => ∃ m : Nat, i = .int .u64 m ∧ m ≤ 18446744073709551615 ∧ ∃ pre, Hid (uvar n = pre ++ uvar m) ∧ pre.length ≤ 10 ∧ MB w [] noH v pre wr) (fun i _ _ => (intOf i).toNat)
  case atStart => exact ⟨n, rfl, hn, [], Lib.hid rfl, by simp, hM⟩
  case round =>
    obtain ⟨m, rfl, hm, pre, hpre, hpl, hMr⟩ := hrel
    clear hM
    obtain ⟨a, c, rfl, hl⟩ := hMr.form
    by_cases h128 : m < 128
    · have hE : ByteR noH [.int .u8 m] m.toUInt8 := by unfold ByteR; rw [show (m.toUInt8).toNat = m by simp; omega]
      have hum := Lib.hid (uvar_small h128)
      generalize m.toUInt8 = y at *
      go_wp2_with (at_builtin; refine wpList_append_B rfl _ _ 23 rfl Tryz.underlying23 infoByte rfl rfl rfl rfl (hMr.keep xE) (Src.lit1 hE rfl (fun j => by simp [go_sem])) ?c4 ?c5)
      case c4 => simp; omega
      case c5 =>
        intro l' w2 hM2
        rw [← hum.out, ← hpre.out] at hM2
        obtain ⟨a', c', rfl, -⟩ := hM2.form
        clear hMr
        go_wp2_with fail
        go_ret
        exact hM2.fresh
    · have hE : ByteR noH [.int .u8 (128 + m % 128)] (m % 128 + 128).toUInt8 := by unfold ByteR; rw [show ((m % 128 + 128).toUInt8).toNat = m % 128 + 128 by simp; omega]; simp; omega
      have hum := Lib.hid (uvar_big h128)
      generalize (m % 128 + 128).toUInt8 = y at *
      go_wp2_with (at_builtin; refine wpList_append_B rfl _ _ 23 rfl Tryz.underlying23 infoByte rfl rfl rfl rfl (hMr.keep xE) (Src.lit1 hE rfl (fun j => by simp [go_sem])) ?c6 ?c7)
      case c6 => simp; omega
      case c7 =>
        intro l' w2 hM2
        obtain ⟨a', c', rfl, -⟩ := hM2.form
        clear hMr
        go_wp2_with fail
        go_roundw
        case rel =>
          have hpre2 : uvar n = (pre ++ [y]) ++ uvar (m / 128) := by rw [hpre.out, hum.out]; simp
          refine ⟨m / 128, by go_num, by omega, pre ++ [y], hpre2, ?_, by simpa using hM2⟩
          have := congrArg List.length hpre2
          rw [List.length_append] at this
          omega
        case measure => simp [intOf]; omega
theorem refInt_c (n : Int) (w : World) (hn : I64 n) : Calls Tryz.prog 39 #[.int .i64 n] w (FreshB w (encI n)) := by
  go_enter Tryz.func39, Tryz.ntmps39
  go_wp2_with fail
  refine (refZig_c n _ hn).mono ?_
  rintro e w1 ⟨rfl, hb1⟩
  have hz := zig_le hn
  go_wp2_with fail
  refine (refUint_c _ _ hz).mono ?_
  rintro e w2 ⟨v, rfl, ho, hb2⟩
  have hM := ((MB.start w).keep (w' := w1) xE).take hb2 ho
  have hf := hM.2.fresh
  go_wp2_with fail
  go_ret
  exact hf
set_option maxRecDepth 100000 in
set_option maxHeartbeats 400000 in
theorem refInts_c (vl : Value) (l : List Int) (w : World) (hl : IntsR (ph w) vl l) (hlen : l.length ≤ 10000000) : Calls Tryz.prog 40 #[vl] w (FreshB w (encInts l)) := by
  obtain ⟨a, c, rfl, hll, hl⟩ := hl.form
  go_enter Tryz.func40, Tryz.ntmps40
  go_wp2_with fail
  refine (refUint_c l.length _ (by omega)).mono ?_
  rintro e w1 ⟨v, rfl, ho, hb1⟩
  have hM := ((MB.start w).take hb1 ho).2
  clear ho
  go_wp2_with fail
  go_loopw [3, 4] (fun v i wr => ∃ k : Nat, k ≤ l.length ∧ i = .int .i64 k ∧ MB w [] noH v (uvar l.length ++ encL (l.take k)) wr) (fun _ i _ => l.length - (intOf i).toNat)
  case atStart => exact ⟨0, Nat.zero_le _, rfl, by simpa [encL] using hM⟩
  case round =>
    clear hM hb1
    obtain ⟨k, hk, rfl, hM⟩ := hrel
    have hul : (uvar l.length).length ≤ 10 := uvar_len10 (by omega)
    have hi64 := IntsR.all hl
    have hel : (encL (l.take k)).length ≤ 10 * k := by
      have := encL_len (l := l.take k) fun x hx => hi64 x (List.mem_of_mem_take hx)
      rw [List.length_take] at this; omega
    have hxl : (uvar l.length ++ encL (l.take k)).length ≤ 110000000 := by simp only [List.length_append]; omega
    by_cases hlt : k < l.length
    · obtain ⟨b, o, rfl, h0, hi, hbl⟩ := IntsR.at (hl.mono mono_IntR hM.ex.ple) k hlt
      have hs := Lib.hid (encL_snoc l k hlt)
      have hil := encI_len hi
      generalize l[k] = x at *
      clear hl hi64
      replace hs : Hid (uvar l.length ++ encL (List.take (k + 1) l) = (uvar l.length ++ encL (l.take k)) ++ encI x) := by
        show _ = _; rw [hs.out, List.append_assoc]
      generalize hacc : uvar l.length ++ encL (l.take k) = acc at *
      replace hacc := Lib.hid hacc
      obtain ⟨a1, c1, rfl, -⟩ := hM.form
      go_wp2_with fail
      refine (refInt_c x _ hi).mono ?_
      rintro e w2 ⟨vx, rfl, ho, hb2⟩
      obtain ⟨hM1, hM2⟩ := hM.take hb2 ho
      obtain ⟨a2, c2, rfl, -⟩ := hM2.form
      clear hM hb2 ho h0
      generalize hn2 : (encI x).length = n2 at *
      replace hn2 := Lib.hid hn2
      go_wp2_with (at_builtin; refine wpList_append_B rfl _ _ 23 rfl Tryz.underlying23 infoByte rfl rfl rfl rfl (hM1.keep xE) (hM2.src.keep xE) ?c4 ?c5)
      case c4 => rw [hn2.out]; omega
      case c5 =>
        intro l' w3 hM3
        rw [← hs.out] at hM3
        clear hM1 hM2
        go_wp2_with fail
        go_roundw
        case rel => exact ⟨k + 1, by omega, by go_num, hM3⟩
        case measure => simp [intOf]; omega
    · rw [List.take_of_length_le (by omega)] at hM
      obtain ⟨a1, c1, rfl, -⟩ := hM.form
      have hf := Lib.hid hM.fresh
      clear hM hl
      go_wp2_with fail
      go_ret
      exact hf.out
end Go.Proofs.YtnpnjcaomakehaaGreat
namespace Go.Proofs.YtnpnjcaomakehaaGreat
open Go.RowKit
def phX (g : Nat) (w : World) : PH := fun k => if k = g then none else w.heap[k]?
theorem phX_ple (g : Nat) (w : World) : PLe (phX g w) (ph w) := by
  intro k o h
  unfold phX at h
  split at h
  · cases h
  · exact h
theorem phX_mono {g : Nat} {w w' : World} (e : ExtW w w' g none) : PLe (phX g w) (phX g w') := by
  intro k o h
  unfold phX at *
  split at h
  · cases h
  · rename_i hk
    rw [if_neg hk, e.block k (Array.getElem?_eq_some_iff.1 h).1 hk (by simp)]; exact h
abbrev RS := Option (List UInt8)
def Rd (H : PH) (w : World) (g : Nat) (s : RS) : Prop :=
  ∃ a n c e l, Own w g #[.slice a n c, .int .i64 e] 76 ∧ BytesR H (.slice a n c) l ∧ PLe H (phX g w) ∧ (s = some l ∧ e = 0 ∨ s = none ∧ e ≠ 0)
theorem Rd.keep {H : PH} {w w' : World} {g : Nat} {s : RS} (h : Rd H w g s) (e : Ext w w') : Rd H w' g s := by
  obtain ⟨a, n, c, er, l, h1, h2, h3, h4⟩ := h
  exact ⟨a, n, c, er, l, h1.keep e, h2, h3.trans (phX_mono (e.toW g none)), h4⟩
theorem Rd.lt {H : PH} {w : World} {g : Nat} {s : RS} (h : Rd H w g s) : g < w.heap.size := by
  obtain ⟨a, n, c, er, l, h1, -⟩ := h
  exact h1.lt
def RdP (H : PH) (w : World) (g : Nat) (v : Value) (s : RS) (e : Ending) (w' : World) : Prop := e = .returned v ∧ Rd H w' g s ∧ ExtW w w' g none
theorem ExtW.set {w w' : World} {g : Nat} (h : ExtW w w' g none) (j : Nat) (v : Value) : ExtW w (w'.setCell ⟨g, j, none⟩ v) g none :=
  ⟨h.os, h.tape, h.output, by simpa using h.size, fun k hk hg hr => by
    rw [Below.heap_setCell _ _ _ _ hg]; exact h.block k hk hg hr⟩
theorem BytesR.tail {H : PH} {a : Option Addr} {n c : Nat} {x : UInt8} {l : List UInt8} (h : BytesR H (.slice a n c) (x :: l)) : ∃ b o, a = some ⟨b, o, none⟩ ∧ n = l.length + 1 ∧ cellAt H b o = some (.int .u8 x.toNat) ∧ n ≤ c ∧ c ≤ maxLen ∧
    ∀ a' , (a' = some ⟨b, o + 1, none⟩ ∨ l = []) → BytesR H (.slice a' l.length (c - 1)) l := by
  obtain ⟨a0, cap, h1, h2, h3, h4⟩ := h
  cases h1
  rcases h4 with h4 | ⟨b, o, rfl, h4, h5⟩
  · cases h4
  · obtain ⟨cs, h6, h7, h8⟩ := h4
    refine ⟨b, o, rfl, rfl, ?_, h2, h3, fun a' ha' => ⟨a', c - 1, rfl, by simp at h2; omega, by omega, ?_⟩⟩
    · have := h7 0 (by omega)
      cases h8
      simpa using this
    · rcases ha' with rfl | rfl
      · exact .inr ⟨b, o + 1, rfl, h5⟩
      · exact .inl rfl
theorem fail_c {H : PH} (g : Nat) (s : RS) (e0 : Int) (w : World) (h : Rd H w g s) (he : e0 ≠ 0) :
    Calls Tryz.prog 79 #[.pointer (some ⟨g, 0, none⟩), .int .i64 e0] w fun e w' => (∃ v, e = .returned v) ∧ Rd H w' g none ∧ ExtW w w' g none := by
  obtain ⟨a, n, c, er, l, hO, hB, hP, hs⟩ := h
  obtain ⟨hoc, hof⟩ := hO.facts
  have h0 := hoc 0
  have h1 := hoc 1
  have hf0 := hof 0
  have hf1 := hof 1
  simp at h0 h1
  clear hoc hof
  go_enter Tryz.func79, Tryz.ntmps79
  rcases hs with ⟨rfl, rfl⟩ | ⟨rfl, hne⟩
  · go_wp2_with fail
    go_end0
    exact ⟨⟨_, rfl⟩, ⟨a, n, c, e0, l, by simpa using hO.set 1 (.int .i64 e0), hB, hP.trans (phX_mono ((ExtW.rfl' w g none).set 1 _)), .inr ⟨rfl, he⟩⟩, (ExtW.rfl' w g none).set 1 _⟩
  · have hne' : (er == 0) = false := by simpa using hne
    go_wp2_with fail
    go_end0
    exact ⟨⟨_, rfl⟩, ⟨a, n, c, er, l, hO, hB, hP, .inr ⟨rfl, hne⟩⟩, ExtW.rfl' w g none⟩
def nextS : RS → Nat × RS
  | some (x :: l) => (x.toNat, some l)
  | _ => (0, none)
theorem next_c {H : PH} (g : Nat) (s : RS) (w : World) (h : Rd H w g s) :
    Calls Tryz.prog 76 #[.pointer (some ⟨g, 0, none⟩)] w (RdP H w g (.int .u8 (nextS s).1) (nextS s).2) := by
  have hall := Lib.hid h
  obtain ⟨a, n, c, er, l, hO, hB, hP, hs⟩ := h
  have hX := ExtW.rfl' w g none
  obtain ⟨hoc, hof⟩ := hO.facts
  have h0 := hoc 0
  have h1 := hoc 1
  have hf0 := hof 0
  have hf1 := hof 1
  simp at h0 h1
  clear hoc hof
  have hn : n = l.length := by obtain ⟨a', c', e, -⟩ := hB; cases e; rfl
  subst hn
  have hln : l.length ≤ 9223372036854775807 := by obtain ⟨a', c', e, h3, -⟩ := hB.form; exact h3
  go_enter Tryz.func76, Tryz.ntmps76
  cases l with
  | nil =>
    have hS : nextS s = (0, none) := by
      rcases hs with ⟨rfl, -⟩ | ⟨rfl, -⟩ <;> rfl
    rw [hS]
    go_wp2_with fail
    refine (fail_c g s 3 _ hall.out (by omega)).mono ?_
    rintro e w1 ⟨⟨v, rfl⟩, hR, hX1⟩
    obtain ⟨a', n', c', er', l', hO', hB', hP', ⟨h, -⟩ | ⟨-, hne⟩⟩ := hR
    · cases h
    obtain ⟨hoc, hof⟩ := hO'.facts
    have h1' := hoc 1
    have hf1' := hof 1
    simp at h1'
    clear hoc hof
    have hne' : (er' == 0) = false := by simpa using hne
    go_wp2_with fail
    go_ret
    exact ⟨rfl, ⟨a', n', c', er', l', hO', hB', hP', .inr ⟨rfl, hne⟩⟩, hX1⟩
  | cons x l =>
    rcases hs with ⟨rfl, rfl⟩ | ⟨rfl, hne⟩
    · obtain ⟨b, o, rfl, -, hx, hc1, hc2, htl⟩ := hB.tail
      have hbx : w.cell? ⟨b, o, none⟩ = some (.int .u8 x.toNat) := by rw [cell_ph]; exact cellAt_mono (hP.trans (phX_ple g w)) hx
      by_cases hc : c = 1
      · subst hc
        have hl0 : l = [] := by cases l with | nil => rfl | cons y l => simp at hc1
        subst hl0
        go_wp2_with fail
        go_ret
        refine ⟨rfl, ⟨_, _, _, 0, [], by simpa using hO.set 0 (.slice (some ⟨b, o, none⟩) 0 0), ?_, hP.trans (phX_mono (hX.set 0 _)), .inl ⟨rfl, rfl⟩⟩, hX.set 0 _⟩
        exact htl (some ⟨b, o, none⟩) (by simp)
      · go_wp2_with fail
        go_ret
        refine ⟨rfl, ⟨_, _, _, 0, l, by simpa using hO.set 0 (.slice (some ⟨b, o + 1, none⟩) l.length (c - 1)), ?_, hP.trans (phX_mono (hX.set 0 _)), .inl ⟨rfl, rfl⟩⟩, hX.set 0 _⟩
        exact htl (some ⟨b, o + 1, none⟩) (.inl rfl)
    · have hS : nextS none = (0, none) := rfl
      rw [hS]
      have hne' : (er == 0) = false := by simpa using hne
      go_wp2_with fail
      go_ret
      exact ⟨rfl, ⟨a, _, c, er, _, hO, hB, hP, .inr ⟨rfl, hne⟩⟩, hX⟩
end Go.Proofs.YtnpnjcaomakehaaGreat
namespace Go.Proofs.YtnpnjcaomakehaaGreat
open Go.RowKit
def uAt : Nat → List UInt8 → Option (Nat × List UInt8)
  | _, [] => none
  | i, x :: l => if i = 9 ∧ 1 < x.toNat ∨ 0 < i ∧ x.toNat = 0 then none else if x.toNat < 128 then some (x.toNat, l) else (uAt (i + 1) l).map fun p => (x.toNat % 128 + 128 * p.1, p.2)
def uintS : RS → Nat × RS
  | some l => match uAt 0 l with
    | some (n, r) => (n, some r)
    | none => (0, none)
  | none => (0, none)
theorem Rd.err {H : PH} {w : World} {g : Nat} {s : RS} (h : Rd H w g s) : ∃ e : Int, w.cell? ⟨g, 1, none⟩ = some (.int .i64 e) ∧ (e == 0) = s.isSome := by
  obtain ⟨a, n, c, e, l', h1, h2, -, ⟨rfl, rfl⟩ | ⟨rfl, h3⟩⟩ := h
  · exact ⟨0, by simpa using h1.facts.1 1, rfl⟩
  · exact ⟨e, by simpa using h1.facts.1 1, by simpa using h3⟩
set_option maxRecDepth 100000 in
theorem andNot128 : ∀ x : Nat, x < 256 → bits .andNot .u8 (x : Int) 128 = ((x % 128 : Nat) : Int) := by decide
theorem or_step (m x k : Nat) (hk : k ≤ 9) (hm : m < 2 ^ (7 * k)) (hx : x < 256) (h9 : k = 9 → x % 128 ≤ 1) :
    bits .or .u64 (m : Int) (IntKind.u64.wrap (IntKind.u64.wrap (bits .andNot .u8 (x : Int) 128) * 2 ^ (7 * k))) = ((m + 2 ^ (7 * k) * (x % 128) : Nat) : Int) := by
  have hp : 2 ^ (7 * k) * (x % 128) < 18446744073709551616 ∧ m < 18446744073709551616 := by
    rcases Nat.lt_or_ge k 9 with h | h
    · have h1 : (2 : Nat) ^ (7 * k) ≤ 2 ^ 56 := Nat.pow_le_pow_right (by omega) (by omega)
      have h2 : 2 ^ (7 * k) * (x % 128) ≤ 2 ^ 56 * 127 := Nat.mul_le_mul h1 (by omega)
      omega
    · obtain rfl : k = 9 := by omega
      have := h9 rfl
      omega
  rw [andNot128 x hx, IntKind.wrap_u64, IntKind.wrap_u64]
  have e1 : ((x % 128 : Nat) : Int) % 18446744073709551616 = ((x % 128 : Nat) : Int) := by omega
  have e2 : ((x % 128 : Nat) : Int) * 2 ^ (7 * k) = ((2 ^ (7 * k) * (x % 128) : Nat) : Int) := by push_cast; rw [Int.mul_comm]
  rw [e1, e2]
  have e3 : ((2 ^ (7 * k) * (x % 128) : Nat) : Int) % 18446744073709551616 = ((2 ^ (7 * k) * (x % 128) : Nat) : Int) := by omega
  rw [e3, bits_or_u64_nat _ _ hp.2 hp.1, Nat.or_comm, ← Nat.two_pow_add_eq_or_of_lt hm, Nat.add_comm]
set_option maxRecDepth 100000 in
set_option maxHeartbeats 2000000 in
theorem ruint_c {H : PH} (g : Nat) (s : RS) (w : World) (h : Rd H w g s) :
    Calls Tryz.prog 45 #[.pointer (some ⟨g, 0, none⟩)] w (RdP H w g (.int .u64 (uintS s).1) (uintS s).2) := by
  go_enter Tryz.func45, Tryz.ntmps45
  go_wp2_with fail
  go_loopw [3, 4] (fun n i wr => ∃ (s' : RS) (k : Nat) (mi : Int), n = .int .u64 mi ∧ i = .int .i64 k ∧ k ≤ 10 ∧ Rd H wr g s' ∧ ExtW w wr g none ∧
      Hid ((s' = none ∧ (uintS s) = (0, none)) ∨ ∃ m l l', mi = (m : Nat) ∧ m < 2 ^ (7 * k) ∧ s = some l ∧ s' = some l' ∧ k ≤ 9 ∧ uAt 0 l = (uAt k l').map fun p => (m + 2 ^ (7 * k) * p.1, p.2))) (fun _ i _ => 20 - (intOf i).toNat)
  case atStart =>
    refine ⟨s, 0, 0, rfl, rfl, by omega, h, ExtW.rfl' _ _ _, Lib.hid ?_⟩
    cases s with
    | none => exact .inl ⟨rfl, rfl⟩
    | some l => exact .inr ⟨0, l, l, rfl, by simp, rfl, rfl, by omega, by simp⟩
  case round =>
    obtain ⟨s', k, mi, rfl, rfl, hk, hR, hX, hs⟩ := hrel
    obtain ⟨er, he, hes⟩ := hR.err
    cases s' with
    | none =>
      have hu : uintS s = (0, none) := by
        rcases hs.out with ⟨-, h⟩ | ⟨m, l, l', -, -, -, h, -⟩
        · exact h
        · cases h
      replace hu := Lib.hid hu
      have hes' : (er == 0) = false := by simpa using hes
      clear hes hs
      go_wp2_with fail
      go_ret
      rw [hu.out]
      exact ⟨rfl, hR, hX⟩
    | some l' =>
      obtain rfl : er = 0 := by simpa using hes
      obtain ⟨m, l, hmi, hm1, rfl, hk1, hu⟩ : ∃ (m : Nat) (l : List UInt8), mi = (m : Int) ∧ m < 2 ^ (7 * k) ∧ s = some l ∧ k ≤ 9 ∧ uAt 0 l = (uAt k l').map fun p => (m + 2 ^ (7 * k) * p.1, p.2) := by
        rcases hs.out with ⟨h, -⟩ | ⟨m, l, l2, h1, h2, h3, h, h4, h5⟩
        · cases h
        · cases h; exact ⟨m, l, h1, h2, h3, h4, h5⟩
      clear hes hs h
      replace hm1 := Lib.hid hm1
      replace hu := Lib.hid hu
      go_wp2_with fail
      refine (next_c g _ _ hR).mono ?_
      rintro e w1 ⟨rfl, hR1, hX1⟩
      have hX2 := hX.then hX1 (fun i h => by cases h)
      clear hX hX1 hR he
      cases l' with
      | nil =>
        have hU : uintS (some l) = (0, none) := by simp only [uintS, hu.out, uAt, Option.map_none]
        have hR2 : Rd H w1 g none := hR1
        rw [show nextS (some []) = (0, none) from rfl]
        clear hR1 hu
        obtain ⟨er, he, hes⟩ := hR2.err
        have hes' : (er == 0) = false := by simpa using hes
        clear hes
        replace hU := Lib.hid hU
        by_cases hk0 : 0 < k
        · go_wp2_with (refine (fail_c g _ 2 _ hR2 (by omega)).mono ?_; rintro e w2 ⟨⟨v, rfl⟩, hR3, hX3⟩; have hX4 := hX2.then hX3 (fun i h => by cases h); obtain ⟨er2, he2, hes2⟩ := hR3.err; have hes3 : (er2 == 0) = false := (by simpa using hes2); clear hes2)
          all_goals
            go_roundw
            case rel => exact ⟨none, k + 1, _, rfl, by go_num, by omega, hR3, hX4, Lib.hid (.inl ⟨rfl, hU.out⟩)⟩
            case measure => simp [intOf]; omega
        · obtain rfl : k = 0 := by omega
          go_wp2_with fail
          go_roundw
          case rel => exact ⟨none, 1, _, rfl, rfl, by omega, hR2, hX2, Lib.hid (.inl ⟨rfl, hU.out⟩)⟩
          case measure => simp [intOf]
      | cons x l' =>
        have hx := x.toNat_lt
        have hR2 : Rd H w1 g (some l') := hR1
        rw [show nextS (some (x :: l')) = (x.toNat, some l') from rfl]
        clear hR1
        by_cases hbad : k = 9 ∧ 1 < x.toNat ∨ 0 < k ∧ x.toNat = 0
        · have hU : uintS (some l) = (0, none) := by
            simp only [uintS, hu.out, uAt, if_pos hbad, Option.map_none]
          replace hU := Lib.hid hU
          clear hu
          rcases hbad with ⟨rfl, h1⟩ | ⟨h1, h2⟩
          · go_wp2_with (refine (fail_c g _ 2 _ hR2 (by omega)).mono ?_; rintro e w2 ⟨⟨v, rfl⟩, hR3, hX3⟩; have hX4 := hX2.then hX3 (fun i h => by cases h); obtain ⟨er2, he2, hes2⟩ := hR3.err; have hes3 : (er2 == 0) = false := (by simpa using hes2); clear hes2)
            all_goals
              go_roundw
              case rel => exact ⟨none, 10, _, rfl, by go_num, by omega, hR3, hX4, Lib.hid (.inl ⟨rfl, hU.out⟩)⟩
              case measure => simp [intOf]
          · rw [h2]
            go_wp2_with (refine (fail_c g _ 2 _ hR2 (by omega)).mono ?_; rintro e w2 ⟨⟨v, rfl⟩, hR3, hX3⟩; have hX4 := hX2.then hX3 (fun i h => by cases h); obtain ⟨er2, he2, hes2⟩ := hR3.err; have hes3 : (er2 == 0) = false := (by simpa using hes2); clear hes2)
            all_goals
              go_roundw
              case rel => exact ⟨none, k + 1, _, rfl, by go_num, by omega, hR3, hX4, Lib.hid (.inl ⟨rfl, hU.out⟩)⟩
              case measure => simp [intOf]; omega
        · obtain ⟨er, he, hes⟩ := hR2.err
          obtain rfl : er = 0 := by simpa using hes
          clear hes
          by_cases h128 : x.toNat < 128
          · have hU : uintS (some l) = (m + 2 ^ (7 * k) * x.toNat, some l') := by
              simp only [uintS, hu.out, uAt, if_neg hbad, if_pos h128, Option.map_some]
            replace hU := Lib.hid hU
            clear hu
            by_cases hk9 : k = 9
            · subst hk9
              have hx1 : x.toNat = 1 := by omega
              have hv := Lib.hid (or_step m 1 9 (by omega) hm1.out (by omega) (fun _ => by omega))
              rw [hx1] at hU ⊢
              clear h128 hbad hx hx1
              go_wp2_with fail
              go_ret
              rw [hU.out]
              refine ⟨ret_int (k := .u64) ?_, hR2, hX2⟩
              simpa using hv.out
            · have hk9' : ((k : Int) == 9) = false := beq_eq_false_iff_ne.2 (by omega)
              have hv := Lib.hid (or_step m x.toNat k (by omega) hm1.out (by omega) (fun h => absurd h hk9))
              go_wp2_with fail
              all_goals
                go_ret
                rw [hU.out]
                refine ⟨ret_int (k := .u64) ?_, hR2, hX2⟩
                rw [Nat.mod_eq_of_lt h128] at hv
                exact hv.out
          · have hU : Hid (uAt 0 l = (uAt (k + 1) l').map fun p => (m + 2 ^ (7 * k) * (x.toNat % 128) + 2 ^ (7 * (k + 1)) * p.1, p.2)) := by
              show _ = _
              simp only [hu.out, uAt, if_neg hbad, if_neg h128, Option.map_map]
              congr 1
              funext p
              simp only [Function.comp, Prod.mk.injEq, and_true]
              rw [Nat.mul_add, show 7 * (k + 1) = 7 * k + 7 by omega, Nat.pow_add, show (2 : Nat) ^ 7 = 128 from rfl, Nat.mul_assoc]; omega
            clear hu
            have hk9 : k ≠ 9 := fun h => hbad (.inl ⟨h, by omega⟩)
            have hk9' : ((k : Int) == 9) = false := beq_eq_false_iff_ne.2 (by omega)
            have hv := Lib.hid (or_step m x.toNat k (by omega) hm1.out (by omega) (fun h => absurd h hk9))
            have hmm : Hid (m + 2 ^ (7 * k) * (x.toNat % 128) < 2 ^ (7 * (k + 1))) := by
              show _ < _
              rw [show 7 * (k + 1) = 7 * k + 7 by omega, Nat.pow_add]
              have := hm1.out
              have h2 : 2 ^ (7 * k) * (x.toNat % 128) ≤ 2 ^ (7 * k) * 127 := Nat.mul_le_mul_left _ (by omega)
              omega
            go_wp2_with fail
            all_goals
              go_roundw
              case rel => exact ⟨some l', k + 1, _, rfl, by go_num, by omega, hR2, hX2, Lib.hid (.inr ⟨_, _, _, hv.out, hmm.out, rfl, rfl, by omega, hU.out⟩)⟩
              case measure => simp [intOf]; omega
end Go.Proofs.YtnpnjcaomakehaaGreat
namespace Go.Proofs.YtnpnjcaomakehaaGreat
open Go.RowKit
theorem pow_step {i : Nat} (h : i < 9) : 2 ^ (64 - 7 * i) = 128 * 2 ^ (64 - 7 * (i + 1)) := by
  rw [show 64 - 7 * i = 7 + (64 - 7 * (i + 1)) by omega, Nat.pow_add]
theorem u8_ofNat (x : UInt8) {n : Nat} (h : n = x.toNat) : n.toUInt8 = x := by
  subst h; exact UInt8.toNat.inj (by simp)
theorem uAt_sound : ∀ (l : List UInt8) (i n : Nat) (r : List UInt8), i ≤ 9 → uAt i l = some (n, r) → l = uvar n ++ r ∧ n < 2 ^ (64 - 7 * i) ∧ (0 < i → 0 < n)
  | [], i, n, r, _, h => by simp [uAt] at h
  | x :: l, i, n, r, hi, h => by
    have hx := x.toNat_lt
    rw [uAt] at h
    split at h
    · cases h
    rename_i hbad
    split at h
    · rename_i h128
      cases h
      refine ⟨?_, ?_, fun h0 => ?_⟩
      · rw [uvar_small h128, u8_ofNat x rfl]; rfl
      · rcases Nat.lt_or_ge i 9 with h9 | h9
        · rw [pow_step h9]
          have : 0 < 2 ^ (64 - 7 * (i + 1)) := Nat.pos_of_ne_zero (by simp)
          omega
        · obtain rfl : i = 9 := by omega
          omega
      · omega
    · rename_i h128
      cases hu : uAt (i + 1) l with
      | none => rw [hu] at h; cases h
      | some p =>
        obtain ⟨m, r'⟩ := p
        rw [hu] at h
        simp only [Option.map_some, Option.some.injEq, Prod.mk.injEq] at h
        obtain ⟨rfl, rfl⟩ := h
        have h9 : i < 9 := by
          rcases Nat.lt_or_ge i 9 with h9 | h9
          · exact h9
          · omega
        obtain ⟨h1, h2, h3⟩ := uAt_sound l (i + 1) m r' (by omega) hu
        have h3 := h3 (by omega)
        refine ⟨?_, ?_, fun _ => by omega⟩
        · rw [uvar_big (by omega), show (x.toNat % 128 + 128 * m) / 128 = m by omega, List.cons_append, ← h1]
          rw [u8_ofNat x (by omega)]
        · rw [pow_step h9]; omega
theorem uAt_complete (n : Nat) : ∀ (i : Nat) (r : List UInt8), i ≤ 9 → n < 2 ^ (64 - 7 * i) → (0 < i → 0 < n) → uAt i (uvar n ++ r) = some (n, r) := by
  induction n using Nat.strongRecOn with
  | ind n ih =>
    intro i r hi hn h0
    by_cases h : n < 128
    · rw [uvar_small h, List.singleton_append, uAt]
      have e : n.toUInt8.toNat = n := by simp [Nat.toUInt8]; omega
      rw [e, if_neg, if_pos h]
      rintro (⟨rfl, h1⟩ | ⟨h1, h2⟩)
      · omega
      · have := h0 h1; omega
    · have h9 : i < 9 := by
        rcases Nat.lt_or_ge i 9 with h9 | h9
        · exact h9
        · obtain rfl : i = 9 := by omega
          omega
      rw [pow_step h9] at hn
      rw [uvar_big h, List.cons_append, uAt]
      have e : (n % 128 + 128).toUInt8.toNat = n % 128 + 128 := by simp [Nat.toUInt8]; omega
      rw [e, if_neg (by omega), if_neg (by omega), ih (n / 128) (by omega) (i + 1) r (by omega) (by omega) (by omega)]
      simp only [Option.map_some, Option.some.injEq, Prod.mk.injEq, and_true]
      omega
theorem uintS_some {l : List UInt8} {n : Nat} {r : List UInt8} : uintS (some l) = (n, some r) ↔ l = uvar n ++ r ∧ n < 18446744073709551616 := by
  constructor
  · intro h
    simp only [uintS] at h
    split at h
    · rename_i hu
      cases h
      have := uAt_sound _ _ _ _ (by omega) hu
      exact ⟨this.1, this.2.1⟩
    · cases h
  · rintro ⟨rfl, h⟩
    simp only [uintS]
    rw [uAt_complete n 0 r (by omega) (by simpa using h) (by omega)]
theorem uintS_lt (s : RS) : (uintS s).1 < 18446744073709551616 := by
  cases hs : uintS s with
  | mk n t =>
    cases t with
    | some r =>
      cases s with
      | none => cases hs
      | some l => exact (uintS_some.1 hs).2
    | none =>
      have : n = 0 := by
        cases s with
        | none => cases hs; rfl
        | some l =>
          simp only [uintS] at hs
          split at hs
          · cases hs
          · cases hs; rfl
      subst this; simp
abbrev unzig := Lib.unzigzag
theorem unzig_zig {n : Int} : unzig (zig n) = n := by
  unfold unzig zig Lib.unzigzag Lib.zigzag
  split <;> split <;> omega
theorem zig_unzig (z : Nat) : zig (unzig z) = z := by
  unfold unzig zig Lib.unzigzag Lib.zigzag
  split <;> split <;> omega
theorem unzig_i64 {z : Nat} (h : z < 18446744073709551616) : I64 (unzig z) := by
  unfold unzig Lib.unzigzag I64
  split <;> omega
theorem xor64_comm (a b : Int) : bits .xor .i64 a b = bits .xor .i64 b a := by
  show IntKind.i64.wrap ((BitVec.ofInt 64 a ^^^ BitVec.ofInt 64 b).toNat : Int) = IntKind.i64.wrap ((BitVec.ofInt 64 b ^^^ BitVec.ofInt 64 a).toNat : Int)
  rw [BitVec.xor_comm]
theorem xor64_zero (a : Nat) (h : a < 9223372036854775808) : bits .xor .i64 (a : Int) 0 = a := by
  show IntKind.i64.wrap ((BitVec.ofInt 64 (a : Int) ^^^ BitVec.ofInt 64 0).toNat : Int) = _
  rw [show BitVec.ofInt 64 0 = 0#64 from rfl, BitVec.xor_zero, BitVec.ofInt_natCast, BitVec.toNat_ofNat, Nat.mod_eq_of_lt (by omega)]
  unfold IntKind.wrap; simp [IntKind.bits, IntKind.signed]; omega
theorem unzig_c (z : Nat) (w : World) (h : z < 18446744073709551616) : Calls Tryz.prog 44 #[.int .u64 z] w (RetV w (.int .i64 (unzig z))) := by
  have ha := Lib.u64_and1 (z : Int) (by omega) (by omega)
  rcases Nat.mod_two_eq_zero_or_one z with h2 | h2
  · have hv : Hid (unzig z = ((z / 2 : Nat) : Int)) := by show _ = _; unfold unzig Lib.unzigzag; rw [if_pos h2]
    go_enter Tryz.func44, Tryz.ntmps44
    go_wp2_with fail
    go_ret
    refine ⟨ret_int (k := .i64) ?_, xE⟩
    rw [hv.out, show -((z : Int) % 2) = 0 by omega, show (z : Int) / 2 = ((z / 2 : Nat) : Int) by omega]
    exact xor64_zero _ (by omega)
  · have hv : Hid (unzig z = -((z / 2 : Nat) : Int) - 1) := by show _ = _; unfold unzig Lib.unzigzag; rw [if_neg (by omega)]
    go_enter Tryz.func44, Tryz.ntmps44
    go_wp2_with fail
    go_ret
    refine ⟨ret_int (k := .i64) ?_, xE⟩
    rw [hv.out, show -((z : Int) % 2) = -1 by omega, show (z : Int) / 2 = ((z / 2 : Nat) : Int) by omega, xor64_comm]
    exact Lib.i64_not _ (by omega)
def intS (s : RS) : Int × RS := (unzig (uintS s).1, (uintS s).2)
theorem intS_i64 (s : RS) : I64 (intS s).1 := unzig_i64 (uintS_lt s)
theorem rint_c {H : PH} (g : Nat) (s : RS) (w : World) (h : Rd H w g s) : Calls Tryz.prog 14 #[.pointer (some ⟨g, 0, none⟩)] w (RdP H w g (.int .i64 (intS s).1) (intS s).2) := by
  have hlt := uintS_lt s
  have hS : Hid (intS s = (unzig (uintS s).1, (uintS s).2)) := rfl
  go_enter Tryz.func14, Tryz.ntmps14
  go_wp2_with fail
  refine (ruint_c g s _ h).mono ?_
  rintro e w1 ⟨rfl, hR1, hX1⟩
  generalize (uintS s).1 = z at *
  generalize (uintS s).2 = t at *
  go_wp2_with fail
  refine (unzig_c z _ hlt).mono ?_
  rintro e w2 ⟨rfl, hb2⟩
  generalize unzig z = y at *
  go_wp2_with fail
  go_ret
  rw [hS.out]
  exact ⟨rfl, hR1.keep hb2, hX1.then (hb2.toW g none) (fun i h => by cases h)⟩
theorem intS_some {l : List UInt8} {n : Int} {r : List UInt8} : intS (some l) = (n, some r) ↔ l = encI n ++ r ∧ I64 n := by
  unfold intS encI
  constructor
  · intro h
    simp only [Prod.mk.injEq] at h
    have hz : uintS (some l) = ((uintS (some l)).1, some r) := Prod.ext rfl h.2
    have h1 := uintS_some.1 hz
    rw [← h.1, zig_unzig]
    exact ⟨h1.1, unzig_i64 h1.2⟩
  · rintro ⟨rfl, h⟩
    have hz := zig_le h
    have h1 : uintS (some (uvar (zig n) ++ r)) = (zig n, some r) := uintS_some.2 ⟨rfl, by omega⟩
    rw [h1]
    simp only [unzig_zig]
end Go.Proofs.YtnpnjcaomakehaaGreat
namespace Go.Proofs.YtnpnjcaomakehaaGreat
open Go.RowKit
def loopS {α : Type} (f : RS → α × RS) : Nat → RS → List α × RS
  | 0, s => ([], s)
  | _ + 1, none => ([], none)
  | n + 1, some l => ((f (some l)).1 :: (loopS f n (f (some l)).2).1, (loopS f n (f (some l)).2).2)
def lenS (s : RS) : Nat × RS := match uintS s with
  | (n, some r) => (n, if n ≤ r.length then some r else none)
  | (n, none) => (n, none)
def listS {α : Type} (f : RS → α × RS) (s : RS) : List α × RS :=
  (if (loopS f (lenS s).1 (lenS s).2).2.isSome then (loopS f (lenS s).1 (lenS s).2).1 else [], (loopS f (lenS s).1 (lenS s).2).2)
theorem OwnS.keepX {α : Type} {base : Nat} {H : PH} {w w' : World} {E : PH → List Value → α → Prop} {sz : Nat} {T : TypeId} {v : Value} {xs : List α} {g : Nat} (h : OwnS base H w E sz T v xs) (e : ExtW w w' g none) (hg : g < base) : OwnS base H w' E sz T v xs :=
  h.keepB (fun k hk => by have := h.lt k hk; exact e.block k this.2.1 (by omega) (by simp)) (fun k hk => (h.lt k hk).2.2) (fun _ _ h => h)
theorem loopS_none {α : Type} (f : RS → α × RS) (n : Nat) : loopS f n none = ([], none) := by cases n <;> rfl
theorem ExtW.grown {w0 w w' : World} {g : Nat} {row : Option Nat} (h : ExtW w0 w g none) (gr : w.grownBy w' row) (hr : ∀ k, row = some k → w0.heap.size ≤ k) : ExtW w0 w' g none :=
  ⟨gr.os.trans h.os, gr.tape.trans h.tape, gr.output.trans h.output, Nat.le_trans h.size gr.size, fun k hk hg hn => by
    rw [gr.block k (by have := h.size; omega) (fun e => by have := hr k e.symm; omega)]
    exact h.block k hk hg hn⟩
theorem Rd.bound {H : PH} {w : World} {g : Nat} {s : RS} (h : Rd H w g s) : ∀ k o, H k = some o → k < w.heap.size := by
  obtain ⟨a, n, c, er, l, h1, h2, h3, h4⟩ := h
  intro k o hk
  exact ph_lt (phX_ple g w k o (h3 k o hk))
theorem Rd.grown {H : PH} {w w' : World} {g B : Nat} {s : RS} {row : Option Nat} (h : Rd H w g s) (gr : w.grownBy w' row) (hr : ∀ k, row = some k → B ≤ k) (hg : g < B) (hH : ∀ k o, H k = some o → k < B) : Rd H w' g s := by
  have hgl := h.lt
  have hbd := h.bound
  obtain ⟨a, n, c, er, l, h1, h2, h3, h4⟩ := h
  have hne : ∀ k, k < B → some k ≠ row := fun k hk e => by have := hr k e.symm; omega
  refine ⟨a, n, c, er, l, ?_, h2, fun k o hk => ?_, h4⟩
  · unfold Own at *; rw [gr.block g hgl (hne g hg)]; exact h1
  · have h5 := h3 k o hk
    unfold phX at *
    split at h5
    · cases h5
    · rename_i hkg
      rw [if_neg hkg, gr.block k (hbd k o hk) (hne k (hH k o hk))]; exact h5
set_option maxRecDepth 100000 in
set_option maxHeartbeats 2000000 in
theorem ints_list_c {H : PH} (g : Nat) (s : RS) (w : World) (h : Rd H w g s) (hl : ∀ l, s = some l → l.length ≤ 1000000000) :
    Calls Tryz.prog 74 #[.pointer (some ⟨g, 0, none⟩), .func (.func 14) #[.pointer (some ⟨g, 0, none⟩)] #[]] w fun e w' => ∃ v, e = .returned v ∧ OwnS w.heap.size noH w' IntR 1 3 v (listS intS s).1 ∧ Rd H w' g (listS intS s).2 ∧ ExtW w w' g none := by
  have hg := h.lt
  have hHb := Lib.hid h.bound
  go_enter Tryz.func74, Tryz.ntmps74
  go_wp2_with fail
  refine (ruint_c g s _ h).mono ?_
  rintro e w1 ⟨rfl, hR1, hX1⟩
  have hlt := uintS_lt s
  have hLen : Hid (lenS s = match uintS s with
    | (n, some r) => (n, if n ≤ r.length then some r else none)
    | (n, none) => (n, none)) := rfl
  have hsuf : ∀ n r, uintS s = (n, some r) → r.length ≤ 1000000000 := by
    intro n r hu
    cases s with
    | none => cases hu
    | some l =>
      have := (uintS_some.1 hu).1
      have h2 := hl l rfl
      rw [this] at h2
      simp at h2; omega
  have hz : ∀ n, uintS s = (n, none) → n = 0 := by
    intro n hu
    cases s with
    | none => cases hu; rfl
    | some l =>
      simp only [uintS] at hu
      split at hu
      · cases hu
      · cases hu; rfl
  obtain ⟨n, t, hnt⟩ : ∃ n t, uintS s = (n, t) := ⟨_, _, rfl⟩
  rw [hnt] at hR1 hlt hLen ⊢
  simp only [] at hR1 hlt ⊢
  have hbox : ∃ a m c er r, Own w1 g #[.slice a m c, .int .i64 er] 76 ∧ m = r.length ∧ r.length ≤ 9223372036854775807 ∧ (t = some r ∧ er = 0 ∨ t = none ∧ er ≠ 0) := by
    obtain ⟨a, m, c, er, r, h1, h2, -, h3⟩ := hR1
    obtain ⟨a', c', e, h4, -⟩ := h2.form
    cases e
    exact ⟨a, _, c, er, r, h1, rfl, h4, h3⟩
  obtain ⟨a, m, c, er, r, hO, rfl, hrl, hter⟩ := hbox
  obtain ⟨hoc, hof⟩ := hO.facts
  have h0 := hoc 0
  simp at h0
  clear hoc hof hO
  replace hnt := Lib.hid hnt
  go_upto_if 17 with (fail)
  go_cut [5] (fun v wx => v = .int .u64 n ∧ ∃ s', Rd H wx g s' ∧ ExtW w wx g none ∧ Hid (lenS s = (n, s')) ∧ Hid (∀ r, s' = some r → n ≤ 1000000000))
  case first =>
    by_cases hc : r.length < n
    · have hLS : lenS s = (n, none) := by
        rcases hter with ⟨rfl, -⟩ | ⟨rfl, -⟩
        · rw [hLen.out]; simp only []; rw [if_neg (by omega)]
        · rw [hLen.out]
      go_wp2_with fail
      refine (fail_c g t 3 _ hR1 (by omega)).mono ?_
      rintro e w2 ⟨⟨v, rfl⟩, hR2, hX2⟩
      go_wp2_with fail
      go_meet
      case rel => exact ⟨rfl, none, hR2, hX1.then hX2 (fun i h => by cases h), Lib.hid hLS, Lib.hid (fun _ h => by cases h)⟩
    · have hLS : lenS s = (n, t) := by
        rcases hter with ⟨rfl, -⟩ | ⟨rfl, -⟩
        · rw [hLen.out]; simp only []; rw [if_pos (by omega)]
        · rw [hLen.out]
      go_wp2_with fail
      go_meet
      case rel => exact ⟨rfl, t, hR1, hX1, Lib.hid hLS, Lib.hid (fun r' h => by subst h; have := hsuf _ _ hnt.out; rcases hter with ⟨h, -⟩ | ⟨h, -⟩ <;> cases h; omega)⟩
  case rest =>
    clear hR1 hX1 hLen hz hsuf hter hrl h0 hnt h hl
    obtain ⟨rfl, s', hR, hX, hLS, hn⟩ := hcut
    go_wp2_with fail
    go_loopw [6, 7] (fun v i wr => ∃ (xs : List Int) (k : Nat) (s2 : RS), i = .int .u64 k ∧ OwnS w.heap.size noH wr IntR 1 3 v xs ∧ Rd H wr g s2 ∧ ExtW w wr g none ∧
        Hid (s2 = none ∧ (loopS intS n s').2 = none ∨ ∃ l, s2 = some l ∧ k ≤ n ∧ xs.length = k ∧ n ≤ 1000000000 ∧ loopS intS n s' = (xs ++ (loopS intS (n - k) s2).1, (loopS intS (n - k) s2).2))) (fun _ i _ => n + 1 - (intOf i).toNat)
    case atStart =>
      refine ⟨[], 0, s', rfl, OwnS.nil _ _ _ _ _ _, hR, hX, Lib.hid ?_⟩
      cases s' with
      | none => exact .inl ⟨rfl, by rw [loopS_none]⟩
      | some l => exact .inr ⟨l, rfl, by omega, rfl, hn.out l rfl, by simp⟩
    case round =>
      obtain ⟨xs, k, s2, rfl, hS, hR, hX, hs⟩ := hrel
      obtain ⟨er, he, hes⟩ := hR.err
      obtain ⟨va, vc, rfl, hvl⟩ := hS.form
      cases s2 with
      | none =>
        have hnone : Hid (listS intS s = ([], none)) := by
          show _ = _
          rcases hs.out with ⟨-, h⟩ | ⟨l, h, -⟩
          · unfold listS; rw [hLS.out]; simp only [h]; rfl
          · cases h
        have hes' : (er == 0) = false := by simpa using hes
        clear hes hs hS
        go_wp2_with fail
        all_goals
          go_ret
          rw [hnone.out]
          exact ⟨_, rfl, OwnS.nil _ _ _ _ _ _, hR, hX⟩
      | some l =>
        obtain rfl : er = 0 := by simpa using hes
        obtain ⟨hkn, hxk, hnb, heq⟩ : k ≤ n ∧ xs.length = k ∧ n ≤ 1000000000 ∧ loopS intS n s' = (xs ++ (loopS intS (n - k) (some l)).1, (loopS intS (n - k) (some l)).2) := by
          rcases hs.out with ⟨h, -⟩ | ⟨l2, h, h1⟩
          · cases h
          · exact h1
        clear hs hes
        replace heq := Lib.hid heq
        subst hxk
        by_cases hlt2 : xs.length < n
        · go_wp2_with fail
          refine (rint_c g _ _ hR).mono ?_
          rintro e w3 ⟨rfl, hR3, hX3⟩
          have hS3 := hS.keepX hX3 hg
          have hX4 := hX.then hX3 (fun i h => by cases h)
          have hst : Hid (loopS intS n s' = ((xs ++ [(intS (some l)).1]) ++ (loopS intS (n - (xs.length + 1)) (intS (some l)).2).1, (loopS intS (n - (xs.length + 1)) (intS (some l)).2).2)) := by
            show _ = _
            rw [heq.out, show n - xs.length = (n - (xs.length + 1)) + 1 by omega]
            simp [loopS]
          have hE : IntR noH [.int .i64 (intS (some l)).1] (intS (some l)).1 := ⟨rfl, intS_i64 _⟩
          clear heq hS hX hX3 he
          generalize (intS (some l)).1 = x at *
          generalize (intS (some l)).2 = s3 at *
          have hb4 : w.heap.size ≤ w3.heap.size := hX4.size
          go_wp2_with (at_builtin; refine wpList_append_S (E := IntR) (H := noH) (base := w.heap.size) (ys := [x]) rfl _ _ 22 3 rfl (.int .i64 0) 8 Tryz.underlying22 infoInt rfl rfl rfl (hS3.keep xE) (Src.lit1 hE rfl (fun j => by simp [go_sem])) (noH_le _) ?c2 one_IntR ?c3 ?c4 ?c5)
          case c2 => simp; omega
          case c3 => simp; omega
          case c4 => simp; omega
          case c5 =>
            intro l' w4 hl1 hg1 hn1
            have hro : ∀ k, (Value.slice va xs.length vc).ownBlock = some k → w.heap.size ≤ k := fun k hk => (hS3.lt k hk).1
            have hX5 := (hX4.then ((Ext.new w3 (.cells #[.int .i64 x] 3)).toW g none) (fun i h => by cases h)).grown hg1 hro
            have hR5 := (hR3.keep (Ext.new w3 (.cells #[.int .i64 x] 3))).grown hg1 hro hg hHb.out
            clear hg1 hn1 hS3 hR3 hX4 hR
            go_wp2_with fail
            go_roundw
            case rel =>
              refine ⟨xs ++ [x], xs.length + 1, s3, by go_num, hl1, hR5, hX5, Lib.hid ?_⟩
              cases s3 with
              | none => exact .inl ⟨rfl, by rw [hst.out, loopS_none]⟩
              | some l3 => exact .inr ⟨l3, rfl, by omega, by simp, hnb, hst.out⟩
            case measure => simp [intOf]; omega
        · have hkn2 : xs.length = n := by omega
          have hdone : Hid (listS intS s = (xs, some l)) := by
            show _ = _
            unfold listS; rw [hLS.out]; simp only [heq.out, hkn2, Nat.sub_self, loopS]; simp
          clear heq
          go_wp2_with fail
          go_ret
          rw [hdone.out]
          exact ⟨_, rfl, hS, hR, hX⟩
theorem rints_c {H : PH} (g : Nat) (s : RS) (w : World) (h : Rd H w g s) (hl : ∀ l, s = some l → l.length ≤ 1000000000) :
    Calls Tryz.prog 35 #[.pointer (some ⟨g, 0, none⟩)] w fun e w' => ∃ v, e = .returned v ∧ OwnS w.heap.size noH w' IntR 1 3 v (listS intS s).1 ∧ Rd H w' g (listS intS s).2 ∧ ExtW w w' g none := by
  go_enter Tryz.func35, Tryz.ntmps35
  go_wp2_with fail
  refine (ints_list_c g s _ h hl).mono ?_
  rintro e w1 ⟨v, rfl, hS, hR, hX⟩
  obtain ⟨a, c, rfl, hlen⟩ := hS.form
  generalize hn : (listS intS s).1.length = n at *
  go_wp2_with fail
  go_ret
  exact ⟨_, rfl, hS, hR, hX⟩
theorem rend_c {H : PH} (g : Nat) (s : RS) (w : World) (h : Rd H w g s) (hl : ∀ l, s = some l → l.length ≤ 1000000000) :
    Calls Tryz.prog 37 #[.pointer (some ⟨g, 0, none⟩)] w fun e w' => ∃ n : Int, e = .returned (.int .i64 n) ∧ (n = 0 ↔ s = some []) ∧ Ext w w' := by
  obtain ⟨a, m, c, er, l, hO, hB, -, hs⟩ := h
  obtain ⟨hoc, hof⟩ := hO.facts
  have h0 := hoc 0
  have h1 := hoc 1
  simp at h0 h1
  clear hoc hof
  obtain ⟨a', c', e, hll, -⟩ := hB.form
  cases e
  go_enter Tryz.func37, Tryz.ntmps37
  rcases hs with ⟨rfl, rfl⟩ | ⟨rfl, hne⟩
  · cases l with
    | nil =>
      go_wp2_with fail
      go_ret
      exact ⟨_, rfl, by simp, xE⟩
    | cons x l =>
      have hp : 0 < (l.length : Int) + 1 := by omega
      go_wp2_with fail
      go_ret
      exact ⟨_, rfl, by simp, xE⟩
  · have hne' : (er == 0) = false := by simpa using hne
    go_wp2_with fail
    go_ret
    exact ⟨_, rfl, by simp [hne], xE⟩
end Go.Proofs.YtnpnjcaomakehaaGreat
namespace Go.Proofs.YtnpnjcaomakehaaGreat
open Go.RowKit
theorem Src.noB {w : World} {H : PH} {v : Value} {xs : List UInt8} (h : Src w H ByteR 1 v xs) : Src w noH ByteR 1 v xs := by
  obtain ⟨a, cap, h1, h2, h3⟩ := h
  refine ⟨a, cap, h1, h2, ?_⟩
  rcases h3 with h3 | ⟨ad, c, h4, h5, h6⟩
  · exact .inl h3
  · exact .inr ⟨ad, c, h4, Cells.mono (h := H) (h' := noH) (fun _ _ h => h) h5, h6⟩
theorem rread_c (vs : Value) (xs : List UInt8) (w : World) (hs : BytesR (ph w) vs xs) (hlen : xs.length ≤ 2000000000) :
    Calls Tryz.prog 13 #[vs] w fun e w' => ∃ H g, e = .returned (.pointer (some ⟨g, 0, none⟩)) ∧ w.heap.size ≤ g ∧ Rd H w' g (some xs) ∧ Ext w w' := by
  obtain ⟨a, c, rfl, -, hs⟩ := hs.form
  go_enter Tryz.func13, Tryz.ntmps13
  go_wp2_with fail
  refine (clone_c _ xs _ (Src.ofRep hs (PLe.refl _)).noB hlen).mono ?_
  rintro e w1 ⟨v, rfl, hS, hb1⟩
  have hB := hS.rep mono_ByteR (noH_le _)
  obtain ⟨a1, c1, rfl, hll⟩ := hS.form
  clear hS
  go_wp2_with fail
  go_ret
  refine ⟨ph w1, w1.heap.size, rfl, hb1.size, ⟨a1, xs.length, c1, 0, xs, Own.new _ _ _, hB, fun k o hk => ?_, .inl ⟨rfl, rfl⟩⟩, xE⟩
  have hlt := ph_lt hk
  unfold phX
  rw [if_neg (by omega)]
  show (w1.alloc _).heap[k]? = _
  rw [(Ext.new w1 _).block k hlt]; exact hk
end Go.Proofs.YtnpnjcaomakehaaGreat
namespace Go.Proofs.YtnpnjcaomakehaaGreat
open Go.RowKit
theorem loopI_some (n : Nat) : ∀ (b : List UInt8) (xs : List Int) (r : List UInt8), loopS intS n (some b) = (xs, some r) ↔ xs.length = n ∧ b = encL xs ++ r ∧ ∀ x ∈ xs, I64 x := by
  induction n with
  | zero =>
    intro b xs r
    constructor
    · intro h; cases h; exact ⟨rfl, rfl, by simp⟩
    · rintro ⟨h1, h2, -⟩
      obtain rfl : xs = [] := List.eq_nil_of_length_eq_zero h1
      rw [h2]; rfl
  | succ n ih =>
    intro b xs r
    constructor
    · intro h
      rw [loopS] at h
      cases hp : intS (some b) with
      | mk x t =>
        rw [hp] at h
        simp only [Prod.mk.injEq] at h
        obtain ⟨rfl, h2⟩ := h
        cases t with
        | none => rw [loopS_none] at h2; cases h2
        | some b' =>
          obtain ⟨h4, h5⟩ := intS_some.1 hp
          obtain ⟨h6, h7, h8⟩ := (ih b' (loopS intS n (some b')).1 r).1 (Prod.ext rfl h2)
          refine ⟨by simp [h6], ?_, fun y hy => ?_⟩
          · rw [encL, List.flatMap_cons, List.append_assoc, h4]
            congr 1
          · rcases List.mem_cons.1 hy with rfl | hy
            · exact h5
            · exact h8 y hy
    · rintro ⟨h1, h2, h3⟩
      cases xs with
      | nil => simp at h1
      | cons x xs =>
        have h4 : intS (some b) = (x, some (encL xs ++ r)) := intS_some.2 ⟨by rw [h2, encL, encL, List.flatMap_cons, List.append_assoc], h3 x (by simp)⟩
        have h5 := (ih (encL xs ++ r) xs r).2 ⟨by simpa using h1, rfl, fun y hy => h3 y (by simp [hy])⟩
        rw [loopS, h4]
        simp only [h5]
theorem encI_pos (n : Int) : 1 ≤ (encI n).length := Lib.uvarint_pos _
theorem encL_ge (l : List Int) : l.length ≤ (encL l).length := by
  induction l with
  | nil => simp
  | cons x l ih =>
    have := encI_pos x
    rw [encL, List.flatMap_cons]
    simp only [List.length_cons, List.length_append]
    unfold encL at ih
    omega
theorem listI_some {b : List UInt8} {xs : List Int} {r : List UInt8} : listS intS (some b) = (xs, some r) ↔ b = encInts xs ++ r ∧ (∀ x ∈ xs, I64 x) ∧ xs.length < 18446744073709551616 := by
  unfold listS
  constructor
  · intro h
    simp only [Prod.mk.injEq] at h
    obtain ⟨h1, h2⟩ := h
    rw [h2] at h1
    simp only [Option.isSome_some, if_true] at h1
    unfold lenS at h1 h2
    cases hu : uintS (some b) with
    | mk n t =>
      rw [hu] at h1 h2
      cases t with
      | none => simp only [loopS_none] at h2; cases h2
      | some r' =>
        simp only [] at h1 h2
        split at h2
        · rename_i hle
          rw [if_pos hle] at h1
          obtain ⟨g1, g2, g3⟩ := (loopI_some n r' xs r).1 (Prod.ext h1 h2)
          obtain ⟨g4, g5⟩ := uintS_some.1 hu
          refine ⟨?_, g3, by omega⟩
          rw [g4, g2, encInts, g1, List.append_assoc]
        · rw [loopS_none] at h2; cases h2
  · rintro ⟨rfl, h1, h2⟩
    have hu : uintS (some (encInts xs ++ r)) = (xs.length, some (encL xs ++ r)) := uintS_some.2 ⟨by rw [encInts, List.append_assoc], h2⟩
    have hle : xs.length ≤ (encL xs ++ r).length := by have := encL_ge xs; simp; omega
    have hL : lenS (some (encInts xs ++ r)) = (xs.length, some (encL xs ++ r)) := by
      unfold lenS; rw [hu]; simp only [if_pos hle]
    rw [hL, (loopI_some xs.length (encL xs ++ r) xs r).2 ⟨rfl, rfl, h1⟩]
    rfl
theorem listI_none : listS intS none = ([], none) := by
  unfold listS lenS uintS
  simp [loopS_none]
def Small (s : RS) : Prop := ∀ l, s = some l → l.length ≤ 1000000000
theorem small_int {s : RS} (h : Small s) : Small (intS s).2 := by
  intro r hr
  cases s with
  | none => cases hr
  | some b =>
    have h1 := (intS_some (n := (intS (some b)).1) (r := r)).1 (Prod.ext rfl hr)
    have h2 := h b rfl
    rw [h1.1] at h2
    simp at h2; omega
theorem small_list {s : RS} (h : Small s) : Small (listS intS s).2 := by
  intro r hr
  cases s with
  | none => rw [listI_none] at hr; cases hr
  | some b =>
    have h1 := (listI_some (xs := (listS intS (some b)).1) (r := r)).1 (Prod.ext rfl hr)
    have h2 := h b rfl
    rw [h1.1] at h2
    simp at h2; omega
end Go.Proofs.YtnpnjcaomakehaaGreat
namespace Go.Proofs.YtnpnjcaomakehaaGreat
open Go.RowKit
def MemX (n : Nat) (L : List Chunk) (H : PH) (w : World) : Prop := ∃ w0, w0.heap.size = n ∧ Mem w0 noH L H w
theorem MemX.start (w : World) : MemX w.heap.size [] noH w := ⟨w, rfl, Mem.start w noH (noH_le _)⟩
theorem MemX.reader {n : Nat} {L : List Chunk} {H : PH} {w w' : World} {g : Nat} (h : MemX n L H w) (e : ExtW w w' g none) (hg : g < n) : MemX n L H w' := by
  obtain ⟨w0, rfl, hM⟩ := h
  have hgl : g < w.heap.size := Nat.lt_of_lt_of_le hg hM.ex.size
  have hgl' : g < w'.heap.size := Nat.lt_of_lt_of_le hgl e.size
  refine ⟨{ w0 with heap := w0.heap.setIfInBounds g w'.heap[g] }, by simp, ?_⟩
  have hne : ∀ {i : Nat} {c : Chunk}, L[i]? = some c → ∀ k, c.foot = some k → k ≠ g := fun hi k hk => by have := (hM.fr _ _ hi k hk).1; omega
  have hHg : ∀ k o, H k = some o → w0.heap.size ≤ k := by
    intro k o hk
    have := hM.ub k o hk
    unfold up at this
    split at this
    · cases this
    · omega
  have hex : Ext { w0 with heap := w0.heap.setIfInBounds g w'.heap[g] } w' := by
    refine ⟨e.os.trans hM.ex.os, e.tape.trans hM.ex.tape, e.output.trans hM.ex.output, by simpa using Nat.le_trans hM.ex.size e.size, fun k hk => ?_⟩
    have hk' : k < w0.heap.size := by simpa using hk
    show w'.heap[k]? = (w0.heap.setIfInBounds g w'.heap[g])[k]?
    by_cases hkg : g = k
    · subst hkg
      rw [Array.getElem?_setIfInBounds_self_of_lt hk']; simp [hgl']
    · rw [Array.getElem?_setIfInBounds_ne hkg, e.block k (Nat.lt_of_lt_of_le hk' hM.ex.size) (fun h => hkg h.symm) (by simp)]
      exact hM.ex.block k hk'
  refine ⟨noH_le _, hM.le, fun k o hk => ?_, hex, fun i c hi => c.loc (hM.ok i c hi) fun k hk => e.block k (hM.lt hi hk) (hne hi k hk) (by simp), fun i c hi k hk => ⟨by simpa using (hM.fr i c hi k hk).1, (hM.fr i c hi k hk).2⟩, hM.ap⟩
  have h1 := hM.ub k o hk
  have h2 := hHg k o hk
  unfold up at h1 ⊢
  rw [if_neg (by omega)] at h1
  rw [if_neg (by simp; omega)]
  show w'.heap[k]? = some o
  rw [e.block k (ph_lt h1) (by omega) (by simp)]; exact h1
theorem MemX.step {n : Nat} {L L' : List Chunk} {H H' : PH} {w w' : World} (h : MemX n L H w) (f : ∀ w0, Mem w0 noH L H w → Mem w0 noH L' H' w') : MemX n L' H' w' := by
  obtain ⟨w0, h1, h2⟩ := h
  exact ⟨w0, h1, f w0 h2⟩
theorem MemX.take {α : Type} {E : PH → List Value → α → Prop} {sz : Nat} {T : TypeId} {v : Value} {xs : List α} {n : Nat} {L : List Chunk} {H : PH} {w w' : World} {g : Nat} (h : MemX n L H w) (e : ExtW w w' g none) (hg : g < n) (ho : OwnS w.heap.size noH w' E sz T v xs) (hm : Mono E) :
    MemX n (L ++ [own hm sz T v xs]) H w' := by
  have h1 := h.reader e hg
  obtain ⟨w0, hn, hM⟩ := h
  obtain ⟨w1, hn1, hM1⟩ := h1
  refine ⟨w1, hn1, hM1.add _ ((own hm sz T v xs).mono ho.c (noH_le H)) fun k hk => ?_⟩
  have h3 := ho.lt k hk
  refine ⟨by have := hM.ex.size; omega, fresh_none hM.ple h3.1, fun i d hi he => ?_⟩
  have := hM.lt hi he
  omega
end Go.Proofs.YtnpnjcaomakehaaGreat
namespace Go.Proofs.YtnpnjcaomakehaaGreat
open Go.RowKit
theorem Mem.same {w0 w3 w5 : World} {L L' : List Chunk} {H H' : PH} (h3 : Mem w0 noH L H w3) (h5 : Mem w0 noH L' H' w5) : ∀ k, k < w0.heap.size → w5.heap[k]? = w3.heap[k]? := by
  intro k hk
  rw [h5.ex.block k hk, h3.ex.block k hk]
theorem Mem.rd {w0 w3 w5 : World} {L L' : List Chunk} {H H' HR : PH} {g : Nat} {s : RS} (h3 : Mem w0 noH L H w3) (h5 : Mem w0 noH L' H' w5) (hR : Rd HR w3 g s) (hb : ∀ k o, HR k = some o → k < w0.heap.size) (hg : g < w0.heap.size) : Rd HR w5 g s := by
  have hs := h3.same h5
  obtain ⟨a, n, c, er, l, q1, q2, q3, q4⟩ := hR
  refine ⟨a, n, c, er, l, ?_, q2, fun k o hk => ?_, q4⟩
  · unfold Own at *; rw [hs g hg]; exact q1
  · have h := q3 k o hk
    unfold phX at *
    split at h
    · cases h
    · rename_i hk'
      rw [if_neg hk', hs k (hb k o hk)]; exact h
def rdSys (HR : PH) (L : List Chunk) (n g : Nat) (W : World) (ch : List Nat) (st : Nat → RS) : Ph.Sys where
  G := fun c w' => MemX n L noH w' ∧ Rd HR w' g (st c) ∧ ExtW W w' g none
  L := fun w w' => ExtW w w' g none
  ch := ch
  ext := fun h => h.toW g none
  gext := fun h e => ⟨h.1.step (fun w0 m => m.ext e), h.2.1.keep e, h.2.2.then (e.toW g none) (fun i hi => by cases hi)⟩
  size := fun h => h.size
end Go.Proofs.YtnpnjcaomakehaaGreat
namespace Go.Proofs.YtnpnjcaomakehaaGreat
open Go.RowKit
def byteV (b : UInt8) : Value := .int .u8 b.toNat
theorem cells_byteV {h : PH} : ∀ {xs : List UInt8} {c : List Value}, Cells h ByteR 1 c xs ↔ c = xs.map byteV
  | [], c => by simp [Cells]
  | x :: xs, c => by
    constructor
    · rintro ⟨cs, rest, rfl, h1, h2, h3⟩
      cases h2
      rw [cells_byteV.1 h3]; rfl
    · rintro rfl
      exact ⟨[byteV x], xs.map byteV, rfl, rfl, rfl, cells_byteV.2 rfl⟩
theorem infoB' : ∃ i, Tryz.prog.info? 5 = some i ∧ i.zero = some (.int .u8 0) ∧ i.size = 1 ∧ i.bytes = 1 := by
  have h := infoByte
  obtain ⟨i, hi, h0, h1, h2⟩ := info_parts h
  exact ⟨i, hi, h0, h1, h2⟩
def isB (o : Option Value) : Prop := ∃ x : UInt8, o = some (byteV x)
def AnyB (base n : Nat) (v : Value) (w : World) : Prop := (v = .slice none 0 0 ∧ n = 0) ∨
  ∃ g cap cur, v = .slice (some ⟨g, 0, none⟩) n cap ∧ base ≤ g ∧ w.heap[g]? = some (.cells cur 5 (0, 0)) ∧ n ≤ cap ∧ cap ≤ maxLen ∧ cur.size = cap ∧ ∀ j : Nat, j < n → isB cur[j]?
structure Lb (base : Nat) (w w' : World) : Prop where
  os : w'.os = w.os
  tape : w'.tape = w.tape
  output : w'.output = w.output
  size : w.heap.size ≤ w'.heap.size
  block : ∀ k, k < w.heap.size → w'.heap[k]? = w.heap[k]? ∨ (base ≤ k ∧ ∃ (c c' : Array Value), w.heap[k]? = some (.cells c 5 (0, 0)) ∧ w'.heap[k]? = some (.cells c' 5 (0, 0)) ∧ c'.size = c.size ∧ ∀ j : Nat, isB c[j]? → isB c'[j]?)
theorem Lb.ofExt {base : Nat} {w w' : World} (h : Ext w w') : Lb base w w' := ⟨h.os, h.tape, h.output, h.size, fun k hk => .inl (h.block k hk)⟩
theorem Lb.ext {W w w' : World} (h : Ext W w) (k : Lb W.heap.size w w') : Ext W w' :=
  ⟨k.os.trans h.os, k.tape.trans h.tape, k.output.trans h.output, Nat.le_trans h.size k.size, fun i hi => by
    rcases k.block i (by have := h.size; omega) with h1 | ⟨h1, -⟩
    · rw [h1]; exact h.block i hi
    · omega⟩
theorem AnyB.keep {base n : Nat} {v : Value} {w w' : World} (h : AnyB base n v w) (k : Lb base w w') : AnyB base n v w' := by
  rcases h with h | ⟨g, cap, cur, h1, h2, h3, h4, h5, h6, h7⟩
  · exact .inl h
  · rcases k.block g (Array.getElem?_eq_some_iff.1 h3).1 with h8 | ⟨-, c, c', q1, q2, q3, q4⟩
    · exact .inr ⟨g, cap, cur, h1, h2, by rw [h8]; exact h3, h4, h5, h6, h7⟩
    · rw [h3] at q1; cases q1
      exact .inr ⟨g, cap, c', h1, h2, q2, h4, h5, by omega, fun j hj => q4 j (h7 j hj)⟩
theorem AnyB.ofOwn {base : Nat} {v : Value} {w : World} {xs : List UInt8} (h : OwnS base noH w ByteR 1 5 v xs) : AnyB base xs.length v w := by
  rcases h with ⟨rfl, rfl⟩ | ⟨g, cap, cur, rfl, h1, h2, h3, h4, h5, h6, h7⟩
  · exact .inl ⟨rfl, rfl⟩
  · refine .inr ⟨g, cap, cur, rfl, h1, h3, h4, h5, by omega, fun j hj => ?_⟩
    rw [cells_byteV] at h7
    have h8 : (cur.toList.take (xs.length * 1))[j]? = some (byteV xs[j]) := by rw [h7]; simp [hj]
    rw [List.getElem?_take, if_pos (by omega)] at h8
    exact ⟨xs[j], by simpa using h8⟩
theorem anyB_list : ∀ (n : Nat) (c : List Value), (∀ j, j < n → isB c[j]?) → ∃ xs : List UInt8, xs.length = n ∧ c.take n = xs.map byteV
  | 0, c, _ => ⟨[], rfl, by simp⟩
  | n + 1, c, h => by
    obtain ⟨x, hx⟩ := h 0 (by omega)
    cases c with
    | nil => simp at hx
    | cons a c =>
      obtain ⟨xs, h1, h2⟩ := anyB_list n c fun j hj => by simpa using h (j + 1) (by omega)
      refine ⟨x :: xs, by simp [h1], ?_⟩
      simp at hx
      rw [List.take_succ_cons, h2, hx]; rfl
theorem AnyB.own {base n : Nat} {v : Value} {w : World} (h : AnyB base n v w) : ∃ xs, xs.length = n ∧ OwnS base noH w ByteR 1 5 v xs := by
  rcases h with ⟨rfl, rfl⟩ | ⟨g, cap, cur, rfl, h1, h3, h4, h5, h6, h7⟩
  · exact ⟨[], rfl, OwnS.nil _ _ _ _ _ _⟩
  · obtain ⟨xs, h8, h9⟩ := anyB_list n cur.toList fun j hj => by simpa using h7 j hj
    subst h8
    exact ⟨xs, rfl, .inr ⟨g, cap, cur, rfl, h1, rfl, h3, h4, h5, by omega, by rw [cells_byteV, Nat.mul_one]; exact h9⟩⟩
theorem AnyB.rep {base n : Nat} {v : Value} {w : World} (h : AnyB base n v w) : ∃ xs, xs.length = n ∧ BytesR (ph w) v xs := by
  obtain ⟨xs, h1, h2⟩ := h.own
  exact ⟨xs, h1, h2.rep mono_ByteR (noH_le _)⟩
theorem AnyB.form {base n : Nat} {v : Value} {w : World} (h : AnyB base n v w) : ∃ a cap, v = .slice a n cap := by
  rcases h with ⟨rfl, rfl⟩ | ⟨g, cap, cur, rfl, -⟩
  · exact ⟨none, 0, rfl⟩
  · exact ⟨_, cap, rfl⟩
section
variable {P : Program}
theorem run_append_any {base : Nat} {w : World} (t ty : TypeId) (i : TypeInfo)
    (ht : P.underlying t = some (.slice 5)) (hi : P.info? 5 = some i) (hz : i.zero = some (.int .u8 0)) (hsz : i.size = 1) (hby : i.bytes = 1)
    {v vx : Value} {n : Nat} {ys : List UInt8} (hown : AnyB base n v w) (hsrc : Src w noH ByteR 1 vx ys) (hb : base ≤ w.heap.size) (hcnt : n + ys.length ≤ 1000000000) :
    ∃ v' w', (Builtin.append_ #[t, t] ty #[v, vx]).run P w = .ok v' w' ∧ AnyB base (n + ys.length) v' w' ∧ Lb base w w' := by
  obtain ⟨xs, hxl, hown2⟩ := hown.own
  subst hxl
  clear hown
  have hown := hown2
  clear hown2
  obtain ⟨v', w', hr, ho, hg, hk⟩ := run_append_S (P := P) (w := w) (H := noH) (base := base) (E := ByteR) (sz := 1) t ty 5 i (.int .u8 0) 1 ht hi hz hsz hby rfl hown hsrc (noH_le _) hb one_ByteR (by omega) (by omega)
  refine ⟨v', w', hr, by simpa using AnyB.ofOwn ho, ⟨hg.os, hg.tape, hg.output, hg.size, fun k hkw => ?_⟩⟩
  rcases hown with ⟨rfl, rfl⟩ | ⟨g, cap, cur, rfl, h1, h2, h3, h4, h5, h6, h7⟩
  · exact .inl (hg.block k hkw (by simp [Value.ownBlock]))
  · by_cases hkg : k = g
    · subst hkg
      obtain ⟨a, cap', rfl, hcap', hsrc⟩ := hsrc
      by_cases hy : ys = []
      · subst hy
        have hr2 := run_append_zero (P := P) (w := w) t ty 5 i ht hi (some ⟨k, 0, none⟩) xs.length cap h4 a cap'
        have hr3 := hr.symm.trans hr2
        cases hr3
        exact .inl rfl
      · rcases hsrc with h | ⟨ad, news, rfl, hnews, hcell⟩
        · exact absurd h hy
        have hlen := hnews.length
        have hpos : 0 < ys.length := List.length_pos_iff.2 hy
        by_cases hroom : xs.length + ys.length ≤ cap
        · have hfit : xs.length * i.size + news.length ≤ cur.size := by rw [hlen, h6, hsz]; omega
          rw [run_append_room (P := P) w t ty 5 i ht hi k xs.length cap cur h3 ad ys.length cap' news (by rw [hsz]; exact hlen) hcell (hnews.one one_ByteR) hroom hfit] at hr
          cases hr
          refine .inr ⟨h1, cur, _, h3, setRow_heap w k cur _ _ _ h3, ?_, fun j hj => ?_⟩
          · simp only [List.size_toArray, List.length_append, List.length_take, List.length_drop, Array.length_toList]
            omega
          · rw [cells_byteV] at hnews
            have hnl : news.length = ys.length := by omega
            have hjs : j < cur.size := by
              obtain ⟨x, hx⟩ := hj
              exact (Array.getElem?_eq_some_iff.1 hx).1
            simp only [List.getElem?_toArray, hsz, Nat.mul_one]
            by_cases q1 : j < xs.length
            · rw [List.append_assoc, List.getElem?_append_left (by simp; omega), List.getElem?_take, if_pos q1]
              simpa using hj
            · by_cases q2 : j < xs.length + ys.length
              · rw [List.getElem?_append_left (by simp; omega), List.getElem?_append_right (by simp; omega), hnews]
                refine ⟨ys[j - xs.length], ?_⟩
                have e : j - (cur.toList.take xs.length).length = j - xs.length := by simp; omega
                rw [e]
                simp [show j - xs.length < ys.length by omega]
              · rw [List.getElem?_append_right (by simp; omega), List.getElem?_drop]
                have e : xs.length + news.length + (j - (cur.toList.take xs.length ++ news).length) = j := by simp; omega
                rw [e]
                simpa using hj
        · have holds : ∀ j u, (cur.toList.take (xs.length * i.size))[j]? = some u → w.cell? ((⟨k, 0, none⟩ : Addr).add j) = some u := by
            intro j u hu
            rw [add0, cell_of_row w k j cur 5 (0, 0) h3]
            rw [List.getElem?_take] at hu
            split at hu
            · simpa using hu
            · cases hu
          rw [run_append_grow (P := P) w t ty 5 i (.int .u8 0) ht hi hz ⟨k, 0, none⟩ xs.length cap _ (by rw [hsz]; exact h7.length) holds ad ys.length cap' news (by rw [hsz]; exact hlen) hcell (by omega) (by omega) (growslice_fits (by omega) (by rw [hby]; omega))] at hr
          cases hr
          exact .inl (Below.heap_alloc w.drew _ k hkw)
    · exact .inl (hg.block k hkw (by simp [Value.ownBlock]; exact hkg))
end
theorem AnyB.set {base n c : Nat} {a : Option Addr} {w : World} (h : AnyB base n (.slice a n c) w) (k : Nat) (hk : k < n) (x : UInt8) : ∃ g, a = some ⟨g, 0, none⟩ ∧ base ≤ g ∧ g < w.heap.size ∧ (∃ u, w.cell? ⟨g, k, none⟩ = some u) ∧ w.frozen? ⟨g, k, none⟩ = false ∧ AnyB base n (.slice a n c) (w.setCell ⟨g, k, none⟩ (byteV x)) := by
  rcases h with ⟨h1, rfl⟩ | ⟨g, cap, cur, h1, h2, h3, h4, h5, h6, h7⟩
  · omega
  · cases h1
    have hO : Own w g cur 5 := h3
    obtain ⟨y, hy⟩ := h7 k hk
    refine ⟨g, rfl, h2, hO.lt, ⟨byteV y, by rw [hO.facts.1]; exact hy⟩, hO.facts.2 k, .inr ⟨g, c, cur.setIfInBounds k (byteV x), rfl, h2, hO.set k _, h4, h5, by simpa using h6, fun j hj => ?_⟩⟩
    by_cases e : k = j
    · subst e
      exact ⟨x, by rw [Array.getElem?_setIfInBounds_self_of_lt (by omega)]⟩
    · rw [Array.getElem?_setIfInBounds_ne e]; exact h7 j hj
def byteSys (W : World) : Ph.Sys where
  G := fun _ w => Ext W w
  L := fun w w' => Lb W.heap.size w w'
  ch := []
  ext := fun h => Lb.ofExt h
  gext := fun h e => h.then e
  size := fun h => h.size
theorem Ph.walkI_stepL {P : Program} {ops : Array Oper} {D : List Tmp} {S : Ph.Sys} {a : Act} {K : Act → World → Prop} {o : Oper} {rest : List Oper} {E : Env} {d : Tmp} (R : Prop1) (hd : o.dst = some d) (hl : d < a.tmps.size) (hg : o.guard = none) (hs : Ph.Stable S R)
    (hr : ∀ A w c, S.G c w → knows A a w E o.op.operands.toList → ∀ K : Act → World → Prop, (∀ v w', S.L w w' → S.G c w' → R v w' → K (A.put (some d) v) w') → o.wp P A w K (fun _ _ _ => False))
    (h : Ph.walkI P ops D S a K rest (E ++ [(d, R)])) (hn : d ∉ D := by simp) (hi : E.length ∉ S.ch := by simp) : Ph.walkI P ops D S a K (o :: rest) E :=
  ⟨d, R, hd, hl, hs, .inl ⟨hg, by
    unfold Ph.RunsI; rw [hd]
    exact fun A w c h1 _ h2 K hK => hr A w c h1 h2 K fun v w' h3 h4 h5 => hK v w' h3 (by rw [if_neg hi]; exact h4) h5 fun e he hde => by cases hde; exact absurd he hn⟩, h⟩
theorem oper_append_any {P : Program} {o : Oper} {A : Act} {K : Act → World → Prop} {Q : Exit → Act → World → Prop} (s x : Operand) (t : TypeId) (ho : o.op = .call { callee := .builtin .append, args := #[s, x], argTypes := #[t, t] })
    {base : Nat} {w : World} (i : TypeInfo) (ht : P.underlying t = some (.slice 5)) (hi : P.info? 5 = some i) (hz : i.zero = some (.int .u8 0)) (hsz : i.size = 1) (hby : i.bytes = 1)
    {v vx : Value} {n : Nat} {ys : List UInt8} (hs : A.eval s = v) (hx : A.eval x = vx) (hown : AnyB base n v w) (hsrc : Src w noH ByteR 1 vx ys) (hb : base ≤ w.heap.size) (hcnt : n + ys.length ≤ 1000000000)
    (h : ∀ v' w', AnyB base (n + ys.length) v' w' → Lb base w w' → K (A.put o.dst v') w') : o.wp P A w K Q := by
  obtain ⟨v', w', hr, h2, h3⟩ := run_append_any (P := P) t o.type i ht hi hz hsz hby hown hsrc hb hcnt
  unfold Oper.wp execOp
  simp only [ho, resolve, invoke, builtin, Sem.run_bind, Sem.run_pure, Result.andThen_ok, List.map_toArray, List.map_cons, List.map_nil, hs, hx, hr]
  exact h v' w' h2 h3
theorem SliceRep.pre {α : Type} {E : PH → List Value → α → Prop} {sz : Nat} {h : PH} {a : Option Addr} {n cap : Nat} {xs : List α} (hr : SliceRep E sz h (.slice a n cap) xs) (k : Nat) (hk : k ≤ xs.length) : SliceRep E sz h (.slice a k cap) (xs.take k) := by
  obtain ⟨a', c', e, h1, h2, h3⟩ := hr
  cases e
  have hlk : (xs.take k).length = k := by rw [List.length_take]; omega
  refine ⟨a, cap, by rw [hlk], by omega, h2, ?_⟩
  rcases h3 with rfl | ⟨b, o, rfl, h3⟩
  · exact .inl (by simp)
  · refine .inr ⟨b, o, rfl, RowRep.of fun i hi => ?_⟩
    have hi' : i < xs.length := by rw [List.length_take] at hi; omega
    obtain ⟨cs, q1, q2, q3⟩ := h3.get i hi'
    exact ⟨cs, q1, q2, by simpa using q3⟩
theorem ple_set {H : PH} {w x : World} {b j : Nat} {v : Value} (h : PLe H (up noH w x)) (hb : ∀ k o, H k = some o → b < k) : PLe H (up noH w (x.setCell ⟨b, j, none⟩ v)) := by
  intro k o hk
  have h1 := h k o hk
  have h2 := hb k o hk
  unfold up at *
  split at h1
  · cases h1
  · rename_i hlt
    rw [if_neg hlt]
    show (x.setCell ⟨b, j, none⟩ v).heap[k]? = some o
    rw [Below.heap_setCell _ _ _ _ (show k ≠ b by omega)]
    exact h1
theorem Ph.walkI_chainY {P : Program} {ops : Array Oper} {D : List Tmp} {S : Ph.Sys} {a : Act} {K : Act → World → Prop} {o : Oper} {rest : List Oper} {E : Env} {d g tg : Nat} {b : Bool} {u : Value} (c : Nat) (hc : S.ch[c]? = some E.length) (hd : o.dst = some d) (hl : d < a.tmps.size) (hg : o.guard = some (g, b)) (htg : (ops[g]?).bind (·.dst) = some tg) (hlk : E.lookup tg = some (Is (.bool b)))
    (hr : ∀ A w, S.G c w → knows A a w E o.op.operands.toList → ∀ K : Act → World → Prop, (∀ w', S.L w w' → S.G (c + 1) w' → K (A.put (some d) u) w') → o.wp P A w K (fun _ _ _ => False))
    (h : Ph.walkI P ops D S a K rest (E ++ [(d, Is u)])) (hn : d ∉ D := by simp) : Ph.walkI P ops D S a K (o :: rest) E :=
  ⟨d, Is u, hd, hl, fun _ _ _ _ _ h _ => h, .inr ⟨g, b, tg, _, hg, htg, hlk, .inl ⟨fun _ _ h => h, by
    unfold Ph.RunsI; rw [hd]
    intro A w c' h1 hp h2 K hK
    obtain rfl := hp c hc
    refine hr A w h1 h2 K fun w' h3 h4 => hK u w' h3 ?_ rfl fun e he hde => ?_
    · rw [if_pos (List.mem_of_getElem? hc)]; exact h4
    · cases hde; exact absurd he hn⟩⟩, h⟩
end Go.Proofs.YtnpnjcaomakehaaGreat
