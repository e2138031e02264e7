/- wire.Writer: its methods add bytes to the writer's own buffer. -/
import Derived.Test.YtebhdjeognpljaaFormed
import Derived.Test.YtebhdjeognpljaaCalm
import Derived.Lib.Zigzag
import Derived.Lib.SliceRun
import Derived.Lib.VarintDec
namespace Go.Proofs.Ytebhdjeognpljaa
open Go.RowKit
set_option linter.unusedSimpArgs false
set_option linter.unusedVariables false
theorem infoByte : (Try.prog.info? 5).map (fun i => (i.zero, i.size, i.bytes)) = some (some (.int .u8 0), 1, 1) := by kernel_rfl
theorem one_ByteR {h : PH} : ∀ cs x, ByteR h cs x → ∀ u ∈ cs, u.oneCell' = true := by
  rintro cs x rfl u hu
  obtain rfl := List.mem_singleton.1 hu
  rfl
/-- all blocks but the writer's two stand as they stood -/
structure ExtW (w w' : World) (g : Nat) (row : Option Nat) : Prop where
  os : w'.os = w.os
  tape : w'.tape = w.tape
  output : w'.output = w.output
  size : w.heap.size ≤ w'.heap.size
  block : ∀ k, k < w.heap.size → k ≠ g → row ≠ some k → w'.heap[k]? = w.heap[k]?
theorem ExtW.rfl' (w : World) (g : Nat) (row : Option Nat) : ExtW w w g row := ⟨rfl, rfl, rfl, Nat.le_refl _, fun _ _ _ _ => rfl⟩
theorem ExtW.then {a b c : World} {g : Nat} {row row' : Option Nat} (h : ExtW a b g row) (k : ExtW b c g row') (hr : ∀ i, row' = some i → row = some i ∨ a.heap.size ≤ i) : ExtW a c g row :=
  ⟨k.os.trans h.os, k.tape.trans h.tape, k.output.trans h.output, Nat.le_trans h.size k.size, fun i hi hg hn => by
    rw [k.block i (by have := h.size; omega) hg (fun he => by rcases hr i he with h1 | h1; exact hn h1; omega)]
    exact h.block i hi hg hn⟩
theorem Ext.toW {a b : World} (h : Ext a b) (g : Nat) (row : Option Nat) : ExtW a b g row := ⟨h.os, h.tape, h.output, h.size, fun k hk _ _ => h.block k hk⟩
theorem ExtW.toExt {w0 w w' : World} {g : Nat} {row : Option Nat} (h : Ext w0 w) (k : ExtW w w' g row) (hg : w0.heap.size ≤ g) (hr : ∀ i, row = some i → w0.heap.size ≤ i) : Ext w0 w' :=
  ⟨k.os.trans h.os, k.tape.trans h.tape, k.output.trans h.output, Nat.le_trans h.size k.size, fun i hi => by
    rw [k.block i (by have := h.size; omega) (by omega) (fun he => by have := hr i he; omega)]
    exact h.block i hi⟩
theorem Own.keepW {w w' : World} {g b : Nat} {row : Option Nat} {c : Array Value} {T : TypeId} (h : Own w b c T) (e : ExtW w w' g row) (h1 : b ≠ g) (h2 : row ≠ some b) : Own w' b c T := by
  unfold Own; rw [e.block b h.lt h1 h2]; exact h
/-- block g is a writer that holds the bytes xs, in block row -/
def Wr (base : Nat) (w : World) (g : Nat) (row : Option Nat) (xs : List UInt8) : Prop :=
  ∃ v, Own w g #[v] 56 ∧ v.ownBlock = row ∧ OwnS base noH w ByteR 1 5 v xs ∧ row ≠ some g ∧ base ≤ g ∧ base ≤ w.heap.size
theorem Wr.row {base : Nat} {w : World} {g : Nat} {row : Option Nat} {xs : List UInt8} (h : Wr base w g row xs) : ∀ k, row = some k → base ≤ k ∧ k < w.heap.size := by
  obtain ⟨v, h1, rfl, h2, -⟩ := h
  intro k hk
  exact ⟨(h2.lt k hk).1, (h2.lt k hk).2.1⟩
theorem Wr.lt {base : Nat} {w : World} {g : Nat} {row : Option Nat} {xs : List UInt8} (h : Wr base w g row xs) : base ≤ g ∧ g < w.heap.size := by
  obtain ⟨v, h1, rfl, h2, h3, h4, -⟩ := h
  exact ⟨h4, h1.lt⟩
theorem Wr.keep {base : Nat} {w w' : World} {g : Nat} {row : Option Nat} {xs : List UInt8} (h : Wr base w g row xs) (e : Ext w w') : Wr base w' g row xs := by
  obtain ⟨v, h1, h2, h3, h4, h5, h6⟩ := h
  exact ⟨v, h1.keep e, h2, h3.keep e, h4, h5, Nat.le_trans h6 e.size⟩
/-- from w to w' the writer got to the bytes xs -/
def Wto (base : Nat) (w : World) (g : Nat) (row : Option Nat) (xs : List UInt8) (w' : World) : Prop :=
  ∃ row', Wr base w' g row' xs ∧ ExtW w w' g row ∧ (∀ k, row' = some k → row = some k ∨ w.heap.size ≤ k)
theorem Wto.rfl' {base : Nat} {w : World} {g : Nat} {row : Option Nat} {xs : List UInt8} (h : Wr base w g row xs) : Wto base w g row xs w := ⟨row, h, ExtW.rfl' _ _ _, fun _ h => .inl h⟩
theorem Wto.then {base : Nat} {w w1 w2 : World} {g : Nat} {row row' : Option Nat} {ys : List UInt8} (hx : ExtW w w1 g row) (hr : ∀ k, row' = some k → row = some k ∨ w.heap.size ≤ k) (h : Wto base w1 g row' ys w2) : Wto base w g row ys w2 := by
  obtain ⟨r2, h1, h2, h3⟩ := h
  refine ⟨r2, h1, hx.then h2 hr, fun k hk => ?_⟩
  rcases h3 k hk with h4 | h4
  · exact hr k h4
  · right; exact Nat.le_trans hx.size h4
theorem Wto.later {base : Nat} {w w1 w2 : World} {g : Nat} {row : Option Nat} {xs : List UInt8} (h : Wto base w g row xs w1) (e : Ext w1 w2) : Wto base w g row xs w2 := by
  obtain ⟨r, h1, h2, h3⟩ := h
  exact ⟨r, h1.keep e, h2.then (e.toW g r) h3, h3⟩
/-- what a method of the writer leaves -/
def WrP (base : Nat) (w : World) (g : Nat) (row : Option Nat) (xs : List UInt8) (e : Ending) (w' : World) : Prop :=
  e = .returned (.tuple #[]) ∧ Wto base w g row xs w'
/-- one append and the store of what it gives -/
theorem Wr.step {base : Nat} {w : World} {o : Obj} {g : Nat} {v v' : Value} {row : Option Nat} {ys : List UInt8} (hW : Own w g #[v] 56) (hg : base ≤ g) (hb : base ≤ w.heap.size) (hne : row ≠ some g)
    {w2 : World} (ho : OwnS base noH w2 ByteR 1 5 v' ys) (hgr : (w.alloc o).grownBy w2 row) (hk : ∀ k, v'.ownBlock = some k → row = some k ∨ w.heap.size + 1 ≤ k) :
    Own w2 g #[v] 56 ∧ Hid (Wto base w g row ys (w2.setCell ⟨g, 0, none⟩ v')) := by
  have hx := Ext.new w o
  have hs1 := hx.size
  have hgl := hW.lt
  have hW2 : Own w2 g #[v] 56 := (hW.keep hx).grown hgr (fun e => hne e.symm)
  have hng : v'.ownBlock ≠ some g := by
    intro he
    rcases hk g he with h1 | h1
    · exact hne h1
    · omega
  have hs2 : (w.alloc o).heap.size ≤ w2.heap.size := hgr.size
  refine ⟨hW2, ⟨_, ⟨v', by simpa using hW2.set 0 v', rfl, ho.keepB (fun k hk => ?_) (fun _ _ => rfl) (fun _ _ h => h), hng, hg, by simp; omega⟩, ⟨?_, ?_, ?_, ?_, ?_⟩, ?_⟩⟩
  · exact Below.heap_setCell _ _ _ _ (fun h => hng (by rw [hk]; exact congrArg some h))
  · exact hgr.os.trans hx.os
  · exact hgr.tape.trans hx.tape
  · exact hgr.output.trans hx.output
  · simp; omega
  · intro k hk1 hk2 hk3
    rw [Below.heap_setCell _ _ _ _ hk2, hgr.block k (by omega) (fun e => hk3 e.symm)]
    exact hx.block k hk1
  · intro k hk'
    rcases hk k hk' with h1 | h1
    · exact .inl h1
    · right; omega
abbrev uvar := Lib.uvarint
abbrev zig := Lib.zigzag
theorem uvar_small {n : Nat} (h : n < 128) : uvar n = [n.toUInt8] := Lib.uvarint_small h
theorem uvar_big {n : Nat} (h : ¬ n < 128) : uvar n = (n % 128 + 128).toUInt8 :: uvar (n / 128) := Lib.uvarint_big (by omega)
theorem uvar_len10 {n : Nat} (h : n ≤ 18446744073709551615) : (uvar n).length ≤ 10 := Lib.uvarint_length64 (by omega)
theorem zig_le {n : Int} (h : I64 n) : zig n ≤ 18446744073709551615 := Nat.le_of_lt_succ (Lib.zigzag_lt h.1 h.2)
theorem zigzag_c (n : Int) (w : World) (hn : I64 n) : Calls Try.prog 89 #[.int .i64 n] w (RetV w (.int .u64 (zig n))) := by
  obtain ⟨h1, h2⟩ := hn
  by_cases h0 : 0 ≤ n
  · have hz : bits BinOp.xor IntKind.u64 (n * 2) (n / 9223372036854775808) = (zig n : Int) := by
      have e1 : n / 9223372036854775808 = ((0 : Nat) : Int) := by omega
      have e2 : n * 2 = (((2 * n).toNat : Nat) : Int) := by omega
      rw [e1, e2, bits_xor_u64_nat _ _ (by omega) (by omega), Nat.xor_zero, zig, Lib.zigzag, if_pos h0]
    go_enter Try.func89, Try.ntmps89
    go_wp2_with fail
    go_ret
    exact ⟨rfl, (by repeat (first | (with_reducible assumption) | (with_reducible exact Ext.rfl' _) | (with_reducible exact Ext.new _ _) | (with_reducible refine Ext.alloc' ?_ _) | (with_reducible refine Ext.drew' ?_) | (with_reducible refine Ext.drewN' ?_ _) | (with_reducible refine Ext.set' ?_ ?_ _; rotate_left; (focus (first | omega | (simp; done) | (simp; omega)))) | (with_reducible refine Ext.then (b := ?_) ?_ ?_; rotate_left; rotate_left; (with_reducible assumption))))⟩
  · have hz : bits BinOp.xor IntKind.u64 (IntKind.u64.wrap (IntKind.u64.wrap n * 2)) (IntKind.u64.wrap (n / 9223372036854775808)) = (zig n : Int) := by
      have e1 : IntKind.u64.wrap (n / 9223372036854775808) = ((2 ^ 64 - 1 : Nat) : Int) := by rw [IntKind.wrap_u64]; omega
      have e2 : IntKind.u64.wrap (IntKind.u64.wrap n * 2) = (((2 * n + 18446744073709551616).toNat : Nat) : Int) := by rw [IntKind.wrap_u64, IntKind.wrap_u64]; omega
      rw [e1, e2, bits_xor_u64_nat _ _ (by omega) (by omega), Nat.xor_comm, Lib.xor_ones64 _ (by omega), zig, Lib.zigzag, if_neg h0]
      omega
    go_enter Try.func89, Try.ntmps89
    go_wp2_with fail
    go_ret
    exact ⟨rfl, (by repeat (first | (with_reducible assumption) | (with_reducible exact Ext.rfl' _) | (with_reducible exact Ext.new _ _) | (with_reducible refine Ext.alloc' ?_ _) | (with_reducible refine Ext.drew' ?_) | (with_reducible refine Ext.drewN' ?_ _) | (with_reducible refine Ext.set' ?_ ?_ _; rotate_left; (focus (first | omega | (simp; done) | (simp; omega)))) | (with_reducible refine Ext.then (b := ?_) ?_ ?_; rotate_left; rotate_left; (with_reducible assumption))))⟩
set_option maxRecDepth 100000 in
set_option maxHeartbeats 400000 in
theorem uint_c (base g : Nat) (row : Option Nat) (xs : List UInt8) (n : Nat) (w : World) (hn : n ≤ 18446744073709551615) (hW : Wr base w g row xs) (hlen : xs.length ≤ 1000000000) :
    Calls Try.prog 79 #[.pointer (some ⟨g, 0, none⟩), .int .u64 n] w (WrP base w g row (xs ++ uvar n)) := by
  have h10 := uvar_len10 hn
  go_enter Try.func79, Try.ntmps79
  go_wp2_with fail
  go_loopw [1] (fun i wr => ∃ m : Nat, i = .int .u64 m ∧ m ≤ 18446744073709551615 ∧ ∃ pre, Hid (uvar n = pre ++ uvar m) ∧ pre.length ≤ 10 ∧ Wto base w g row (xs ++ pre) wr) (fun i _ => (intOf i).toNat)
  case atStart => exact ⟨n, rfl, hn, [], Lib.hid rfl, by simp, Wto.rfl' (by simpa using hW)⟩
  case round =>
    obtain ⟨m, rfl, hm, pre, hpre, hpl, row', hWr, hx, hrow⟩ := hrel
    replace hrow := Lib.hid hrow
    obtain ⟨v, hO, hv, hS, hne, hg, hb⟩ := hWr
    obtain ⟨zs, hzs⟩ : ∃ zs, Hid (xs ++ pre = zs) := ⟨_, Lib.hid rfl⟩
    have hzl : zs.length ≤ 1000000010 := by rw [← hzs.out]; simp; omega
    rw [hzs.out] at hS
    obtain ⟨a, c, rfl, hl⟩ := hS.form
    obtain ⟨hoc, hof⟩ := hO.facts
    have hgl := hO.lt
    by_cases h128 : m < 128
    · have hE : ByteR noH [.int .u8 m] m.toUInt8 := by unfold ByteR; rw [show (m.toUInt8).toNat = m by simp; omega]
      have hum := Lib.hid (uvar_small h128)
      generalize m.toUInt8 = y at *
      go_wp2_with (at_builtin; refine wpList_append_S (E := ByteR) (H := noH) (base := base) (ys := [y]) rfl _ _ 46 5 rfl (.int .u8 0) 1 Try.underlying46 infoByte rfl rfl rfl (hS.keep (by repeat (first | (with_reducible assumption) | (with_reducible exact Ext.rfl' _) | (with_reducible exact Ext.new _ _) | (with_reducible refine Ext.alloc' ?_ _) | (with_reducible refine Ext.drew' ?_) | (with_reducible refine Ext.drewN' ?_ _) | (with_reducible refine Ext.set' ?_ ?_ _; rotate_left; (focus (first | omega | (simp; done) | (simp; omega)))) | (with_reducible refine Ext.then (b := ?_) ?_ ?_; rotate_left; rotate_left; (with_reducible assumption))))) (Src.lit1 hE rfl (fun j => by simp [go_sem])) (noH_le _) ?c2 one_ByteR ?c3 ?c4 ?c5)
      case c2 => simp; omega
      case c3 => simp; omega
      case c4 => simp; omega
      case c5 =>
        intro l' w2 hl1 hg1 hn1
        obtain ⟨hO2, hR⟩ := Wr.step hO hg hb hne hl1 hg1 hn1
        obtain ⟨a', c', rfl, -⟩ := hl1.form
        obtain ⟨hoc2, hof2⟩ := hO2.facts
        have hgl2 := hO2.lt
        clear hS hg1 hn1 hoc hof hl1
        go_wp2_with fail
        have hT := Wto.then hx hrow.out hR.out
        rw [show (zs ++ [y]).length = zs.length + 1 by simp, ← hzs.out, List.append_assoc, ← hum.out, ← hpre.out, hzs.out] at hT
        exact bodyPost_ret (v := .tuple #[]) (by simp [results, Try.results79, go_sem]) rfl ⟨rfl, hT⟩
    · have hE : ByteR noH [.int .u8 (m % 128 + 128)] (m % 128 + 128).toUInt8 := by unfold ByteR; rw [show ((m % 128 + 128).toUInt8).toNat = m % 128 + 128 by simp; omega]; simp
      have hum := Lib.hid (uvar_big h128)
      generalize (m % 128 + 128).toUInt8 = y at *
      have hor : bits .or .u8 ((m : Int) % 256) 128 = ((m % 128 + 128 : Int)) := by
        rw [Lib.u8_or128_any _ (by omega) (by omega)]
        omega
      go_wp2_with (at_builtin; refine wpList_append_S (E := ByteR) (H := noH) (base := base) (ys := [y]) rfl _ _ 46 5 rfl (.int .u8 0) 1 Try.underlying46 infoByte rfl rfl rfl (hS.keep (by repeat (first | (with_reducible assumption) | (with_reducible exact Ext.rfl' _) | (with_reducible exact Ext.new _ _) | (with_reducible refine Ext.alloc' ?_ _) | (with_reducible refine Ext.drew' ?_) | (with_reducible refine Ext.drewN' ?_ _) | (with_reducible refine Ext.set' ?_ ?_ _; rotate_left; (focus (first | omega | (simp; done) | (simp; omega)))) | (with_reducible refine Ext.then (b := ?_) ?_ ?_; rotate_left; rotate_left; (with_reducible assumption))))) (Src.lit1 hE rfl (fun j => by simp [go_sem])) (noH_le _) ?c2 one_ByteR ?c3 ?c4 ?c5)
      case c2 => simp; omega
      case c3 => simp; omega
      case c4 => simp; omega
      case c5 =>
        intro l' w2 hl1 hg1 hn1
        obtain ⟨hO2, hR⟩ := Wr.step hO hg hb hne hl1 hg1 hn1
        obtain ⟨a', c', rfl, -⟩ := hl1.form
        obtain ⟨hoc2, hof2⟩ := hO2.facts
        have hgl2 := hO2.lt
        clear hS hg1 hn1 hoc hof hl1
        go_wp2_with fail
        go_roundw
        case rel =>
          have hT := Wto.then hx hrow.out hR.out
          rw [List.length_append, List.length_singleton] at hT
          have hpre2 : uvar n = (pre ++ [y]) ++ uvar (m / 128) := by rw [hpre.out, hum.out]; simp
          refine ⟨m / 128, by go_num, by omega, pre ++ [y], hpre2, ?_, ?_⟩
          · have := congrArg List.length hpre2
            rw [List.length_append] at this
            omega
          · rw [← List.append_assoc, hzs.out]; exact hT
        case measure => simp [intOf]; omega
/-- one number, by its sign's zig-zag -/
def encI (n : Int) : List UInt8 := uvar (zig n)
theorem encI_len {n : Int} (h : I64 n) : (encI n).length ≤ 10 := uvar_len10 (zig_le h)
theorem int_c (base g : Nat) (row : Option Nat) (xs : List UInt8) (n : Int) (w : World) (hn : I64 n) (hW : Wr base w g row xs) (hlen : xs.length ≤ 1000000000) :
    Calls Try.prog 72 #[.pointer (some ⟨g, 0, none⟩), .int .i64 n] w (WrP base w g row (xs ++ encI n)) := by
  have hz := zig_le hn
  go_enter Try.func72, Try.ntmps72
  go_wp2_with fail
  refine (zigzag_c n _ hn).mono ?_
  rintro e w1 ⟨rfl, hb1⟩
  go_wp2_with fail
  refine (uint_c base g row xs _ _ hz (hW.keep hb1) hlen).mono ?_
  rintro e w2 ⟨rfl, hT⟩
  go_wp2_with fail
  exact bodyPost_ret (v := .tuple #[]) (by simp [results, Try.results72, go_sem]) rfl ⟨rfl, Wto.then (hb1.toW g row) (fun _ h => .inl h) hT⟩
def encL (l : List Int) : List UInt8 := l.flatMap encI
def encInts (l : List Int) : List UInt8 := uvar l.length ++ encL l
theorem encL_len {l : List Int} (h : ∀ x ∈ l, I64 x) : (encL l).length ≤ 10 * l.length := by
  induction l with
  | nil => simp [encL]
  | cons x l ih =>
    have h1 := encI_len (h x (by simp))
    have h2 := ih fun y hy => h y (by simp [hy])
    simp only [encL, List.flatMap_cons, List.length_append, List.length_cons] at *
    omega
theorem encL_snoc (l : List Int) (k : Nat) (h : k < l.length) : encL (l.take (k + 1)) = encL (l.take k) ++ encI l[k] := by
  unfold encL; rw [take_snoc l k h, List.flatMap_append]; simp
/-- memory below base stands while the writer writes -/
theorem Wto.ple {H : PH} {base : Nat} {w w' : World} {g : Nat} {row : Option Nat} {xs ys : List UInt8} (hP : PLe H (ph w)) (hB : ∀ k, base ≤ k → H k = none) (hW : Wr base w g row xs) (h : Wto base w g row ys w') : PLe H (ph w') := by
  obtain ⟨r, h1, h2, h3⟩ := h
  intro k o hk
  have hk1 := ph_lt (hP k o hk)
  have hk2 : k < base := by
    rcases Nat.lt_or_ge k base with h | h
    · exact h
    · rw [hB k h] at hk; cases hk
  show w'.heap[k]? = some o
  rw [h2.block k hk1 (by have := hW.lt; omega) (fun e => by have := hW.row k e; omega)]
  exact hP k o hk
theorem Wto.own {base : Nat} {w w' : World} {g b : Nat} {row : Option Nat} {ys : List UInt8} {c : Array Value} {T : TypeId} (hO : Own w b c T) (hW : Wto base w g row ys w') (h1 : b ≠ g) (h2 : row ≠ some b) : Own w' b c T := by
  obtain ⟨r, h3, h4, h5⟩ := hW
  exact hO.keepW h4 h1 h2
theorem IntsR.all {H : PH} {v : Value} {l : List Int} (h : IntsR H v l) : ∀ x ∈ l, I64 x := by
  obtain ⟨a, c, rfl, h1, h⟩ := h.form
  intro x hx
  obtain ⟨k, hk, rfl⟩ := List.mem_iff_getElem.1 hx
  obtain ⟨b, o, cs, -, -, -, -, h2⟩ := h.get k hk
  exact h2
set_option maxHeartbeats 400000 in
theorem ints_c (H : PH) (base g : Nat) (row : Option Nat) (xs : List UInt8) (l : List Int) (vl : Value) (w : World) (hP : PLe H (ph w)) (hB : ∀ k, base ≤ k → H k = none) (hl : IntsR H vl l) (hW : Wr base w g row xs) (hlen : xs.length + 10 * l.length + 10 ≤ 1000000000) :
    Calls Try.prog 71 #[.pointer (some ⟨g, 0, none⟩), vl] w (WrP base w g row (xs ++ encInts l)) := by
  obtain ⟨a, c, rfl, hll, hl⟩ := hl.form
  have hB' := Lib.hid hB; clear hB
  go_enter Try.func71, Try.ntmps71
  go_wp2_with fail
  refine (uint_c base g row xs l.length _ (by omega) hW (by omega)).mono ?_
  rintro e w1 ⟨rfl, hT⟩
  have hul : (uvar l.length).length ≤ 10 := uvar_len10 (by omega)
  go_wp2_with fail
  go_loopw [13] (fun i wr => ∃ k : Nat, k ≤ l.length ∧ i = .int .i64 k ∧ Wto base w g row (xs ++ uvar l.length ++ encL (l.take k)) wr) (fun i _ => l.length - (intOf i).toNat)
  case atStart => exact ⟨0, Nat.zero_le _, rfl, by simpa [encL] using hT⟩
  case round =>
    obtain ⟨k, hk, rfl, hTr⟩ := hrel
    have hPr := Wto.ple hP hB'.out hW hTr
    by_cases hlt : k < l.length
    · obtain ⟨b, o, rfl, h0, hi, hbl⟩ := IntsR.at (hl.mono mono_IntR hPr) k hlt
      have hs := encL_snoc l k hlt
      have hi64 := IntsR.all hl
      have hel : (encL (l.take k)).length ≤ 10 * k := by
        have := encL_len (l := l.take k) fun x hx => hi64 x (List.mem_of_mem_take hx)
        rw [List.length_take] at this; omega
      obtain ⟨row', hWr, hx, hr⟩ := hTr
      replace hs := Lib.hid hs
      replace hr := Lib.hid hr
      generalize l[k] = x at *
      clear hl hi64
      go_wp2_with fail
      refine (int_c base g row' _ x _ hi hWr (by simp only [List.length_append]; omega)).mono ?_
      rintro e w2 ⟨rfl, hT2⟩
      have hT3 := Wto.then hx hr.out hT2
      rw [List.append_assoc _ _ (encI x), ← hs.out] at hT3
      clear hT2 hWr hx hPr
      go_wp2_with fail
      go_roundw
      case rel => exact ⟨k + 1, by omega, by go_num, hT3⟩
      case measure => simp [intOf]; omega
    · go_wp2_with fail
      rw [List.take_of_length_le (by omega), List.append_assoc] at hTr
      exact bodyPost_ret (v := .tuple #[]) (by simp [results, Try.results71, go_sem]) rfl ⟨rfl, hTr⟩
theorem Src.keep {α : Type} {E : PH → List Value → α → Prop} {sz : Nat} {H : PH} {w w' : World} {v : Value} {xs : List α} (h : Src w H E sz v xs) (e : Ext w w') : Src w' H E sz v xs := by
  obtain ⟨a, cap, rfl, h1, h2⟩ := h
  refine ⟨a, cap, rfl, h1, ?_⟩
  rcases h2 with h2 | ⟨ad, c, rfl, h3, h4⟩
  · exact .inl h2
  · refine .inr ⟨ad, c, rfl, h3, fun j u hu => ?_⟩
    have h5 := h4 j u hu
    rw [← h5]
    exact Below.cell e (World.block_lt_of_cell? w _ h5)
/-- a fresh slice of bytes comes back -/
def FreshB (w : World) (xs : List UInt8) (e : Ending) (w' : World) : Prop := ∃ v, e = .returned v ∧ OwnS w.heap.size noH w' ByteR 1 5 v xs ∧ Ext w w'
set_option maxRecDepth 100000 in
theorem clone_c (vs : Value) (xs : List UInt8) (w : World) (hs : Src w noH ByteR 1 vs xs) (hlen : xs.length ≤ 2000000000) :
    Calls Try.prog 59 #[vs] w (FreshB w xs) := by
  have hS := hs
  have q46 : ∀ (w : World) (a : Option Addr) (n c n' c' : Nat), (binOp .eql 46 (.slice a n c) (.slice none n' c')).run Try.prog w = .ok (.bool a.isNone) w := fun w a n c n' c' => Lib.run_eql_slice_nil w _ _ a n c n' c' Try.underlying46
  obtain ⟨a, cap, rfl, h1, h2⟩ := hs
  cases a with
  | none =>
    have : xs = [] := by
      rcases h2 with h2 | ⟨_, _, h, _⟩
      · exact h2
      · cases h
    subst this
    clear h2
    go_enter Try.func59, Try.ntmps59
    go_wp2_with fail
    go_ret
    exact ⟨_, rfl, OwnS.nil _ _ _ _ _ _, (by repeat (first | (with_reducible assumption) | (with_reducible exact Ext.rfl' _) | (with_reducible exact Ext.new _ _) | (with_reducible refine Ext.alloc' ?_ _) | (with_reducible refine Ext.drew' ?_) | (with_reducible refine Ext.drewN' ?_ _) | (with_reducible refine Ext.set' ?_ ?_ _; rotate_left; (focus (first | omega | (simp; done) | (simp; omega)))) | (with_reducible refine Ext.then (b := ?_) ?_ ?_; rotate_left; rotate_left; (with_reducible assumption))))⟩
  | some a =>
    clear h2
    go_enter Try.func59, Try.ntmps59
    go_wp2_with (at_builtin; refine wpList_append_S (E := ByteR) (H := noH) (base := w.heap.size) (xs := []) (ys := xs) rfl _ _ 46 5 rfl (.int .u8 0) 1 Try.underlying46 infoByte rfl rfl rfl (OwnS.ofNew (Nat.le_refl _) (Own.new _ _ _) rfl (by simp [maxLen]) rfl rfl) (hS.keep (by repeat (first | (with_reducible assumption) | (with_reducible exact Ext.rfl' _) | (with_reducible exact Ext.new _ _) | (with_reducible refine Ext.alloc' ?_ _) | (with_reducible refine Ext.drew' ?_) | (with_reducible refine Ext.drewN' ?_ _) | (with_reducible refine Ext.set' ?_ ?_ _; rotate_left; (focus (first | omega | (simp; done) | (simp; omega)))) | (with_reducible refine Ext.then (b := ?_) ?_ ?_; rotate_left; rotate_left; (with_reducible assumption))))) (noH_le _) ?c2 one_ByteR ?c3 ?c4 ?c5)
    case c2 => simp
    case c3 => simp; omega
    case c4 => simp; omega
    case c5 =>
      intro l' w2 hl1 hg1 hn1
      have hb2 : Ext w w2 := Ext.grown (by repeat (first | (with_reducible assumption) | (with_reducible exact Ext.rfl' _) | (with_reducible exact Ext.new _ _) | (with_reducible refine Ext.alloc' ?_ _) | (with_reducible refine Ext.drew' ?_) | (with_reducible refine Ext.drewN' ?_ _) | (with_reducible refine Ext.set' ?_ ?_ _; rotate_left; (focus (first | omega | (simp; done) | (simp; omega)))) | (with_reducible refine Ext.then (b := ?_) ?_ ?_; rotate_left; rotate_left; (with_reducible assumption)))) hg1 (fun k e => by simp [Value.ownBlock] at e; omega)
      clear hg1 hn1 hS
      go_wp2_with fail
      go_ret
      exact ⟨_, rfl, hl1, hb2⟩
set_option maxRecDepth 100000 in
theorem done_c (base g : Nat) (row : Option Nat) (xs : List UInt8) (w : World) (hW : Wr base w g row xs) (hlen : xs.length ≤ 2000000000) :
    Calls Try.prog 31 #[.pointer (some ⟨g, 0, none⟩)] w (FreshB w xs) := by
  obtain ⟨v, hO, hv, hS, hne, hg, hb⟩ := hW
  obtain ⟨a, c, rfl, hl⟩ := hS.form
  obtain ⟨hoc, hof⟩ := hO.facts
  have hgl := hO.lt
  go_enter Try.func31, Try.ntmps31
  go_wp2_with fail
  refine (clone_c _ xs _ (Src.ofOwn (hS.keep (by repeat (first | (with_reducible assumption) | (with_reducible exact Ext.rfl' _) | (with_reducible exact Ext.new _ _) | (with_reducible refine Ext.alloc' ?_ _) | (with_reducible refine Ext.drew' ?_) | (with_reducible refine Ext.drewN' ?_ _) | (with_reducible refine Ext.set' ?_ ?_ _; rotate_left; (focus (first | omega | (simp; done) | (simp; omega)))) | (with_reducible refine Ext.then (b := ?_) ?_ ?_; rotate_left; rotate_left; (with_reducible assumption)))))) hlen).mono ?_
  rintro e w1 ⟨v1, rfl, hF, hb1⟩
  go_wp2_with fail
  go_ret
  exact ⟨_, rfl, hF, (by repeat (first | (with_reducible assumption) | (with_reducible exact Ext.rfl' _) | (with_reducible exact Ext.new _ _) | (with_reducible refine Ext.alloc' ?_ _) | (with_reducible refine Ext.drew' ?_) | (with_reducible refine Ext.drewN' ?_ _) | (with_reducible refine Ext.set' ?_ ?_ _; rotate_left; (focus (first | omega | (simp; done) | (simp; omega)))) | (with_reducible refine Ext.then (b := ?_) ?_ ?_; rotate_left; rotate_left; (with_reducible assumption))))⟩
set_option maxHeartbeats 400000 in
theorem keyOf_c (v : Val) (w : World) (h1 : I64 v.attr) (h2 : I64 v.n.num) (h3 : I64 v.n.den) :
    Calls Try.prog 73 #[.agg #[.int .i64 v.attr, .int .i64 v.n.num, .int .i64 v.n.den]] w (RetV w (.agg #[.int .i64 v.attr, .int .i64 v.n.num, .int .i64 v.n.den])) := by
  go_enter Try.func73, Try.ntmps73
  go_wp2_with fail
  exact bodyPost_ret (v := .agg #[.int .i64 v.attr, .int .i64 v.n.num, .int .i64 v.n.den]) (by simp [results, Try.results73, go_sem]) rfl ⟨rfl, (by repeat (first | (with_reducible assumption) | (with_reducible exact Ext.rfl' _) | (with_reducible exact Ext.new _ _) | (with_reducible refine Ext.alloc' ?_ _) | (with_reducible refine Ext.drew' ?_) | (with_reducible refine Ext.drewN' ?_ _) | (with_reducible refine Ext.set' ?_ ?_ _; rotate_left; (focus (first | omega | (simp; done) | (simp; omega)))) | (with_reducible refine Ext.then (b := ?_) ?_ ?_; rotate_left; rotate_left; (with_reducible assumption))))⟩
end Go.Proofs.Ytebhdjeognpljaa
