/- wire.Writer: its methods add bytes to the writer's own buffer.; the encodings of numbers and lists tell them apart.; priorartref02: Uint, Zigzag, Int, Ints: the bytes of numbers.; wire.Reader: its methods take bytes from the reader's own slice.; wire.Reader: Uint, Int.; wire.Reader: what Uint reads; Int.; wire.Reader: lists.; wire.Read.; what is read of ints and lists of them.; The memory of a call under way, where a reader (block g) changes.; The memory of a call under way, and a reader: an append of one's own; the chain of three reads of a value.; bytes of one's own, whatever they are; slices of bytes as strings.; package formula: plain laws of FormulaOrder: Simple twice, Push twice, the bytes.; priorartref01.SameBytes.; the reference's bytes of formulas.; the reference's bytes of formulas: the walks. -/
import Derived.Lib.Zigzag
import Derived.Lib.SliceRun
import Derived.Lib.VarintDec
import Derived.Laws.Bits64
import Derived.Laws.Bits64b
import Derived.Lib.SlBytesRow
import Derived.Lib.BufferRead
import Derived.Test.YtbpilielamjnoaaGreatFO00
import Derived.Test.YtbpilielamjnoaaGreatFO01
import Derived.Test.YtbpilielamjnoaaGreatFO02
import Derived.Test.YtbpilielamjnoaaGreatFO05
import Derived.Test.YtbpilielamjnoaaGreatFO12
import Derived.Test.YtbpilielamjnoaaGreatFO13
namespace Go.Proofs.YtbpilielamjnoaaGreat
open Go.RowKit
set_option linter.unusedSimpArgs false
set_option linter.unusedVariables false
theorem infoByte : (Tryz.prog.info? 5).map (fun i => (i.zero, i.size, i.bytes)) = some (some (.int .u8 0), 1, 1) := by kernel_rfl
theorem one_ByteR {h : PH} : ∀ cs x, ByteR h cs x → ∀ u ∈ cs, u.oneCell' = true := by
  rintro cs x rfl u hu
  obtain rfl := List.mem_singleton.1 hu
  rfl
structure ExtW (w w' : World) (g : Nat) (row : Option Nat) : Prop where
  os : w'.os = w.os
  tape : w'.tape = w.tape
  output : w'.output = w.output
  size : w.heap.size ≤ w'.heap.size
  block : ∀ k, k < w.heap.size → k ≠ g → row ≠ some k → w'.heap[k]? = w.heap[k]?
theorem ExtW.rfl' (w : World) (g : Nat) (row : Option Nat) : ExtW w w g row := ⟨rfl, rfl, rfl, Nat.le_refl _, fun _ _ _ _ => rfl⟩
theorem ExtW.then {a b c : World} {g : Nat} {row row' : Option Nat} (h : ExtW a b g row) (k : ExtW b c g row') (hr : ∀ i, row' = some i → row = some i ∨ a.heap.size ≤ i) : ExtW a c g row :=
  ⟨k.os.trans h.os, k.tape.trans h.tape, k.output.trans h.output, Nat.le_trans h.size k.size, fun i hi hg hn => by
    rw [k.block i (by have := h.size; omega) hg (fun he => by rcases hr i he with h1 | h1; exact hn h1; omega)]
    exact h.block i hi hg hn⟩
abbrev uvar := Lib.uvarint
abbrev zig := Lib.zigzag
theorem uvar_small {n : Nat} (h : n < 128) : uvar n = [n.toUInt8] := Lib.uvarint_small h
theorem uvar_big {n : Nat} (h : ¬ n < 128) : uvar n = (n % 128 + 128).toUInt8 :: uvar (n / 128) := Lib.uvarint_big (by omega)
theorem uvar_len10 {n : Nat} (h : n ≤ 18446744073709551615) : (uvar n).length ≤ 10 := Lib.uvarint_length64 (by omega)
theorem zig_le {n : Int} (h : I64 n) : zig n ≤ 18446744073709551615 := Nat.le_of_lt_succ (Lib.zigzag_lt h.1 h.2)
def encI (n : Int) : List UInt8 := uvar (zig n)
theorem encI_len {n : Int} (h : I64 n) : (encI n).length ≤ 10 := uvar_len10 (zig_le h)
def encL (l : List Int) : List UInt8 := l.flatMap encI
def encInts (l : List Int) : List UInt8 := uvar l.length ++ encL l
theorem encL_len {l : List Int} (h : ∀ x ∈ l, I64 x) : (encL l).length ≤ 10 * l.length := by
  induction l with
  | nil => simp [encL]
  | cons x l ih =>
    have h1 := encI_len (h x (by simp))
    have h2 := ih fun y hy => h y (by simp [hy])
    simp only [encL, List.flatMap_cons, List.length_append, List.length_cons] at *
    omega
theorem encL_snoc (l : List Int) (k : Nat) (h : k < l.length) : encL (l.take (k + 1)) = encL (l.take k) ++ encI l[k] := by
  unfold encL; rw [take_snoc l k h, List.flatMap_append]; simp
theorem IntsR.all {H : PH} {v : Value} {l : List Int} (h : IntsR H v l) : ∀ x ∈ l, I64 x := by
  obtain ⟨a, c, rfl, h1, h⟩ := h.form
  intro x hx
  obtain ⟨k, hk, rfl⟩ := List.mem_iff_getElem.1 hx
  obtain ⟨b, o, cs, -, -, -, -, h2⟩ := h.get k hk
  exact h2
theorem Src.keep {α : Type} {E : PH → List Value → α → Prop} {sz : Nat} {H : PH} {w w' : World} {v : Value} {xs : List α} (h : Src w H E sz v xs) (e : Ext w w') : Src w' H E sz v xs := by
  obtain ⟨a, cap, rfl, h1, h2⟩ := h
  refine ⟨a, cap, rfl, h1, ?_⟩
  rcases h2 with h2 | ⟨ad, c, rfl, h3, h4⟩
  · exact .inl h2
  · refine .inr ⟨ad, c, rfl, h3, fun j u hu => ?_⟩
    have h5 := h4 j u hu
    rw [← h5]
    exact Below.cell e (World.block_lt_of_cell? w _ h5)
def FreshB (w : World) (xs : List UInt8) (e : Ending) (w' : World) : Prop := ∃ v, e = .returned v ∧ OwnS w.heap.size noH w' ByteR 1 5 v xs ∧ Ext w w'
theorem OwnS.base {α : Type} {b0 base : Nat} {H : PH} {w : World} {E : PH → List Value → α → Prop} {sz : Nat} {T : TypeId} {v : Value} {xs : List α} (h : OwnS base H w E sz T v xs) (hb : b0 ≤ base) : OwnS b0 H w E sz T v xs := by
  rcases h with h | ⟨g, cap, cur, h1, h2, h3⟩
  · exact .inl h
  · exact .inr ⟨g, cap, cur, h1, Nat.le_trans hb h2, h3⟩
end Go.Proofs.YtbpilielamjnoaaGreat
namespace Go.Proofs.YtbpilielamjnoaaGreat
set_option linter.unusedSimpArgs false
set_option linter.unusedVariables false
theorem uvar_pre : ∀ (n m : Nat) (r r' : List UInt8), uvar n ++ r = uvar m ++ r' → n = m ∧ r = r' := by
  intro n
  induction n using Nat.strongRecOn with
  | ind n ih =>
    intro m r r' h
    have hb : ∀ k : Nat, k < 256 → (k.toUInt8).toNat = k := fun k hk => by simp [Nat.toUInt8]; omega
    by_cases hn : n < 128
    · rw [uvar_small hn] at h
      by_cases hm : m < 128
      · rw [uvar_small hm] at h
        simp only [List.cons_append, List.nil_append, List.cons.injEq] at h
        have := congrArg UInt8.toNat h.1
        rw [hb n (by omega), hb m (by omega)] at this
        exact ⟨this, h.2⟩
      · rw [uvar_big hm] at h
        simp only [List.cons_append, List.nil_append, List.cons.injEq] at h
        have := congrArg UInt8.toNat h.1
        rw [hb n (by omega), hb _ (by omega)] at this
        omega
    · rw [uvar_big hn] at h
      by_cases hm : m < 128
      · rw [uvar_small hm] at h
        simp only [List.cons_append, List.nil_append, List.cons.injEq] at h
        have := congrArg UInt8.toNat h.1
        rw [hb m (by omega), hb _ (by omega)] at this
        omega
      · rw [uvar_big hm] at h
        simp only [List.cons_append, List.cons.injEq] at h
        have h1 := congrArg UInt8.toNat h.1
        rw [hb _ (by omega), hb _ (by omega)] at h1
        obtain ⟨h2, h3⟩ := ih (n / 128) (by omega) (m / 128) r r' h.2
        exact ⟨by omega, h3⟩
theorem encI_pre {n m : Int} (hn : I64 n) (hm : I64 m) {r r' : List UInt8} (h : encI n ++ r = encI m ++ r') : n = m ∧ r = r' := by
  obtain ⟨h1, h2⟩ := uvar_pre _ _ _ _ h
  refine ⟨?_, h2⟩
  unfold I64 at *
  simp only [zig, Lib.zigzag] at h1
  split at h1 <;> split at h1 <;> omega
theorem encL_pre : ∀ {l m : List Int}, l.length = m.length → (∀ x ∈ l, I64 x) → (∀ x ∈ m, I64 x) → ∀ {r r' : List UInt8}, encL l ++ r = encL m ++ r' → l = m ∧ r = r'
  | [], [], _, _, _, r, r', h => ⟨rfl, h⟩
  | x :: l, y :: m, hl, h1, h2, r, r', h => by
    simp only [encL, List.flatMap_cons, List.append_assoc] at h
    obtain ⟨rfl, h3⟩ := encI_pre (h1 x (by simp)) (h2 y (by simp)) h
    obtain ⟨rfl, h4⟩ := encL_pre (by simpa using hl) (fun z hz => h1 z (by simp [hz])) (fun z hz => h2 z (by simp [hz])) h3
    exact ⟨rfl, h4⟩
theorem encInts_pre {l m : List Int} (h1 : ∀ x ∈ l, I64 x) (h2 : ∀ x ∈ m, I64 x) {r r' : List UInt8} (h : encInts l ++ r = encInts m ++ r') : l = m ∧ r = r' := by
  simp only [encInts, List.append_assoc] at h
  obtain ⟨h3, h4⟩ := uvar_pre _ _ _ _ h
  exact encL_pre h3 h1 h2 h4
end Go.Proofs.YtbpilielamjnoaaGreat
namespace Go.Proofs.YtbpilielamjnoaaGreat
open Go.RowKit
set_option linter.unusedSimpArgs false
set_option linter.unusedVariables false
theorem Mem.init {w0 w : World} {H0 H : PH} {L : List Chunk} {c : Chunk} (h : Mem w0 H0 (L ++ [c]) H w) : Mem w0 H0 L H w := by
  have h1 := h.pick (List.range L.length) List.nodup_range
  have e : (List.range L.length).map (fun i => ((L ++ [c])[i]?).getD nop) = L := by
    refine List.ext_getElem (by simp) fun i hi _ => ?_
    have hi' : i < L.length := by simpa using hi
    simp [List.getElem?_append_left hi', hi']
  rw [e] at h1; exact h1
def MB (w0 : World) (K : List Chunk) (F : PH) (v : Value) (xs : List UInt8) (w : World) : Prop := ∃ H, PLe F H ∧ Mem w0 noH (Proofs.YtbpilielamjnoaaGreat.own mono_ByteR 1 5 v xs :: K) H w
theorem MB.start (w : World) : MB w [] noH (.slice none 0 0) [] w := ⟨noH, PLe.refl _, (Mem.start w noH (noH_le _)).nil mono_ByteR 1 5⟩
theorem MB.box {w0 w : World} {K : List Chunk} {F : PH} {v : Value} {xs : List UInt8} (h : MB w0 K F v xs w) (c : Array Value) (T : TypeId) : MB w0 (K ++ [Proofs.YtbpilielamjnoaaGreat.box w.heap.size c T]) F v xs (w.alloc (.cells c T)) := by
  obtain ⟨H, hF, h⟩ := h
  exact ⟨H, hF, h.new c T⟩
theorem MB.own1 {w0 w : World} {K : List Chunk} {F : PH} {v : Value} {xs : List UInt8} (h : MB w0 K F v xs w) (i : Nat) {b : Nat} {c : Array Value} {T : TypeId} (hi : K[i]? = some (Proofs.YtbpilielamjnoaaGreat.box b c T)) : Own w b c T := by
  obtain ⟨H, hF, h⟩ := h
  exact h.box (i + 1) (by simpa using hi)
theorem MB.keep {w0 w w' : World} {K : List Chunk} {F : PH} {v : Value} {xs : List UInt8} (h : MB w0 K F v xs w) (e : Ext w w') : MB w0 K F v xs w' := by
  obtain ⟨H, hF, h⟩ := h
  exact ⟨H, hF, h.ext e⟩
theorem MB.ex {w0 w : World} {K : List Chunk} {F : PH} {v : Value} {xs : List UInt8} (h : MB w0 K F v xs w) : Ext w0 w := by
  obtain ⟨H, hF, h⟩ := h
  exact h.ex
theorem MB.form {w0 w : World} {K : List Chunk} {F : PH} {v : Value} {xs : List UInt8} (h : MB w0 K F v xs w) : ∃ a cap, v = .slice a xs.length cap ∧ xs.length ≤ 9223372036854775807 := by
  obtain ⟨H, hF, h⟩ := h
  exact h.form 0 rfl
theorem MB.own {w0 w : World} {K : List Chunk} {F : PH} {v : Value} {xs : List UInt8} (h : MB w0 K F v xs w) : OwnS w0.heap.size noH w ByteR 1 5 v xs := by
  obtain ⟨H, hF, h⟩ := h
  exact (h.ownS 0 rfl).keepB (fun _ _ => rfl) (fun _ _ => rfl) (fun _ _ h => h)
theorem MB.fresh {w0 w : World} {K : List Chunk} {F : PH} {v : Value} {xs : List UInt8} (h : MB w0 K F v xs w) : FreshB w0 xs (.returned v) w := ⟨v, rfl, h.own, h.ex⟩
theorem MB.src {w0 w : World} {K : List Chunk} {F : PH} {v : Value} {xs : List UInt8} (h : MB w0 K F v xs w) : Src w noH ByteR 1 v xs := by
  exact Src.ofOwn h.own
theorem MB.rep {w0 w : World} {K : List Chunk} {F : PH} {v : Value} {xs : List UInt8} (h : MB w0 K F v xs w) : BytesR (ph w) v xs := h.own.rep mono_ByteR (noH_le _)
theorem MB.take {w0 w w' : World} {K : List Chunk} {F : PH} {v vx : Value} {xs ys : List UInt8} (h : MB w0 K F v xs w) (e : Ext w w') (ho : OwnS w.heap.size noH w' ByteR 1 5 vx ys) : MB w0 K F v xs w' ∧ MB w0 [] F vx ys w' := by
  obtain ⟨H, hF, h⟩ := h
  obtain ⟨H2, hl, -, h2⟩ := h.take e ho mono_ByteR (noH_le _)
  refine ⟨⟨H2, hF.trans hl, h2.init⟩, ⟨H2, hF.trans hl, ?_⟩⟩
  have h3 := h2.pick [K.length + 1] (by simp)
  simpa using h3
theorem MB.take' {w0 w w' : World} {K : List Chunk} {F : PH} {v vx : Value} {xs ys : List UInt8} (h : MB w0 K F v xs w) (e : Ext w w') (ho : OwnS w.heap.size noH w' ByteR 1 5 vx ys) : MB w0 K F vx ys w' := by
  obtain ⟨H, hF, h⟩ := h
  obtain ⟨H2, hl, -, h2⟩ := h.take e ho mono_ByteR (noH_le _)
  refine ⟨H2, hF.trans hl, ?_⟩
  have h3 := h2.pick ((K.length + 1) :: (List.range K.length).map (· + 1)) (by
    rw [List.nodup_cons]
    refine ⟨by simp, ?_⟩
    exact List.Pairwise.map _ (fun a b h => by omega) List.nodup_range)
  have e : ((K.length + 1) :: (List.range K.length).map (· + 1)).map (fun i => (((Proofs.YtbpilielamjnoaaGreat.own mono_ByteR 1 5 v xs :: K) ++ [Proofs.YtbpilielamjnoaaGreat.own mono_ByteR 1 5 vx ys])[i]?).getD nop) = Proofs.YtbpilielamjnoaaGreat.own mono_ByteR 1 5 vx ys :: K := by
    rw [List.map_cons, List.map_map]
    congr 1
    · simp
    · refine List.ext_getElem (by simp) fun i hi _ => ?_
      have hi' : i < K.length := by simpa using hi
      simp [List.getElem?_append_left hi', hi']
  rw [e] at h3; exact h3
theorem MB.ple {w0 w : World} {K : List Chunk} {F : PH} {v : Value} {xs : List UInt8} (h : MB w0 K F v xs w) : PLe F (ph w) := by
  obtain ⟨H, hF, h⟩ := h
  exact hF.trans h.ple
theorem MB.up {w0 w w' : World} {K : List Chunk} {F : PH} {v : Value} {xs : List UInt8} (h : MB w0 K F v xs w) (e : Ext w w') : MB w0 K (Proofs.YtbpilielamjnoaaGreat.up F w w') v xs w' := by
  obtain ⟨H, hF, h⟩ := h
  exact ⟨_, up_mono hF, h.up e⟩
theorem wpList_append_B {P : Program} {ops : Array Oper} {rest : List Oper} {o : Oper} {a : Act} {Q : Exit → Act → World → Prop} (hgd : o.guard = none) (s x : Operand) (t : TypeId)
    (ho : o.op = .call { callee := .builtin .append, args := #[s, x], argTypes := #[t, t] }) {z : Value} {bytes : Nat}
    (ht : P.underlying t = some (.slice 5)) (hinfo : (P.info? 5).map (fun i => (i.zero, i.size, i.bytes)) = some (some z, 1, bytes)) (hzs : z.cells.size = 1) (hby : bytes = 1)
    {w0 w : World} {K : List Chunk} {F : PH} {v vx : Value} {xs ys : List UInt8} (hs : a.eval s = v) (hx : a.eval x = vx) (hS : MB w0 K F v xs w) (hsrc : Src w noH ByteR 1 vx ys)
    (hcnt : xs.length + ys.length ≤ 140737488355328)
    (h : ∀ v' w', MB w0 K F v' (xs ++ ys) w' → wpList P ops Q rest (a.put o.dst v') w') :
    wpList P ops Q (o :: rest) a w := by
  obtain ⟨H, hF, hM⟩ := hS
  obtain ⟨a', cap, hv, h1, h2⟩ := hsrc
  have hsr : Src w H ByteR 1 vx ys := by
    refine ⟨a', cap, hv, h1, ?_⟩
    rcases h2 with h2 | ⟨ad, c, q1, q2, q3⟩
    · exact .inl h2
    · exact .inr ⟨ad, c, q1, (by refine Cells.mono ?_ q2; exact fun _ _ h => h), q3⟩
  refine wpList_append_M 0 hgd s x t ho ht hinfo hzs hs hx hM rfl hsr one_ByteR (by subst hby; omega) hcnt fun v' w' hM' => h v' w' ⟨H, hF, hM'⟩
theorem refZig_c (n : Int) (w : World) (hn : I64 n) : Calls Tryz.prog 120 #[.int .i64 n] w (RetV w (.int .u64 (zig n))) := by
  obtain ⟨h1, h2⟩ := hn
  go_enter Tryz.func120, Tryz.ntmps120
  by_cases h0 : n < 0
  · have hz : (zig n : Int) = 2 * (-(n + 1)) + 1 := by rw [zig, Lib.zigzag, if_neg (by omega)]; omega
    have h0b : decide (n < 0) = true := by simpa using h0
    replace hz := Lib.hid hz
    go_wp2_with fail
    go_ret
    refine ⟨?_, (by with_reducible repeat (first | assumption | exact Ext.rfl' _ | exact Ext.new _ _ | refine Ext.alloc' ?_ _ | refine Ext.drew' ?_ | refine Ext.drewN' ?_ _ | (refine Ext.set' ?_ ?_ _; rotate_left; focus (first | omega | (simp; done) | (simp; omega))) | (refine Ext.then (b := ?_) ?_ ?_; rotate_left; rotate_left; assumption)))⟩
    rw [hz.out]
    first | rfl | (congr 1; done) | (simp only [IntKind.wrap_u64, IntKind.wrap_i64]; refine ret_int ?_; omega)
  · have hz : (zig n : Int) = 2 * n := by rw [zig, Lib.zigzag, if_pos (by omega)]; omega
    have h0b : decide (n < 0) = false := by simpa using h0
    replace hz := Lib.hid hz
    go_wp2_with fail
    go_ret
    refine ⟨?_, (by with_reducible repeat (first | assumption | exact Ext.rfl' _ | exact Ext.new _ _ | refine Ext.alloc' ?_ _ | refine Ext.drew' ?_ | refine Ext.drewN' ?_ _ | (refine Ext.set' ?_ ?_ _; rotate_left; focus (first | omega | (simp; done) | (simp; omega))) | (refine Ext.then (b := ?_) ?_ ?_; rotate_left; rotate_left; assumption)))⟩
    rw [hz.out]
    first | rfl | (congr 1; done) | (simp only [IntKind.wrap_u64, IntKind.wrap_i64]; refine ret_int ?_; omega)
set_option maxRecDepth 100000 in
set_option maxHeartbeats 400000 in
theorem refUint_c (n : Nat) (w : World) (hn : n ≤ 18446744073709551615) : Calls Tryz.prog 119 #[.int .u64 n] w (FreshB w (uvar n)) := by
  have h10 := uvar_len10 hn
  have hM := MB.start w
  go_enter Tryz.func119, Tryz.ntmps119
  go_wp2_with fail
  go_loopw [0, 3] (fun i v wr => ∃ m : Nat, i = .int .u64 m ∧ m ≤ 18446744073709551615 ∧ ∃ pre, Hid (uvar n = pre ++ uvar m) ∧ pre.length ≤ 10 ∧ MB w [] noH v pre wr) (fun i _ _ => (intOf i).toNat)
  case atStart => exact ⟨n, rfl, hn, [], Lib.hid rfl, by simp, hM⟩
  case round =>
    obtain ⟨m, rfl, hm, pre, hpre, hpl, hMr⟩ := hrel
    clear hM
    obtain ⟨a, c, rfl, hl⟩ := hMr.form
    by_cases h128 : m < 128
    · have hE : ByteR noH [.int .u8 m] m.toUInt8 := by unfold ByteR; rw [show (m.toUInt8).toNat = m by simp; omega]
      have hum := Lib.hid (uvar_small h128)
      generalize m.toUInt8 = y at *
      go_wp2_with (at_builtin; refine wpList_append_B rfl _ _ 59 rfl Tryz.underlying59 infoByte rfl rfl rfl rfl (hMr.keep (by with_reducible repeat (first | assumption | exact Ext.rfl' _ | exact Ext.new _ _ | refine Ext.alloc' ?_ _ | refine Ext.drew' ?_ | refine Ext.drewN' ?_ _ | (refine Ext.set' ?_ ?_ _; rotate_left; focus (first | omega | (simp; done) | (simp; omega))) | (refine Ext.then (b := ?_) ?_ ?_; rotate_left; rotate_left; assumption)))) (Src.lit1 hE rfl (fun j => by simp [go_sem])) ?c4 ?c5)
      case c4 => simp; omega
      case c5 =>
        intro l' w2 hM2
        rw [← hum.out, ← hpre.out] at hM2
        obtain ⟨a', c', rfl, -⟩ := hM2.form
        clear hMr
        go_wp2_with fail
        go_ret
        exact hM2.fresh
    · have hE : ByteR noH [.int .u8 (128 + m % 128)] (m % 128 + 128).toUInt8 := by unfold ByteR; rw [show ((m % 128 + 128).toUInt8).toNat = m % 128 + 128 by simp; omega]; simp; omega
      have hum := Lib.hid (uvar_big h128)
      generalize (m % 128 + 128).toUInt8 = y at *
      go_wp2_with (at_builtin; refine wpList_append_B rfl _ _ 59 rfl Tryz.underlying59 infoByte rfl rfl rfl rfl (hMr.keep (by with_reducible repeat (first | assumption | exact Ext.rfl' _ | exact Ext.new _ _ | refine Ext.alloc' ?_ _ | refine Ext.drew' ?_ | refine Ext.drewN' ?_ _ | (refine Ext.set' ?_ ?_ _; rotate_left; focus (first | omega | (simp; done) | (simp; omega))) | (refine Ext.then (b := ?_) ?_ ?_; rotate_left; rotate_left; assumption)))) (Src.lit1 hE rfl (fun j => by simp [go_sem])) ?c6 ?c7)
      case c6 => simp; omega
      case c7 =>
        intro l' w2 hM2
        obtain ⟨a', c', rfl, -⟩ := hM2.form
        clear hMr
        go_wp2_with fail
        go_roundw
        case rel =>
          have hpre2 : uvar n = (pre ++ [y]) ++ uvar (m / 128) := by rw [hpre.out, hum.out]; simp
          refine ⟨m / 128, by go_num, by omega, pre ++ [y], hpre2, ?_, by simpa using hM2⟩
          have := congrArg List.length hpre2
          rw [List.length_append] at this
          omega
        case measure => simp [intOf]; omega
theorem refInt_c (n : Int) (w : World) (hn : I64 n) : Calls Tryz.prog 72 #[.int .i64 n] w (FreshB w (encI n)) := by
  go_enter Tryz.func72, Tryz.ntmps72
  go_wp2_with fail
  refine (refZig_c n _ hn).mono ?_
  rintro e w1 ⟨rfl, hb1⟩
  have hz := zig_le hn
  go_wp2_with fail
  refine (refUint_c _ _ hz).mono ?_
  rintro e w2 ⟨v, rfl, ho, hb2⟩
  have hM := ((MB.start w).keep (w' := w1) (by with_reducible repeat (first | assumption | exact Ext.rfl' _ | exact Ext.new _ _ | refine Ext.alloc' ?_ _ | refine Ext.drew' ?_ | refine Ext.drewN' ?_ _ | (refine Ext.set' ?_ ?_ _; rotate_left; focus (first | omega | (simp; done) | (simp; omega))) | (refine Ext.then (b := ?_) ?_ ?_; rotate_left; rotate_left; assumption)))).take hb2 ho
  have hf := hM.2.fresh
  go_wp2_with fail
  go_ret
  exact hf
set_option maxRecDepth 100000 in
set_option maxHeartbeats 400000 in
theorem refInts_c (vl : Value) (l : List Int) (w : World) (hl : IntsR (ph w) vl l) (hlen : l.length ≤ 10000000) : Calls Tryz.prog 121 #[vl] w (FreshB w (encInts l)) := by
  obtain ⟨a, c, rfl, hll, hl⟩ := hl.form
  go_enter Tryz.func121, Tryz.ntmps121
  go_wp2_with fail
  refine (refUint_c l.length _ (by omega)).mono ?_
  rintro e w1 ⟨v, rfl, ho, hb1⟩
  have hM := ((MB.start w).take hb1 ho).2
  clear ho
  go_wp2_with fail
  go_loopw [3, 4] (fun v i wr => ∃ k : Nat, k ≤ l.length ∧ i = .int .i64 k ∧ MB w [] noH v (uvar l.length ++ encL (l.take k)) wr) (fun _ i _ => l.length - (intOf i).toNat)
  case atStart => exact ⟨0, Nat.zero_le _, rfl, by simpa [encL] using hM⟩
  case round =>
    clear hM hb1
    obtain ⟨k, hk, rfl, hM⟩ := hrel
    have hul : (uvar l.length).length ≤ 10 := uvar_len10 (by omega)
    have hi64 := IntsR.all hl
    have hel : (encL (l.take k)).length ≤ 10 * k := by
      have := encL_len (l := l.take k) fun x hx => hi64 x (List.mem_of_mem_take hx)
      rw [List.length_take] at this; omega
    have hxl : (uvar l.length ++ encL (l.take k)).length ≤ 110000000 := by simp only [List.length_append]; omega
    by_cases hlt : k < l.length
    · obtain ⟨b, o, rfl, h0, hi, hbl⟩ := IntsR.at (hl.mono mono_IntR hM.ex.ple) k hlt
      have hs := Lib.hid (encL_snoc l k hlt)
      have hil := encI_len hi
      generalize l[k] = x at *
      clear hl hi64
      replace hs : Hid (uvar l.length ++ encL (List.take (k + 1) l) = (uvar l.length ++ encL (l.take k)) ++ encI x) := by
        show _ = _; rw [hs.out, List.append_assoc]
      generalize hacc : uvar l.length ++ encL (l.take k) = acc at *
      replace hacc := Lib.hid hacc
      obtain ⟨a1, c1, rfl, -⟩ := hM.form
      go_wp2_with fail
      refine (refInt_c x _ hi).mono ?_
      rintro e w2 ⟨vx, rfl, ho, hb2⟩
      obtain ⟨hM1, hM2⟩ := hM.take hb2 ho
      obtain ⟨a2, c2, rfl, -⟩ := hM2.form
      clear hM hb2 ho h0
      generalize hn2 : (encI x).length = n2 at *
      replace hn2 := Lib.hid hn2
      go_wp2_with (at_builtin; refine wpList_append_B rfl _ _ 59 rfl Tryz.underlying59 infoByte rfl rfl rfl rfl (hM1.keep (by with_reducible repeat (first | assumption | exact Ext.rfl' _ | exact Ext.new _ _ | refine Ext.alloc' ?_ _ | refine Ext.drew' ?_ | refine Ext.drewN' ?_ _ | (refine Ext.set' ?_ ?_ _; rotate_left; focus (first | omega | (simp; done) | (simp; omega))) | (refine Ext.then (b := ?_) ?_ ?_; rotate_left; rotate_left; assumption)))) (hM2.src.keep (by with_reducible repeat (first | assumption | exact Ext.rfl' _ | exact Ext.new _ _ | refine Ext.alloc' ?_ _ | refine Ext.drew' ?_ | refine Ext.drewN' ?_ _ | (refine Ext.set' ?_ ?_ _; rotate_left; focus (first | omega | (simp; done) | (simp; omega))) | (refine Ext.then (b := ?_) ?_ ?_; rotate_left; rotate_left; assumption)))) ?c4 ?c5)
      case c4 => rw [hn2.out]; omega
      case c5 =>
        intro l' w3 hM3
        rw [← hs.out] at hM3
        clear hM1 hM2
        go_wp2_with fail
        go_roundw
        case rel => exact ⟨k + 1, by omega, by go_num, hM3⟩
        case measure => simp [intOf]; omega
    · rw [List.take_of_length_le (by omega)] at hM
      obtain ⟨a1, c1, rfl, -⟩ := hM.form
      have hf := Lib.hid hM.fresh
      clear hM hl
      go_wp2_with fail
      go_ret
      exact hf.out
end Go.Proofs.YtbpilielamjnoaaGreat
namespace Go.Proofs.YtbpilielamjnoaaGreat
open Go.RowKit
set_option linter.unusedSimpArgs false
set_option linter.unusedVariables false
theorem ExtW.set {w w' : World} {g : Nat} (h : ExtW w w' g none) (j : Nat) (v : Value) : ExtW w (w'.setCell ⟨g, j, none⟩ v) g none :=
  ⟨h.os, h.tape, h.output, by simpa using h.size, fun k hk hg hr => by
    rw [Below.heap_setCell _ _ _ _ hg]; exact h.block k hk hg hr⟩
end Go.Proofs.YtbpilielamjnoaaGreat
namespace Go.Proofs.YtbpilielamjnoaaGreat
open Go.RowKit
set_option linter.unusedSimpArgs false
set_option linter.unusedVariables false
end Go.Proofs.YtbpilielamjnoaaGreat
namespace Go.Proofs.YtbpilielamjnoaaGreat
open Go.RowKit
set_option linter.unusedSimpArgs false
set_option linter.unusedVariables false
end Go.Proofs.YtbpilielamjnoaaGreat
namespace Go.Proofs.YtbpilielamjnoaaGreat
open Go.RowKit
set_option linter.unusedSimpArgs false
set_option linter.unusedVariables false
theorem ExtW.grown {w0 w w' : World} {g : Nat} {row : Option Nat} (h : ExtW w0 w g none) (gr : w.grownBy w' row) (hr : ∀ k, row = some k → w0.heap.size ≤ k) : ExtW w0 w' g none :=
  ⟨gr.os.trans h.os, gr.tape.trans h.tape, gr.output.trans h.output, Nat.le_trans h.size gr.size, fun k hk hg hn => by
    rw [gr.block k (by have := h.size; omega) (fun e => by have := hr k e.symm; omega)]
    exact h.block k hk hg hn⟩
end Go.Proofs.YtbpilielamjnoaaGreat
namespace Go.Proofs.YtbpilielamjnoaaGreat
open Go.RowKit
set_option linter.unusedSimpArgs false
set_option linter.unusedVariables false
end Go.Proofs.YtbpilielamjnoaaGreat
namespace Go.Proofs.YtbpilielamjnoaaGreat
open Go.RowKit
set_option linter.unusedSimpArgs false
set_option linter.unusedVariables false
end Go.Proofs.YtbpilielamjnoaaGreat
namespace Go.Proofs.YtbpilielamjnoaaGreat
open Go.RowKit
set_option linter.unusedSimpArgs false
set_option linter.unusedVariables false
def MemX (n : Nat) (L : List Chunk) (H : PH) (w : World) : Prop := ∃ w0, w0.heap.size = n ∧ Mem w0 noH L H w
theorem MemX.start (w : World) : MemX w.heap.size [] noH w := ⟨w, rfl, Mem.start w noH (noH_le _)⟩
theorem MemX.reader {n : Nat} {L : List Chunk} {H : PH} {w w' : World} {g : Nat} (h : MemX n L H w) (e : ExtW w w' g none) (hg : g < n) : MemX n L H w' := by
  obtain ⟨w0, rfl, hM⟩ := h
  have hgl : g < w.heap.size := Nat.lt_of_lt_of_le hg hM.ex.size
  have hgl' : g < w'.heap.size := Nat.lt_of_lt_of_le hgl e.size
  refine ⟨{ w0 with heap := w0.heap.setIfInBounds g w'.heap[g] }, by simp, ?_⟩
  have hne : ∀ {i : Nat} {c : Chunk}, L[i]? = some c → ∀ k, c.foot = some k → k ≠ g := fun hi k hk => by have := (hM.fr _ _ hi k hk).1; omega
  have hHg : ∀ k o, H k = some o → w0.heap.size ≤ k := by
    intro k o hk
    have := hM.ub k o hk
    unfold up at this
    split at this
    · cases this
    · omega
  have hex : Ext { w0 with heap := w0.heap.setIfInBounds g w'.heap[g] } w' := by
    refine ⟨e.os.trans hM.ex.os, e.tape.trans hM.ex.tape, e.output.trans hM.ex.output, by simpa using Nat.le_trans hM.ex.size e.size, fun k hk => ?_⟩
    have hk' : k < w0.heap.size := by simpa using hk
    show w'.heap[k]? = (w0.heap.setIfInBounds g w'.heap[g])[k]?
    by_cases hkg : g = k
    · subst hkg
      rw [Array.getElem?_setIfInBounds_self_of_lt hk']; simp [hgl']
    · rw [Array.getElem?_setIfInBounds_ne hkg, e.block k (Nat.lt_of_lt_of_le hk' hM.ex.size) (fun h => hkg h.symm) (by simp)]
      exact hM.ex.block k hk'
  refine ⟨noH_le _, hM.le, fun k o hk => ?_, hex, fun i c hi => c.loc (hM.ok i c hi) fun k hk => e.block k (hM.lt hi hk) (hne hi k hk) (by simp), fun i c hi k hk => ⟨by simpa using (hM.fr i c hi k hk).1, (hM.fr i c hi k hk).2⟩, hM.ap⟩
  have h1 := hM.ub k o hk
  have h2 := hHg k o hk
  unfold up at h1 ⊢
  rw [if_neg (by omega)] at h1
  rw [if_neg (by simp; omega)]
  show w'.heap[k]? = some o
  rw [e.block k (ph_lt h1) (by omega) (by simp)]; exact h1
theorem MemX.step {n : Nat} {L L' : List Chunk} {H H' : PH} {w w' : World} (h : MemX n L H w) (f : ∀ w0, Mem w0 noH L H w → Mem w0 noH L' H' w') : MemX n L' H' w' := by
  obtain ⟨w0, h1, h2⟩ := h
  exact ⟨w0, h1, f w0 h2⟩
theorem MemX.take {α : Type} {E : PH → List Value → α → Prop} {sz : Nat} {T : TypeId} {v : Value} {xs : List α} {n : Nat} {L : List Chunk} {H : PH} {w w' : World} {g : Nat} (h : MemX n L H w) (e : ExtW w w' g none) (hg : g < n) (ho : OwnS w.heap.size noH w' E sz T v xs) (hm : Mono E) :
    MemX n (L ++ [own hm sz T v xs]) H w' := by
  have h1 := h.reader e hg
  obtain ⟨w0, hn, hM⟩ := h
  obtain ⟨w1, hn1, hM1⟩ := h1
  refine ⟨w1, hn1, hM1.add _ ((own hm sz T v xs).mono ho.c (noH_le H)) fun k hk => ?_⟩
  have h3 := ho.lt k hk
  refine ⟨by have := hM.ex.size; omega, fresh_none hM.ple h3.1, fun i d hi he => ?_⟩
  have := hM.lt hi he
  omega
theorem MemX.join {n : Nat} {L : List Chunk} {H H' : PH} {w w' : World} {g : Nat} (h : MemX n L H w) (e : ExtW w w' g none) (hg : g < n) (hl : PLe H' (up noH w w')) : ∃ H2, PLe H H2 ∧ PLe H' H2 ∧ MemX n L H2 w' := by
  have h1 := h.reader e hg
  obtain ⟨w0, hn, hM⟩ := h
  obtain ⟨w1, hn1, hM1⟩ := h1
  have hge : ∀ k o, H' k = some o → w.heap.size ≤ k := by
    intro k o hk
    have := hl k o hk
    unfold up at this
    split at this
    · cases this
    · omega
  have g1 : PLe H fun k => if k < w.heap.size then H k else H' k := by
    intro k o hk
    show (if k < w.heap.size then H k else H' k) = some o
    rw [if_pos (ph_lt (hM.ple k o hk))]; exact hk
  have g2 : PLe H' fun k => if k < w.heap.size then H k else H' k := by
    intro k o hk
    show (if k < w.heap.size then H k else H' k) = some o
    rw [if_neg (by have := hge k o hk; omega)]; exact hk
  refine ⟨_, g1, g2, w1, hn1, noH_le _, noH_le _, fun k o hk => ?_, hM1.ex, fun i c hi => c.mono (hM1.ok i c hi) g1, fun i c hi k hk => ⟨(hM1.fr i c hi k hk).1, ?_⟩, hM1.ap⟩
  · split at hk
    · exact hM1.ub k o hk
    · have h3 := hl k o hk
      have := hM.ex.size
      unfold up at h3 ⊢
      rw [if_neg (by omega)] at h3 ⊢
      exact h3
  · show (if k < w.heap.size then H k else H' k) = none
    rw [if_pos (hM.lt hi hk)]; exact (hM.fr i c hi k hk).2
end Go.Proofs.YtbpilielamjnoaaGreat
namespace Go.Proofs.YtbpilielamjnoaaGreat
open Go.RowKit
set_option linter.unusedSimpArgs false
set_option linter.unusedVariables false
theorem Mem.same {w0 w3 w5 : World} {L L' : List Chunk} {H H' : PH} (h3 : Mem w0 noH L H w3) (h5 : Mem w0 noH L' H' w5) : ∀ k, k < w0.heap.size → w5.heap[k]? = w3.heap[k]? := by
  intro k hk
  rw [h5.ex.block k hk, h3.ex.block k hk]
theorem ExtW.cells {w w1 : World} {g : Nat} (h : ExtW w w1 g none) : (∀ b o, b < w.heap.size → b ≠ g → w1.cell? ⟨b, o, none⟩ = w.cell? ⟨b, o, none⟩) ∧ (∀ b o, b < w.heap.size → b ≠ g → w1.frozen? ⟨b, o, none⟩ = w.frozen? ⟨b, o, none⟩) ∧ w.heap.size ≤ w1.heap.size := by
  refine ⟨fun b o hb hg => ?_, fun b o hb hg => ?_, h.size⟩
  · unfold World.cell?; rw [h.block b hb hg (by simp)]
  · unfold World.frozen?; rw [h.block b hb hg (by simp)]
end Go.Proofs.YtbpilielamjnoaaGreat
namespace Go.Proofs.YtbpilielamjnoaaGreat
open Go.RowKit
set_option linter.unusedSimpArgs false
set_option linter.unusedVariables false
def byteV (b : UInt8) : Value := .int .u8 b.toNat
theorem cells_byteV {h : PH} : ∀ {xs : List UInt8} {c : List Value}, Cells h ByteR 1 c xs ↔ c = xs.map byteV
  | [], c => by simp [Cells]
  | x :: xs, c => by
    constructor
    · rintro ⟨cs, rest, rfl, h1, h2, h3⟩
      cases h2
      rw [cells_byteV.1 h3]; rfl
    · rintro rfl
      exact ⟨[byteV x], xs.map byteV, rfl, rfl, rfl, cells_byteV.2 rfl⟩
def isB (o : Option Value) : Prop := ∃ x : UInt8, o = some (byteV x)
def AnyB (base n : Nat) (v : Value) (w : World) : Prop := (v = .slice none 0 0 ∧ n = 0) ∨
  ∃ g cap cur, v = .slice (some ⟨g, 0, none⟩) n cap ∧ base ≤ g ∧ w.heap[g]? = some (.cells cur 5 (0, 0)) ∧ n ≤ cap ∧ cap ≤ maxLen ∧ cur.size = cap ∧ ∀ j : Nat, j < n → isB cur[j]?
structure Lb (base : Nat) (w w' : World) : Prop where
  os : w'.os = w.os
  tape : w'.tape = w.tape
  output : w'.output = w.output
  size : w.heap.size ≤ w'.heap.size
  block : ∀ k, k < w.heap.size → w'.heap[k]? = w.heap[k]? ∨ (base ≤ k ∧ ∃ (c c' : Array Value), w.heap[k]? = some (.cells c 5 (0, 0)) ∧ w'.heap[k]? = some (.cells c' 5 (0, 0)) ∧ c'.size = c.size ∧ ∀ j : Nat, isB c[j]? → isB c'[j]?)
theorem Lb.ext {W w w' : World} (h : Ext W w) (k : Lb W.heap.size w w') : Ext W w' :=
  ⟨k.os.trans h.os, k.tape.trans h.tape, k.output.trans h.output, Nat.le_trans h.size k.size, fun i hi => by
    rcases k.block i (by have := h.size; omega) with h1 | ⟨h1, -⟩
    · rw [h1]; exact h.block i hi
    · omega⟩
theorem AnyB.keep {base n : Nat} {v : Value} {w w' : World} (h : AnyB base n v w) (k : Lb base w w') : AnyB base n v w' := by
  rcases h with h | ⟨g, cap, cur, h1, h2, h3, h4, h5, h6, h7⟩
  · exact .inl h
  · rcases k.block g (Array.getElem?_eq_some_iff.1 h3).1 with h8 | ⟨-, c, c', q1, q2, q3, q4⟩
    · exact .inr ⟨g, cap, cur, h1, h2, by rw [h8]; exact h3, h4, h5, h6, h7⟩
    · rw [h3] at q1; cases q1
      exact .inr ⟨g, cap, c', h1, h2, q2, h4, h5, by omega, fun j hj => q4 j (h7 j hj)⟩
theorem AnyB.ofOwn {base : Nat} {v : Value} {w : World} {xs : List UInt8} (h : OwnS base noH w ByteR 1 5 v xs) : AnyB base xs.length v w := by
  rcases h with ⟨rfl, rfl⟩ | ⟨g, cap, cur, rfl, h1, h2, h3, h4, h5, h6, h7⟩
  · exact .inl ⟨rfl, rfl⟩
  · refine .inr ⟨g, cap, cur, rfl, h1, h3, h4, h5, by omega, fun j hj => ?_⟩
    rw [cells_byteV] at h7
    have h8 : (cur.toList.take (xs.length * 1))[j]? = some (byteV xs[j]) := by rw [h7]; simp [hj]
    rw [List.getElem?_take, if_pos (by omega)] at h8
    exact ⟨xs[j], by simpa using h8⟩
theorem anyB_list : ∀ (n : Nat) (c : List Value), (∀ j, j < n → isB c[j]?) → ∃ xs : List UInt8, xs.length = n ∧ c.take n = xs.map byteV
  | 0, c, _ => ⟨[], rfl, by simp⟩
  | n + 1, c, h => by
    obtain ⟨x, hx⟩ := h 0 (by omega)
    cases c with
    | nil => simp at hx
    | cons a c =>
      obtain ⟨xs, h1, h2⟩ := anyB_list n c fun j hj => by simpa using h (j + 1) (by omega)
      refine ⟨x :: xs, by simp [h1], ?_⟩
      simp at hx
      rw [List.take_succ_cons, h2, hx]; rfl
theorem AnyB.own {base n : Nat} {v : Value} {w : World} (h : AnyB base n v w) : ∃ xs, xs.length = n ∧ OwnS base noH w ByteR 1 5 v xs := by
  rcases h with ⟨rfl, rfl⟩ | ⟨g, cap, cur, rfl, h1, h3, h4, h5, h6, h7⟩
  · exact ⟨[], rfl, OwnS.nil _ _ _ _ _ _⟩
  · obtain ⟨xs, h8, h9⟩ := anyB_list n cur.toList fun j hj => by simpa using h7 j hj
    subst h8
    exact ⟨xs, rfl, .inr ⟨g, cap, cur, rfl, h1, rfl, h3, h4, h5, by omega, by rw [cells_byteV, Nat.mul_one]; exact h9⟩⟩
theorem AnyB.rep {base n : Nat} {v : Value} {w : World} (h : AnyB base n v w) : ∃ xs, xs.length = n ∧ BytesR (ph w) v xs := by
  obtain ⟨xs, h1, h2⟩ := h.own
  exact ⟨xs, h1, h2.rep mono_ByteR (noH_le _)⟩
theorem AnyB.form {base n : Nat} {v : Value} {w : World} (h : AnyB base n v w) : ∃ a cap, v = .slice a n cap := by
  rcases h with ⟨rfl, rfl⟩ | ⟨g, cap, cur, rfl, -⟩
  · exact ⟨none, 0, rfl⟩
  · exact ⟨_, cap, rfl⟩
section
variable {P : Program}
end
theorem AnyB.set {base n c : Nat} {a : Option Addr} {w : World} (h : AnyB base n (.slice a n c) w) (k : Nat) (hk : k < n) (x : UInt8) : ∃ g, a = some ⟨g, 0, none⟩ ∧ base ≤ g ∧ g < w.heap.size ∧ (∃ u, w.cell? ⟨g, k, none⟩ = some u) ∧ w.frozen? ⟨g, k, none⟩ = false ∧ AnyB base n (.slice a n c) (w.setCell ⟨g, k, none⟩ (byteV x)) := by
  rcases h with ⟨h1, rfl⟩ | ⟨g, cap, cur, h1, h2, h3, h4, h5, h6, h7⟩
  · omega
  · cases h1
    have hO : Own w g cur 5 := h3
    obtain ⟨y, hy⟩ := h7 k hk
    refine ⟨g, rfl, h2, hO.lt, ⟨byteV y, by rw [hO.facts.1]; exact hy⟩, hO.facts.2 k, .inr ⟨g, c, cur.setIfInBounds k (byteV x), rfl, h2, hO.set k _, h4, h5, by simpa using h6, fun j hj => ?_⟩⟩
    by_cases e : k = j
    · subst e
      exact ⟨x, by rw [Array.getElem?_setIfInBounds_self_of_lt (by omega)]⟩
    · rw [Array.getElem?_setIfInBounds_ne e]; exact h7 j hj
theorem SliceRep.pre {α : Type} {E : PH → List Value → α → Prop} {sz : Nat} {h : PH} {a : Option Addr} {n cap : Nat} {xs : List α} (hr : SliceRep E sz h (.slice a n cap) xs) (k : Nat) (hk : k ≤ xs.length) : SliceRep E sz h (.slice a k cap) (xs.take k) := by
  obtain ⟨a', c', e, h1, h2, h3⟩ := hr
  cases e
  have hlk : (xs.take k).length = k := by rw [List.length_take]; omega
  refine ⟨a, cap, by rw [hlk], by omega, h2, ?_⟩
  rcases h3 with rfl | ⟨b, o, rfl, h3⟩
  · exact .inl (by simp)
  · refine .inr ⟨b, o, rfl, RowRep.of fun i hi => ?_⟩
    have hi' : i < xs.length := by rw [List.length_take] at hi; omega
    obtain ⟨cs, q1, q2, q3⟩ := h3.get i hi'
    exact ⟨cs, q1, q2, by simpa using q3⟩
end Go.Proofs.YtbpilielamjnoaaGreat
namespace Go.Proofs.YtbpilielamjnoaaGreat
open Go.RowKit Go.Shelf
set_option linter.unusedSimpArgs false
set_option linter.unusedVariables false
inductive NF : Fm → Prop where
  | mk (f : Fm) (hk : ∀ g ∈ f.kids, NF g) (hn : nodeS f.op f.n f.inn f.kids = f) (ho : f.op = 4 ∨ f.op = 5 → ∀ g ∈ f.kids, g.op ≠ f.op) : NF f
theorem NF.kids {f : Fm} (h : NF f) : ∀ g ∈ f.kids, NF g := by cases h; assumption
theorem NF.node {f : Fm} (h : NF f) : nodeS f.op f.n f.inn f.kids = f := by cases h; assumption
theorem NF.ops {f : Fm} (h : NF f) : f.op = 4 ∨ f.op = 5 → ∀ g ∈ f.kids, g.op ≠ f.op := by cases h; assumption
theorem NF.simp {f : Fm} (h : NF f) : simpF f = f := by
  induction f using Fm.ind with
  | h f ih =>
    have e : f.kids.map simpF = f.kids := by
      conv => rhs; rw [← List.map_id f.kids]
      exact List.map_congr_left fun g hg => ih g hg (h.kids g hg)
    rw [simpF_eq, e, h.node]
theorem nf_never : NF neverF := .mk _ (by simp [neverF, Fm.kids]) rfl (by simp [neverF, Fm.kids])
theorem nf_no : NF noF := .mk _ (by simp [noF, Fm.kids]) rfl (by simp [noF, Fm.kids])
theorem sort_id {l : List Fm} (h : ascF l) : sortF l = l := asc_uniq (sortF_asc l) h fun x => sortF_mem
theorem join_nf {op : Int} {kids : List Fm} (ho : op = 4 ∨ op = 5) (hk : ∀ g ∈ kids, NF g) : NF (joinF op kids) := by
  have hall : ∀ x ∈ allF op kids, NF x ∧ x.op ≠ op := by
    intro x hx
    obtain ⟨g, hg, ⟨h1, h2⟩ | ⟨h1, rfl⟩⟩ := all_mem hx
    · refine ⟨(hk g hg).kids x h2, fun e => ?_⟩
      exact (hk g hg).ops (by rw [h1]; exact ho) x h2 (by rw [h1]; exact e)
    · exact ⟨hk _ hg, h1⟩
  rw [joinF]
  split
  · exact nf_never
  · rename_i hA
    split
    · exact nf_no
    · rename_i hB
      split
      · rename_i x hx
        have : x ∈ sortF ((allF op kids).filter fun g => !decide (g.op = 0)) := by rw [hx]; simp
        exact (hall x (List.mem_filter.1 (sortF_mem.1 this)).1).1
      · split
        · exact nf_no
        · rename_i h4
          have : op = 5 := by omega
          subst this
          exact nf_never
      · rename_i hx1 hx2
        have hmem : ∀ x ∈ sortF ((allF op kids).filter fun g => !decide (g.op = 0)), x ∈ allF op kids ∧ x.op ≠ 0 := fun x hx => by
          have := List.mem_filter.1 (sortF_mem.1 hx)
          exact ⟨this.1, by simpa using this.2⟩
        have hasc := sortF_asc ((allF op kids).filter fun g => !decide (g.op = 0))
        generalize sortF ((allF op kids).filter fun g => !decide (g.op = 0)) = out at *
        have e1 : allF op out = out := by
          unfold allF
          have : ∀ l : List Fm, (∀ x ∈ l, x.op ≠ op) → (l.flatMap fun g => if g.op = op then g.kids else [g]) = l := by
            intro l
            induction l with
            | nil => intro _; rfl
            | cons y l ih =>
              intro h
              rw [List.flatMap_cons, if_neg (h y (by simp)), ih fun x hx => h x (by simp [hx])]; rfl
          exact this out fun x hx => (hall x (hmem x hx).1).2
        have e2 : out.filter (fun g => !decide (g.op = 0)) = out := by
          rw [List.filter_eq_self]
          intro x hx; simpa using (hmem x hx).2
        refine .mk _ (fun g hg => (hall g (hmem g hg).1).1) ?_ fun _ g hg => (hall g (hmem g hg).1).2
        show nodeS op 0 [] out = .mk op 0 [] out
        unfold nodeS
        rw [if_neg (by omega), if_neg (by omega), if_neg (by omega), if_pos ho]
        unfold joinF
        rw [e1, e2, sort_id hasc, if_neg, if_neg]
        · split
          · exact absurd rfl (hx1 _)
          · exact absurd rfl hx2
          · rfl
        · rintro ⟨-, h2⟩
          obtain ⟨x, hx, h3⟩ := List.any_eq_true.1 h2
          exact (hmem x hx).2 (by simpa using h3)
        · rintro ⟨h1, h2⟩
          obtain ⟨x, hx, h3⟩ := List.any_eq_true.1 h2
          exact hA ⟨h1, List.any_eq_true.2 ⟨x, (hmem x hx).1, h3⟩⟩
theorem node_nf {cl op n : Int} {inn : List Itv} {kids : List Fm} (h : wholeN cl (.mk op n inn kids) = true) (hk : ∀ g ∈ kids, NF g) : NF (nodeS op n inn kids) := by
  have hself : nodeS op n inn kids = .mk op n inn kids → ¬ (op = 4 ∨ op = 5) → NF (.mk op n inn kids) := fun e ho => .mk _ hk e fun h2 => absurd h2 ho
  have hw : ∀ g ∈ kids, wholeN cl g = true := fun g hg => wholeN_k h hg
  by_cases h2 : op = 2
  · by_cases hi : inn = []
    · have e : nodeS op n inn kids = neverF := by unfold nodeS; rw [if_pos h2, if_pos hi]
      rw [e]; exact nf_never
    · have e : nodeS op n inn kids = .mk op n inn kids := by unfold nodeS; rw [if_pos h2, if_neg hi]
      rw [e]; exact hself e (by omega)
  by_cases h3 : op = 3
  · by_cases hn : neverB (kids.headD noF) = true
    · have e : nodeS op n inn kids = neverF := by unfold nodeS; rw [if_neg h2, if_pos h3, if_pos hn]
      rw [e]; exact nf_never
    · have e : nodeS op n inn kids = .mk op n inn kids := by unfold nodeS; rw [if_neg h2, if_pos h3, if_neg hn]
      rw [e]; exact hself e (by omega)
  by_cases h6 : op = 6
  · by_cases h0 : (kids.headD noF).op = 0
    · have e : nodeS op n inn kids = neverF := by unfold nodeS; rw [if_neg h2, if_neg h3, if_pos h6, if_pos h0]
      rw [e]; exact nf_never
    by_cases hn : neverB (kids.headD noF) = true
    · have e : nodeS op n inn kids = noF := by unfold nodeS; rw [if_neg h2, if_neg h3, if_pos h6, if_neg h0, if_pos hn]
      rw [e]; exact nf_no
    by_cases h66 : (kids.headD noF).op = 6
    · have e : nodeS op n inn kids = (kids.headD noF).kids.headD noF := by unfold nodeS; rw [if_neg h2, if_neg h3, if_pos h6, if_neg h0, if_neg hn, if_pos h66]
      rw [e]
      obtain ⟨g, hg⟩ := formed_one (wholeN_formed h) (.inr h6)
      have hg' : kids = [g] := hg
      subst hg'
      obtain ⟨g', hg'⟩ := formed_one (wholeN_formed (hw g (by simp))) (.inr h66)
      show NF (g.kids.headD noF)
      rw [hg']
      exact (hk g (by simp)).kids g' (by rw [hg']; simp)
    · have e : nodeS op n inn kids = .mk op n inn kids := by unfold nodeS; rw [if_neg h2, if_neg h3, if_pos h6, if_neg h0, if_neg hn, if_neg h66]
      rw [e]; exact hself e (by omega)
  by_cases h45 : op = 4 ∨ op = 5
  · have e : nodeS op n inn kids = joinF op kids := by unfold nodeS; rw [if_neg h2, if_neg h3, if_neg h6, if_pos h45]
    rw [e]; exact join_nf h45 hk
  · have e : nodeS op n inn kids = .mk op n inn kids := by unfold nodeS; rw [if_neg h2, if_neg h3, if_neg h6, if_neg h45]
    rw [e]; exact hself e h45
theorem simp_nf {cl : Int} (f : Fm) : wholeN cl f = true → NF (simpF f) := by
  induction f using Fm.ind with
  | h f ih =>
    intro h
    have e := f.eta
    have h' := h
    rw [e] at h'
    rw [simpF_eq]
    refine node_nf (cl := cl) (wholeN_mk' h' (by simp) fun g hg => ?_) fun g hg => ?_
    · obtain ⟨x, hx, rfl⟩ := List.mem_map.1 hg
      exact simp_whole x (wholeN_k h hx)
    · obtain ⟨x, hx, rfl⟩ := List.mem_map.1 hg
      exact ih x hx (wholeN_k h hx)
theorem simp_twice {f : Fm} {cl : Int} (h : wholeN cl f = true) : simpF (simpF f) = simpF f := (simp_nf f h).simp
theorem push_twice {cl : Int} (f : Fm) : wholeN cl f = true → pushP (pushP f) = pushP f ∧ pushP (pushN f) = pushN f := by
  induction f using Fm.ind with
  | h f ih =>
    intro h
    have hf := wholeN_formed h
    have ho := formed_op hf
    have hPP : (f.kids.map pushP).map pushP = f.kids.map pushP := by
      rw [List.map_map]
      exact List.map_congr_left fun g hg => (ih g hg (wholeN_k h hg)).1
    have hPN : (f.kids.map pushN).map pushP = f.kids.map pushN := by
      rw [List.map_map]
      exact List.map_congr_left fun g hg => (ih g hg (wholeN_k h hg)).2
    have hmk : ∀ (op : Int) (ks : List Fm), op ≠ 6 → ks.map pushP = ks → pushP (.mk op f.n f.inn ks) = .mk op f.n f.inn ks := fun op ks h1 h2 => by
      rw [pushP_eq]
      show (if op = 6 then _ else Fm.mk op f.n f.inn (ks.map pushP)) = _
      rw [if_neg h1, h2]
    constructor
    · rw [pushP_eq f]
      split
      · rename_i h6
        obtain ⟨g, hg⟩ := formed_one hf (.inr h6)
        rw [hg, pushNF_one]
        exact (ih g (by rw [hg]; simp) (wholeN_k h (by rw [hg]; simp))).2
      · rename_i h6; exact hmk _ _ h6 hPP
    · rw [pushN_eq f]
      split
      · rfl
      · split
        · rename_i h0 h6
          obtain ⟨g, hg⟩ := formed_one hf (.inr h6)
          rw [hg, pushPF_one]
          exact (ih g (by rw [hg]; simp) (wholeN_k h (by rw [hg]; simp))).1
        · split
          · rfl
          · split
            · exact hmk 5 _ (by decide) hPN
            · split
              · exact hmk 4 _ (by decide) hPN
              · rename_i h0 h6 hn h4 h5
                rw [pushP_eq]
                show (if (6 : Int) = 6 then pushNF [Fm.mk f.op f.n f.inn (f.kids.map pushP)] else _) = _
                rw [if_pos rfl, pushNF_one, pushN_eq, if_neg (by exact h0), if_neg (by exact h6), if_neg (by intro e; exact h5 e.1), if_neg (by exact h4), if_neg (by exact h5)]
                show Fm.mk 6 0 [] [.mk f.op f.n f.inn ((f.kids.map pushP).map pushP)] = _
                rw [hPP]
theorem push_e2 {f : Fm} (h : (pushE f).2 = 0) : pushE (pushE f).1 = ((pushE f).1, 0) := by
  unfold pushE at h ⊢
  by_cases hv : validF f = 0
  · by_cases hp : validF (pushP f) = 0
    · rw [if_pos hv, if_pos hp]
      show (if validF (pushP f) = 0 then _ else _) = _
      rw [if_pos hp, (push_twice f (wholeN_64 (validF_0 hv).2.2)).1, if_pos hp]
    · rw [if_pos hv, if_neg hp] at h; cases h
  · rw [if_neg hv] at h; exact absurd h hv
theorem simple_e2 {f : Fm} (h : (simpleE f).2 = 0) : simpleE (simpleE f).1 = ((simpleE f).1, 0) := by
  unfold simpleE at h ⊢
  by_cases hv : validF f = 0
  · have hw := wholeN_64 (validF_0 hv).2.2
    rw [if_pos hv]
    show (if validF (simpF f) = 0 then _ else _) = _
    rw [if_pos (simp_valid hv hw).1, simp_twice hw]
  · rw [if_neg hv] at h; exact absurd h hv
end Go.Proofs.YtbpilielamjnoaaGreat
namespace Go.Proofs.YtbpilielamjnoaaGreat
open Go.RowKit
set_option linter.unusedSimpArgs false
set_option linter.unusedVariables false
set_option maxHeartbeats 400000 in
theorem sameBytes_c (va vb : Value) (l m : List UInt8) (w : World) (ha : BytesR (ph w) va l) (hb : BytesR (ph w) vb m) :
    Calls Tryz.prog 33 #[va, vb] w (RetV w (.bool (B (l = m)))) := by
  obtain ⟨a, c, rfl, hlen, ha⟩ := ha.form
  obtain ⟨a', c', rfl, hlen', hb⟩ := hb.form
  by_cases hl : l.length = m.length
  · have HL := Lib.hid hl
    have hlb : ((l.length : Int) == (m.length : Int)) = true := by simp [hl]
    clear hl
    go_enter Tryz.func33, Tryz.ntmps33
    go_wp2_with fail
    go_loopw [5] (fun i wr => ∃ k : Nat, k ≤ l.length ∧ i = .int .i64 k ∧ Hid (l.take k = m.take k) ∧ Ext w wr) (fun i _ => l.length - (intOf i).toNat)
    case atStart => exact ⟨0, Nat.zero_le _, rfl, Lib.hid (by simp), (by with_reducible repeat (first | assumption | exact Ext.rfl' _ | exact Ext.new _ _ | refine Ext.alloc' ?_ _ | refine Ext.drew' ?_ | refine Ext.drewN' ?_ _ | (refine Ext.set' ?_ ?_ _; rotate_left; focus (first | omega | (simp; done) | (simp; omega))) | (refine Ext.then (b := ?_) ?_ ?_; rotate_left; rotate_left; assumption)))⟩
    case round =>
      obtain ⟨k, hk, rfl, ht, hx⟩ := hrel
      by_cases hlt : k < l.length
      · have hlm : k < m.length := by have := HL.out; omega
        obtain ⟨b, o, rfl, h0, hbl⟩ := BytesR.at (ha.mono mono_ByteR hx.ple) k hlt
        obtain ⟨b', o', rfl, h0', hbl'⟩ := BytesR.at (hb.mono mono_ByteR hx.ple) k hlm
        generalize hx1 : l[k] = x at *
        generalize hx2 : m[k] = y at *
        replace hx1 := Lib.hid hx1
        replace hx2 := Lib.hid hx2
        clear ha hb
        go_wp2_with fail
        (refine wp_region_calm (S := fun w' => Ext _ w') (by kernel_rfl) (by kernel_rfl) (Ext.rfl' _).drew' ?_; (try simp only [List.toList_toArray]); (repeat (first | (refine walkF_skip ?_ ?_; (focus rfl); (try simp only [Act.put, List.setIfInBounds_toArray, List.set_cons_zero, List.set_cons_succ])) | (refine walkF_step (v := ?_) rfl ?_ ?_ ?_; rotate_left; (focus rfl); (focus (intro w' hS A hA K hK; (simp only [agrees, Op.operands, Call.operands, Act.eval, Array.getD_eq_getD_getElem?, List.getElem?_toArray, List.getElem?_cons_succ, List.getElem?_cons_zero, Option.getD_some, and_true, true_and, List.append_toArray, List.nil_append, List.cons_append, List.toList_toArray, Array.toList_append] at hA); (obtain ⟨hSc, hSf, hSs⟩ := hS.cells; go_simp; exact hK _ hS))); (try simp only [Act.put, List.setIfInBounds_toArray, List.set_cons_zero, List.set_cons_succ])))); refine walkF_nil ?_)
        intro w2 hw2
        by_cases hxy : x = y
        · subst hxy
          go_wp2_with fail
          all_goals first
            | (exfalso; simp_all; done)
            | (go_roundw
               case rel => exact ⟨k + 1, by omega, by go_num, Lib.hid (by rw [take_snoc l k hlt, take_snoc m k hlm, ht.out, hx1.out, hx2.out]), (by with_reducible repeat (first | assumption | exact Ext.rfl' _ | exact Ext.new _ _ | refine Ext.alloc' ?_ _ | refine Ext.drew' ?_ | refine Ext.drewN' ?_ _ | (refine Ext.set' ?_ ?_ _; rotate_left; focus (first | omega | (simp; done) | (simp; omega))) | (refine Ext.then (b := ?_) ?_ ?_; rotate_left; rotate_left; assumption)))⟩
               case measure => simp [intOf]; omega)
        · have hn : ((x.toNat : Int) == (y.toNat : Int)) = false := by
            rw [beq_eq_false_iff_ne]; intro h; apply hxy; exact UInt8.toNat_inj.1 (by omega)
          replace hxy := Lib.hid hxy
          go_wp2_with fail
          all_goals first
            | (exfalso; simp_all; done)
            | (go_ret
               refine ⟨ret_f (fun h => ?_), (by with_reducible repeat (first | assumption | exact Ext.rfl' _ | exact Ext.new _ _ | refine Ext.alloc' ?_ _ | refine Ext.drew' ?_ | refine Ext.drewN' ?_ _ | (refine Ext.set' ?_ ?_ _; rotate_left; focus (first | omega | (simp; done) | (simp; omega))) | (refine Ext.then (b := ?_) ?_ ?_; rotate_left; rotate_left; assumption)))⟩
               subst h
               exact hxy.out (hx1.out.symm.trans hx2.out))
      · have hkl : k = l.length := by omega
        clear ha hb
        go_wp2_with fail
        go_ret
        refine ⟨ret_t ?_, (by with_reducible repeat (first | assumption | exact Ext.rfl' _ | exact Ext.new _ _ | refine Ext.alloc' ?_ _ | refine Ext.drew' ?_ | refine Ext.drewN' ?_ _ | (refine Ext.set' ?_ ?_ _; rotate_left; focus (first | omega | (simp; done) | (simp; omega))) | (refine Ext.then (b := ?_) ?_ ?_; rotate_left; rotate_left; assumption)))⟩
        have h1 := ht.out
        rw [List.take_of_length_le (by omega), List.take_of_length_le (by have := HL.out; omega)] at h1
        exact h1
  · have HL : Hid (¬ l = m) := fun h => hl (by rw [h])
    have hlb : ((l.length : Int) == (m.length : Int)) = false := by rw [beq_eq_false_iff_ne]; omega
    clear hl
    go_enter Tryz.func33, Tryz.ntmps33
    go_wp2_with fail
    go_ret
    exact ⟨ret_f HL.out, (by with_reducible repeat (first | assumption | exact Ext.rfl' _ | exact Ext.new _ _ | refine Ext.alloc' ?_ _ | refine Ext.drew' ?_ | refine Ext.drewN' ?_ _ | (refine Ext.set' ?_ ?_ _; rotate_left; focus (first | omega | (simp; done) | (simp; omega))) | (refine Ext.then (b := ?_) ?_ ?_; rotate_left; rotate_left; assumption)))⟩
end Go.Proofs.YtbpilielamjnoaaGreat
namespace Go.Proofs.YtbpilielamjnoaaGreat
open Go.RowKit Go.Shelf
set_option linter.unusedSimpArgs false
set_option linter.unusedVariables false
def itvN (x : Itv) : List Int := [x.lo.num, x.lo.den, x.hi.num, x.hi.den, oneI x.loO, oneI x.hiO, oneI x.loI, oneI x.hiI]
def itvE (x : Itv) : List UInt8 := encInts (itvN x)
mutual
def bytesF : Fm → List UInt8
  | .mk op n inn kids => encI op ++ (encI n ++ (encI inn.length ++ (inn.flatMap itvE ++ (encI kids.length ++ bytesFs kids))))
def bytesFs : List Fm → List UInt8
  | [] => []
  | f :: l => bytesF f ++ bytesFs l
end
theorem bytesF_eq (f : Fm) : bytesF f = encI f.op ++ (encI f.n ++ (encI f.inn.length ++ (f.inn.flatMap itvE ++ (encI f.kids.length ++ bytesFs f.kids)))) := by cases f; rfl
theorem bytesFs_snoc : ∀ (l : List Fm) (x : Fm), bytesFs (l ++ [x]) = bytesFs l ++ bytesF x
  | [], x => by simp [bytesFs]
  | y :: l, x => by rw [List.cons_append, bytesFs, bytesFs, bytesFs_snoc l x, List.append_assoc]
def NodeI (f : Fm) : Prop := I64 f.op ∧ I64 f.n ∧ (∀ x ∈ f.inn, x.I) ∧ f.inn.length ≤ 9223372036854775807 ∧ f.kids.length ≤ 9223372036854775807
def FmI (f : Fm) : Prop := ∀ g ∈ f.pre, NodeI g
theorem FmI.node {f : Fm} (h : FmI f) : NodeI f := h f (by rw [f.pre_eq]; simp)
theorem FmI.kid {f g : Fm} (h : FmI f) (hg : g ∈ f.kids) : FmI g := fun x hx => h x (by
  rw [f.pre_eq, List.mem_cons, List.mem_flatMap]; exact .inr ⟨g, hg, hx⟩)
theorem FmI.of {f : Fm} (h : NodeI f) (hk : ∀ g ∈ f.kids, FmI g) : FmI f := fun x hx => by
  rw [f.pre_eq, List.mem_cons, List.mem_flatMap] at hx
  rcases hx with rfl | ⟨g, hg, hx⟩
  · exact h
  · exact hk g hg x hx
theorem itvs_I {h : PH} {v : Value} {l : List Itv} (hr : ItvsR h v l) : ∀ x ∈ l, x.I := by
  obtain ⟨a, c, rfl, -, hr⟩ := hr.form
  intro x hx
  obtain ⟨j, hj, rfl⟩ := List.mem_iff_getElem.1 hx
  obtain ⟨b, o, cs, -, -, -, hE⟩ := hr.get j hj
  exact hE.2
theorem FmR.i {h : PH} (f : Fm) : ∀ cs, FmR h cs f → FmI f := by
  induction f using Fm.ind with
  | h f ih =>
    intro cs hr
    obtain ⟨a3, c3, a4, c4, rfl, i1, i2, l1, l2, hi, hk⟩ := hr.form
    refine .of ⟨i1, i2, itvs_I hi, l1, l2⟩ fun g hg => ?_
    obtain ⟨j, hj, rfl⟩ := List.mem_iff_getElem.1 hg
    obtain ⟨b, o, cs, -, -, -, hE⟩ := hk.get j hj
    exact ih _ hg cs hE
theorem itvN_I {x : Itv} (h : x.I) : ∀ y ∈ itvN x, I64 y := by
  obtain ⟨⟨h1, h2⟩, h3, h4⟩ := h
  intro y hy
  simp only [itvN, List.mem_cons, List.not_mem_nil, or_false] at hy
  rcases hy with rfl | rfl | rfl | rfl | rfl | rfl | rfl | rfl <;> first | exact oneI_I64 _ | assumption
theorem itvN_inj {x y : Itv} (h : itvN x = itvN y) : x = y := by
  obtain ⟨⟨a, b⟩, ⟨c, d⟩, p, q, r, s⟩ := x
  obtain ⟨⟨a', b'⟩, ⟨c', d'⟩, p', q', r', s'⟩ := y
  simp only [itvN, List.cons.injEq, and_true] at h
  obtain ⟨h1, h2, h3, h4, h5, h6, h7, h8⟩ := h
  have := oneI_inj h5; have := oneI_inj h6; have := oneI_inj h7; have := oneI_inj h8
  subst_vars; rfl
theorem itvs_pre : ∀ {l m : List Itv}, l.length = m.length → (∀ x ∈ l, x.I) → (∀ x ∈ m, x.I) → ∀ {r s : List UInt8}, l.flatMap itvE ++ r = m.flatMap itvE ++ s → l = m ∧ r = s
  | [], [], _, _, _, r, s, h => ⟨rfl, h⟩
  | [], _ :: _, h, _, _, _, _, _ => by simp at h
  | _ :: _, [], h, _, _, _, _, _ => by simp at h
  | x :: l, y :: m, hl, h1, h2, r, s, h => by
    rw [List.flatMap_cons, List.flatMap_cons, List.append_assoc, List.append_assoc] at h
    obtain ⟨h3, h4⟩ := encInts_pre (itvN_I (h1 x (by simp))) (itvN_I (h2 y (by simp))) h
    obtain ⟨h5, h6⟩ := itvs_pre (by simpa using hl) (fun z hz => h1 z (by simp [hz])) (fun z hz => h2 z (by simp [hz])) h4
    exact ⟨by rw [itvN_inj h3, h5], h6⟩
theorem bytes_pre (f : Fm) : ∀ (g : Fm) (r s : List UInt8), FmI f → FmI g → bytesF f ++ r = bytesF g ++ s → f = g ∧ r = s := by
  induction f using Fm.ind with
  | h f ih =>
    intro g r s hf hg h
    have hs : ∀ (l m : List Fm), (∀ x ∈ l, ∀ (y : Fm) (r s : List UInt8), FmI x → FmI y → bytesF x ++ r = bytesF y ++ s → x = y ∧ r = s) → l.length = m.length → (∀ x ∈ l, FmI x) → (∀ x ∈ m, FmI x) → ∀ r s : List UInt8, bytesFs l ++ r = bytesFs m ++ s → l = m ∧ r = s := by
      intro l
      induction l with
      | nil =>
        intro m _ hl _ _ r s h
        cases m with
        | nil => exact ⟨rfl, h⟩
        | cons y m => simp at hl
      | cons x l ihl =>
        intro m hx hl h1 h2 r s h
        cases m with
        | nil => simp at hl
        | cons y m =>
          rw [bytesFs, bytesFs, List.append_assoc, List.append_assoc] at h
          obtain ⟨rfl, h4⟩ := hx x (by simp) y _ _ (h1 x (by simp)) (h2 y (by simp)) h
          obtain ⟨rfl, h6⟩ := ihl m (fun z hz => hx z (by simp [hz])) (by simpa using hl) (fun z hz => h1 z (by simp [hz])) (fun z hz => h2 z (by simp [hz])) r s h4
          exact ⟨rfl, h6⟩
    obtain ⟨i1, i2, i3, i4, i5⟩ := hf.node
    obtain ⟨j1, j2, j3, j4, j5⟩ := hg.node
    rw [bytesF_eq, bytesF_eq] at h
    simp only [List.append_assoc] at h
    obtain ⟨e1, h⟩ := encI_pre i1 j1 h
    obtain ⟨e2, h⟩ := encI_pre i2 j2 h
    obtain ⟨e3, h⟩ := encI_pre (by unfold I64; omega) (by unfold I64; omega) h
    obtain ⟨e4, h⟩ := itvs_pre (by omega) i3 j3 h
    obtain ⟨e5, h⟩ := encI_pre (by unfold I64; omega) (by unfold I64; omega) h
    obtain ⟨e6, h⟩ := hs f.kids g.kids ih (by omega) (fun x hx => hf.kid hx) (fun x hx => hg.kid hx) r s h
    exact ⟨by rw [f.eta, g.eta, e1, e2, e4, e6], h⟩
theorem bytes_inj {f g : Fm} (hf : FmI f) (hg : FmI g) : bytesF f = bytesF g ↔ f = g := by
  constructor
  · intro h
    exact (bytes_pre f g [] [] hf hg (by rw [h])).1
  · intro h; rw [h]
-- lengths
theorem encInts_le {l : List Int} (h : ∀ x ∈ l, I64 x) (hl : l.length ≤ 1000000) : (encInts l).length ≤ 10 + 10 * l.length := by
  have h1 := encL_len h
  have h2 : (uvar l.length).length ≤ 10 := uvar_len10 (by omega)
  unfold encInts
  rw [List.length_append]; omega
theorem itvE_len {x : Itv} (h : x.I) : (itvE x).length ≤ 90 := by
  have := encInts_le (itvN_I h) (by simp [itvN])
  simpa [itvN, itvE] using this
theorem itvs_len : ∀ {l : List Itv}, (∀ x ∈ l, x.I) → (l.flatMap itvE).length ≤ 90 * l.length
  | [], _ => by simp
  | x :: l, h => by
    rw [List.flatMap_cons, List.length_append, List.length_cons]
    have h1 := itvE_len (h x (by simp))
    have h2 := itvs_len (l := l) fun y hy => h y (by simp [hy])
    omega
theorem bytes_len (f : Fm) : FmI f → (bytesF f).length ≤ 100 * f.bulk := by
  induction f using Fm.ind with
  | h f ih =>
    intro hf
    obtain ⟨i1, i2, i3, i4, i5⟩ := hf.node
    have hs : ∀ l : List Fm, (∀ x ∈ l, (bytesF x).length ≤ 100 * x.bulk) → (bytesFs l).length ≤ 100 * sumN Fm.bulk l := by
      intro l
      induction l with
      | nil => intro _; simp [bytesFs]
      | cons x l ihl =>
        intro h
        have h1 := h x (by simp)
        have h2 := ihl fun y hy => h y (by simp [hy])
        rw [bytesFs, List.length_append]; simp only [sumN]; omega
    have h1 := encI_len i1
    have h2 := encI_len i2
    have h3 : (encI (f.inn.length : Int)).length ≤ 10 := encI_len (by unfold I64; omega)
    have h4 : (encI (f.kids.length : Int)).length ≤ 10 := encI_len (by unfold I64; omega)
    have h5 := itvs_len i3
    have h6 := hs f.kids fun x hx => ih x hx (hf.kid hx)
    have h7 := f.bulk_eq
    rw [bytesF_eq]
    simp only [List.length_append]
    omega
end Go.Proofs.YtbpilielamjnoaaGreat
namespace Go.Proofs.YtbpilielamjnoaaGreat
open Go.RowKit Go.Shelf
set_option linter.unusedSimpArgs false
set_option linter.unusedVariables false
theorem intsOf {w : World} {g : Nat} {l : List Int} {T : TypeId} (ho : Own w g (intC l).toArray T) (hl : ∀ x ∈ l, I64 x) (hn : l.length ≤ 1000) : IntsR (ph w) (.slice (some ⟨g, 0, none⟩) l.length l.length) l := by
  refine ⟨_, l.length, rfl, Nat.le_refl _, by simp [maxLen]; omega, .inr ⟨g, 0, rfl, rowInts _ 0 fun j hj => ⟨?_, hl _ (List.getElem_mem hj)⟩⟩⟩
  rw [Nat.zero_add, ho.facts.1 j]
  simp [intC, hj]
abbrev BytS (b : Nat) (xs : List UInt8) : Value → World → Prop := fun v w => OwnS b noH w ByteR 1 5 v xs
theorem stab_BytS {W : World} (b : Nat) (xs : List UInt8) : Stable W (BytS b xs) := fun v w w' _ h e => h.keep e
set_option maxRecDepth 100000 in
set_option maxHeartbeats 4000000 in
theorem interval7_c (x : Itv) (w : World) (hI : x.I) : Calls Tryz.prog 73 #[itA x] w (FreshB w (itvE x)) := by
  have hE : Hid (itvE x = encInts (itvN x)) := rfl
  have hN := itvN_I hI
  obtain ⟨⟨p, q⟩, ⟨r, s⟩, lO, rO, lI, rI⟩ := x
  unfold itA
  dsimp only
  have o1 := Own.new w #[.int .i64 p, .int .i64 q, .int .i64 r, .int .i64 s, .bool lO, .bool rO, .bool lI, .bool rI] 96
  have hx1 := Ext.new w (.cells #[.int .i64 p, .int .i64 q, .int .i64 r, .int .i64 s, .bool lO, .bool rO, .bool lI, .bool rI] 96)
  generalize itvE _ = R at *
  go_enter Tryz.func73, Tryz.ntmps73
  go_upto_region 1 with (fail)
  generalize w.alloc _ = W at *
  generalize hg1 : w.heap.size = g1 at *
  obtain ⟨bc, -⟩ := o1.facts
  have m0 : _ = some (Value.int .i64 p) := bc 0
  have m1 : _ = some (Value.int .i64 q) := bc 1
  have m2 : _ = some (Value.int .i64 r) := bc 2
  have m3 : _ = some (Value.int .i64 s) := bc 3
  have m4 : _ = some (Value.bool lO) := bc 4
  have m5 : _ = some (Value.bool rO) := bc 5
  have m6 : _ = some (Value.bool lI) := bc 6
  have m7 : _ = some (Value.bool rI) := bc 7
  have ml := o1.lt
  clear bc
  (refine wp_region_I 27 (by kernel_rfl) (by kernel_rfl) ?_; simp only [List.toList_toArray, List.take_succ_cons, List.take_zero, List.drop_succ_cons, List.drop_zero])
  iterate 14 (refine walkI_is (u := ?_) rfl (by simp) rfl ?_ ?_; rotate_left; (focus (intro A w' hS hA K hK; (simp only [List.map_cons, List.map_nil, knows, Is, Op.operands, Call.operands, List.lookup_cons, List.lookup_nil, Nat.reduceBEq, Bool.false_eq_true, if_false, if_true, Act.eval, Array.getD_eq_getD_getElem?, List.getElem?_toArray, List.getElem?_cons_succ, List.getElem?_cons_zero, Option.getD_some, and_true, true_and, List.append_toArray, List.nil_append, List.cons_append, List.toList_toArray, Array.toList_append, Option.toArray, List.append_nil] at hA); (obtain ⟨hSc, hSf, hSs⟩ := hS.cells; go_simp; exact hK _ (by first | exact Ext.rfl' _ | exact Ext.new _ _ | assumption)))); (try simp only [List.nil_append, List.cons_append]))
  (refine walkI_is (u := ?_) rfl (by simp) rfl ?_ ?_; rotate_left; (focus (intro A w' hS hA K hK; (simp only [List.map_cons, List.map_nil, knows, Is, Op.operands, Call.operands, List.lookup_cons, List.lookup_nil, Nat.reduceBEq, Bool.false_eq_true, if_false, if_true, Act.eval, Array.getD_eq_getD_getElem?, List.getElem?_toArray, List.getElem?_cons_succ, List.getElem?_cons_zero, Option.getD_some, and_true, true_and, List.append_toArray, List.nil_append, List.cons_append, List.toList_toArray, Array.toList_append, Option.toArray, List.append_nil] at hA); first | (go_simp; refine RetP_at (one7_c _ _) ?_; exact hK _ (by with_reducible repeat (first | assumption | exact Ext.rfl' _ | exact Ext.new _ _ | refine Ext.alloc' ?_ _ | refine Ext.drew' ?_ | refine Ext.drewN' ?_ _ | (refine Ext.then (b := ?_) ?_ ?_; rotate_left; rotate_left; assumption)))) | (obtain ⟨hSc, hSf, hSs⟩ := hS.cells; go_simp; exact hK _ (by first | exact Ext.rfl' _ | exact Ext.new _ _ | assumption)))); (try simp only [List.nil_append, List.cons_append]))
  iterate 2 (refine walkI_is (u := ?_) rfl (by simp) rfl ?_ ?_; rotate_left; (focus (intro A w' hS hA K hK; (simp only [List.map_cons, List.map_nil, knows, Is, Op.operands, Call.operands, List.lookup_cons, List.lookup_nil, Nat.reduceBEq, Bool.false_eq_true, if_false, if_true, Act.eval, Array.getD_eq_getD_getElem?, List.getElem?_toArray, List.getElem?_cons_succ, List.getElem?_cons_zero, Option.getD_some, and_true, true_and, List.append_toArray, List.nil_append, List.cons_append, List.toList_toArray, Array.toList_append, Option.toArray, List.append_nil] at hA); (obtain ⟨hSc, hSf, hSs⟩ := hS.cells; go_simp; exact hK _ (by first | exact Ext.rfl' _ | exact Ext.new _ _ | assumption)))); (try simp only [List.nil_append, List.cons_append]))
  (refine walkI_is (u := ?_) rfl (by simp) rfl ?_ ?_; rotate_left; (focus (intro A w' hS hA K hK; (simp only [List.map_cons, List.map_nil, knows, Is, Op.operands, Call.operands, List.lookup_cons, List.lookup_nil, Nat.reduceBEq, Bool.false_eq_true, if_false, if_true, Act.eval, Array.getD_eq_getD_getElem?, List.getElem?_toArray, List.getElem?_cons_succ, List.getElem?_cons_zero, Option.getD_some, and_true, true_and, List.append_toArray, List.nil_append, List.cons_append, List.toList_toArray, Array.toList_append, Option.toArray, List.append_nil] at hA); first | (go_simp; refine RetP_at (one7_c _ _) ?_; exact hK _ (by with_reducible repeat (first | assumption | exact Ext.rfl' _ | exact Ext.new _ _ | refine Ext.alloc' ?_ _ | refine Ext.drew' ?_ | refine Ext.drewN' ?_ _ | (refine Ext.then (b := ?_) ?_ ?_; rotate_left; rotate_left; assumption)))) | (obtain ⟨hSc, hSf, hSs⟩ := hS.cells; go_simp; exact hK _ (by first | exact Ext.rfl' _ | exact Ext.new _ _ | assumption)))); (try simp only [List.nil_append, List.cons_append]))
  iterate 2 (refine walkI_is (u := ?_) rfl (by simp) rfl ?_ ?_; rotate_left; (focus (intro A w' hS hA K hK; (simp only [List.map_cons, List.map_nil, knows, Is, Op.operands, Call.operands, List.lookup_cons, List.lookup_nil, Nat.reduceBEq, Bool.false_eq_true, if_false, if_true, Act.eval, Array.getD_eq_getD_getElem?, List.getElem?_toArray, List.getElem?_cons_succ, List.getElem?_cons_zero, Option.getD_some, and_true, true_and, List.append_toArray, List.nil_append, List.cons_append, List.toList_toArray, Array.toList_append, Option.toArray, List.append_nil] at hA); (obtain ⟨hSc, hSf, hSs⟩ := hS.cells; go_simp; exact hK _ (by first | exact Ext.rfl' _ | exact Ext.new _ _ | assumption)))); (try simp only [List.nil_append, List.cons_append]))
  (refine walkI_is (u := ?_) rfl (by simp) rfl ?_ ?_; rotate_left; (focus (intro A w' hS hA K hK; (simp only [List.map_cons, List.map_nil, knows, Is, Op.operands, Call.operands, List.lookup_cons, List.lookup_nil, Nat.reduceBEq, Bool.false_eq_true, if_false, if_true, Act.eval, Array.getD_eq_getD_getElem?, List.getElem?_toArray, List.getElem?_cons_succ, List.getElem?_cons_zero, Option.getD_some, and_true, true_and, List.append_toArray, List.nil_append, List.cons_append, List.toList_toArray, Array.toList_append, Option.toArray, List.append_nil] at hA); first | (go_simp; refine RetP_at (one7_c _ _) ?_; exact hK _ (by with_reducible repeat (first | assumption | exact Ext.rfl' _ | exact Ext.new _ _ | refine Ext.alloc' ?_ _ | refine Ext.drew' ?_ | refine Ext.drewN' ?_ _ | (refine Ext.then (b := ?_) ?_ ?_; rotate_left; rotate_left; assumption)))) | (obtain ⟨hSc, hSf, hSs⟩ := hS.cells; go_simp; exact hK _ (by first | exact Ext.rfl' _ | exact Ext.new _ _ | assumption)))); (try simp only [List.nil_append, List.cons_append]))
  iterate 2 (refine walkI_is (u := ?_) rfl (by simp) rfl ?_ ?_; rotate_left; (focus (intro A w' hS hA K hK; (simp only [List.map_cons, List.map_nil, knows, Is, Op.operands, Call.operands, List.lookup_cons, List.lookup_nil, Nat.reduceBEq, Bool.false_eq_true, if_false, if_true, Act.eval, Array.getD_eq_getD_getElem?, List.getElem?_toArray, List.getElem?_cons_succ, List.getElem?_cons_zero, Option.getD_some, and_true, true_and, List.append_toArray, List.nil_append, List.cons_append, List.toList_toArray, Array.toList_append, Option.toArray, List.append_nil] at hA); (obtain ⟨hSc, hSf, hSs⟩ := hS.cells; go_simp; exact hK _ (by first | exact Ext.rfl' _ | exact Ext.new _ _ | assumption)))); (try simp only [List.nil_append, List.cons_append]))
  (refine walkI_is (u := ?_) rfl (by simp) rfl ?_ ?_; rotate_left; (focus (intro A w' hS hA K hK; (simp only [List.map_cons, List.map_nil, knows, Is, Op.operands, Call.operands, List.lookup_cons, List.lookup_nil, Nat.reduceBEq, Bool.false_eq_true, if_false, if_true, Act.eval, Array.getD_eq_getD_getElem?, List.getElem?_toArray, List.getElem?_cons_succ, List.getElem?_cons_zero, Option.getD_some, and_true, true_and, List.append_toArray, List.nil_append, List.cons_append, List.toList_toArray, Array.toList_append, Option.toArray, List.append_nil] at hA); first | (go_simp; refine RetP_at (one7_c _ _) ?_; exact hK _ (by with_reducible repeat (first | assumption | exact Ext.rfl' _ | exact Ext.new _ _ | refine Ext.alloc' ?_ _ | refine Ext.drew' ?_ | refine Ext.drewN' ?_ _ | (refine Ext.then (b := ?_) ?_ ?_; rotate_left; rotate_left; assumption)))) | (obtain ⟨hSc, hSf, hSs⟩ := hS.cells; go_simp; exact hK _ (by first | exact Ext.rfl' _ | exact Ext.new _ _ | assumption)))); (try simp only [List.nil_append, List.cons_append]))
  (refine walkI_step (NewSl W (intC (itvN ⟨⟨p, q⟩, ⟨r, s⟩, lO, rO, lI, rI⟩)).toArray 3 8) rfl (by simp) rfl (stab_NewSl _ _ _ _) ?_ ?_; (focus (intro A w' hS hA K hK; (simp only [List.map_cons, List.map_nil, knows, Is, Op.operands, Call.operands, List.lookup_cons, List.lookup_nil, Nat.reduceBEq, Bool.false_eq_true, if_false, if_true, Act.eval, Array.getD_eq_getD_getElem?, List.getElem?_toArray, List.getElem?_cons_succ, List.getElem?_cons_zero, Option.getD_some, and_true, true_and, List.append_toArray, List.nil_append, List.cons_append, List.toList_toArray, Array.toList_append, Option.toArray, List.append_nil] at hA); (have hs' := hS.size; go_simp; exact hK _ _ (Ext.new _ _) ⟨_, rfl, Own.new _ _ _, by omega⟩))); (try simp only [List.nil_append, List.cons_append]))
  (refine walkI_step (BytS W.heap.size R) rfl (by simp) rfl (stab_BytS _ _) ?_ ?_; (focus (intro A w' hS hA K hK; (simp only [List.map_cons, List.map_nil, knows, Is, Op.operands, Call.operands, List.lookup_cons, List.lookup_nil, Nat.reduceBEq, Bool.false_eq_true, if_false, if_true, Act.eval, Array.getD_eq_getD_getElem?, List.getElem?_toArray, List.getElem?_cons_succ, List.getElem?_cons_zero, Option.getD_some, and_true, true_and, List.append_toArray, List.nil_append, List.cons_append, List.toList_toArray, Array.toList_append, Option.toArray, List.append_nil] at hA); (obtain ⟨g, hA1, hA2, -⟩ := hA; have hii := intsOf hA2 hN (by simp [itvN]); go_simp; refine (refInts_c _ _ _ hii (by simp [itvN])).mono ?_; rintro e w9 ⟨v, rfl, ho, hx9⟩; exact hK _ _ hx9 (by rw [hE.out]; exact ho.base hS.size)))); (try simp only [List.nil_append, List.cons_append]))
  (refine walkI_step (BytS W.heap.size R) rfl (by simp) rfl (stab_BytS _ _) ?_ ?_; (focus (intro A w' hS hA K hK; (simp only [List.map_cons, List.map_nil, knows, Is, Op.operands, Call.operands, List.lookup_cons, List.lookup_nil, Nat.reduceBEq, Bool.false_eq_true, if_false, if_true, Act.eval, Array.getD_eq_getD_getElem?, List.getElem?_toArray, List.getElem?_cons_succ, List.getElem?_cons_zero, Option.getD_some, and_true, true_and, List.append_toArray, List.nil_append, List.cons_append, List.toList_toArray, Array.toList_append, Option.toArray, List.append_nil] at hA); (go_simp; exact hK _ _ (Ext.rfl' _) hA))); (try simp only [List.nil_append, List.cons_append]))
  (refine walkI_nil ?_; simp only [List.nil_append, List.cons_append, fins, Is, forall_eq, Act.put, List.setIfInBounds_toArray, List.set_cons_zero, List.set_cons_succ])
  rintro W5 hx5 v27 - v28 - v2 ho
  go_wp2_with fail
  refine bodyPost_ret (v := v2) (by simp [results, Tryz.results73, go_sem]) rfl ?_
  exact ⟨v2, rfl, ho.base hx1.size, hx1.then hx5⟩
theorem itvs_snoc (l : List Itv) (k : Nat) (h : k < l.length) : (l.take (k + 1)).flatMap itvE = (l.take k).flatMap itvE ++ itvE l[k] := by
  rw [List.take_succ_eq_append_getElem h, List.flatMap_append]; simp
theorem bytesFs_len {l : List Fm} (h : ∀ x ∈ l, FmI x) : (bytesFs l).length ≤ 100 * sumN Fm.bulk l := by
  induction l with
  | nil => simp [bytesFs]
  | cons x l ih =>
    have h1 := bytes_len x (h x (by simp))
    have h2 := ih fun y hy => h y (by simp [hy])
    rw [bytesFs, List.length_append]; simp only [sumN]; omega
set_option maxRecDepth 100000 in
set_option maxHeartbeats 8000000 in
theorem rbytes7_c (f : Fm) : ∀ (cs : List Value) (w : World), FmR (ph w) cs f → f.bulk ≤ 100000 → Calls Tryz.prog 34 #[.agg cs.toArray] w (FreshB w (bytesF f)) := by
  induction f using Fm.ind with
  | h f ih =>
    intro cs w hr hb
    have hFI := hr.i
    obtain ⟨a3, c3, a4, c4, rfl, i1, i2, l1, l2, hfi, hfk⟩ := hr.form
    have hbe := f.bulk_eq
    have hkl := f.kids_le
    have hbl := bytes_len f hFI
    have hRes : Hid (bytesF f = (((encI f.op ++ encI f.n) ++ encI f.inn.length) ++ f.inn.flatMap itvE ++ encI f.kids.length) ++ bytesFs f.kids) := by
      show _ = _; rw [bytesF_eq]; simp only [List.append_assoc]
    have i3 : I64 (f.inn.length : Int) := by unfold I64; omega
    have i4 : I64 (f.kids.length : Int) := by unfold I64; omega
    have n1 := encI_len i1
    have n2 := encI_len i2
    have n3 := encI_len i3
    have n4 := encI_len i4
    have hIA := Lib.hid hFI.node.2.2.1
    have hKA := Lib.hid (fun x hx => FmI.kid hFI (g := x) hx)
    have HI := Lib.hid ih; clear ih
    have hM0 := (MB.start w).box #[.int .i64 f.op, .int .i64 f.n, .slice a3 f.inn.length c3, .slice a4 f.kids.length c4] 29
    simp only [List.nil_append] at hM0
    unfold fmC
    clear hr
    go_enter Tryz.func34, Tryz.ntmps34
    go_upto_region 1 with (fail)
    generalize w.alloc _ = W at *
    generalize hg1 : w.heap.size = g1 at *
    have hx0 := hM0.ex
    obtain ⟨bc, bf⟩ := (hM0.own1 0 rfl).facts
    have bl := (hM0.own1 0 rfl).lt
    have m0 : _ = some (Value.int .i64 f.op) := bc 0
    have m1 : _ = some (Value.int .i64 f.n) := bc 1
    clear bc
    (refine wp_region_I 6 (by kernel_rfl) (by kernel_rfl) ?_; simp only [List.toList_toArray, List.take_succ_cons, List.take_zero, List.drop_succ_cons, List.drop_zero])
    iterate 2 (refine walkI_is (u := ?_) rfl (by simp) rfl ?_ ?_; rotate_left; (focus (intro A w' hS hA K hK; (simp only [List.map_cons, List.map_nil, knows, Is, Op.operands, Call.operands, List.lookup_cons, List.lookup_nil, Nat.reduceBEq, Bool.false_eq_true, if_false, if_true, Act.eval, Array.getD_eq_getD_getElem?, List.getElem?_toArray, List.getElem?_cons_succ, List.getElem?_cons_zero, Option.getD_some, and_true, true_and, List.append_toArray, List.nil_append, List.cons_append, List.toList_toArray, Array.toList_append, Option.toArray, List.append_nil] at hA); (obtain ⟨hSc, hSf, hSs⟩ := hS.cells; go_simp; exact hK _ (by first | exact Ext.rfl' _ | exact Ext.new _ _ | assumption)))); (try simp only [List.nil_append, List.cons_append]))
    (refine walkI_step (BytS W.heap.size (encI f.op)) rfl (by simp) rfl (stab_BytS _ _) ?_ ?_; (focus (intro A w' hS hA K hK; (simp only [List.map_cons, List.map_nil, knows, Is, Op.operands, Call.operands, List.lookup_cons, List.lookup_nil, Nat.reduceBEq, Bool.false_eq_true, if_false, if_true, Act.eval, Array.getD_eq_getD_getElem?, List.getElem?_toArray, List.getElem?_cons_succ, List.getElem?_cons_zero, Option.getD_some, and_true, true_and, List.append_toArray, List.nil_append, List.cons_append, List.toList_toArray, Array.toList_append, Option.toArray, List.append_nil] at hA); (go_simp; refine (refInt_c _ _ i1).mono ?_; rintro e w9 ⟨v, rfl, ho, hx9⟩; exact hK _ _ hx9 (ho.base hS.size)))); (try simp only [List.nil_append, List.cons_append]))
    iterate 2 (refine walkI_is (u := ?_) rfl (by simp) rfl ?_ ?_; rotate_left; (focus (intro A w' hS hA K hK; (simp only [List.map_cons, List.map_nil, knows, Is, Op.operands, Call.operands, List.lookup_cons, List.lookup_nil, Nat.reduceBEq, Bool.false_eq_true, if_false, if_true, Act.eval, Array.getD_eq_getD_getElem?, List.getElem?_toArray, List.getElem?_cons_succ, List.getElem?_cons_zero, Option.getD_some, and_true, true_and, List.append_toArray, List.nil_append, List.cons_append, List.toList_toArray, Array.toList_append, Option.toArray, List.append_nil] at hA); (obtain ⟨hSc, hSf, hSs⟩ := hS.cells; go_simp; exact hK _ (by first | exact Ext.rfl' _ | exact Ext.new _ _ | assumption)))); (try simp only [List.nil_append, List.cons_append]))
    (refine walkI_step (BytS W.heap.size (encI f.n)) rfl (by simp) rfl (stab_BytS _ _) ?_ ?_; (focus (intro A w' hS hA K hK; (simp only [List.map_cons, List.map_nil, knows, Is, Op.operands, Call.operands, List.lookup_cons, List.lookup_nil, Nat.reduceBEq, Bool.false_eq_true, if_false, if_true, Act.eval, Array.getD_eq_getD_getElem?, List.getElem?_toArray, List.getElem?_cons_succ, List.getElem?_cons_zero, Option.getD_some, and_true, true_and, List.append_toArray, List.nil_append, List.cons_append, List.toList_toArray, Array.toList_append, Option.toArray, List.append_nil] at hA); (go_simp; refine (refInt_c _ _ i2).mono ?_; rintro e w9 ⟨v, rfl, ho, hx9⟩; exact hK _ _ hx9 (ho.base hS.size)))); (try simp only [List.nil_append, List.cons_append]))
    (refine walkI_nil ?_; simp only [List.nil_append, List.cons_append, fins, Is, forall_eq, Act.put, List.setIfInBounds_toArray, List.set_cons_zero, List.set_cons_succ])
    rintro W5 hx5 v8 ho8 v11 ho11
    have hM1 := hM0.take' hx5 ho8
    have hS11 := Src.ofOwn ho11
    obtain ⟨pa, pc, rfl, -⟩ := hM1.form
    obtain ⟨qa, qc, rfl, -⟩ := ho11.form
    clear hM0 hx5 ho8 ho11 m0 m1 bf bl
    generalize hac : encI f.op = x1 at *
    generalize hac2 : encI f.n = x2 at *
    replace hac := Lib.hid hac
    replace hac2 := Lib.hid hac2
    generalize hm1 : x1.length = m1 at *
    generalize hm2 : x2.length = m2 at *
    replace hm1 := Lib.hid hm1
    replace hm2 := Lib.hid hm2
    go_wp2_with (at_builtin; refine wpList_append_B rfl _ _ 59 rfl Tryz.underlying59 infoByte rfl rfl rfl rfl (hM1.keep (by with_reducible repeat (first | assumption | exact Ext.rfl' _ | exact Ext.new _ _ | refine Ext.alloc' ?_ _ | refine Ext.drew' ?_ | refine Ext.drewN' ?_ _ | (refine Ext.then (b := ?_) ?_ ?_; rotate_left; rotate_left; assumption)))) (hS11.keep (by with_reducible repeat (first | assumption | exact Ext.rfl' _ | exact Ext.new _ _ | refine Ext.alloc' ?_ _ | refine Ext.drew' ?_ | refine Ext.drewN' ?_ _ | (refine Ext.then (b := ?_) ?_ ?_; rotate_left; rotate_left; assumption)))) ?c4 ?c5)
    case c4 => rw [hm1.out, hm2.out]; omega
    case c5 =>
    intro v' w6 hM2
    clear hM1 hS11
    have hy2 : (x1 ++ x2).length ≤ 20 := by rw [List.length_append, hm1.out, hm2.out]; omega
    obtain ⟨y2, hy⟩ : ∃ y, Hid (x1 ++ x2 = y) := ⟨_, rfl⟩
    rw [hy.out] at hM2 hy2
    obtain ⟨pa, pc, rfl, -⟩ := hM2.form
    have m2 : _ = some (Value.slice a3 f.inn.length c3) := (hM2.own1 0 rfl).facts.1 2
    have bl := (hM2.own1 0 rfl).lt
    generalize hl2 : y2.length = z2 at *
    replace hl2 := Lib.hid hl2
    generalize hac3 : encI (f.inn.length : Int) = x3 at *
    have hI3 := refInt_c (f.inn.length : Int) w6 i3
    rw [hac3] at hI3
    replace hac3 := Lib.hid hac3
    go_wp2_with fail
    refine hI3.mono ?_
    rintro e w7 ⟨vx, rfl, ho, hb2⟩
    obtain ⟨hMa, hMb⟩ := hM2.take hb2 ho
    obtain ⟨a2, c2, rfl, -⟩ := hMb.form
    have hSb := hMb.src
    clear hM2 hb2 ho m2 bl hMb hI3
    generalize hm3 : x3.length = m3 at *
    replace hm3 := Lib.hid hm3
    go_wp2_with (at_builtin; refine wpList_append_B rfl _ _ 59 rfl Tryz.underlying59 infoByte rfl rfl rfl rfl (hMa.keep (by with_reducible repeat (first | assumption | exact Ext.rfl' _ | exact Ext.new _ _ | refine Ext.alloc' ?_ _ | refine Ext.drew' ?_ | refine Ext.drewN' ?_ _ | (refine Ext.then (b := ?_) ?_ ?_; rotate_left; rotate_left; assumption)))) (hSb.keep (by with_reducible repeat (first | assumption | exact Ext.rfl' _ | exact Ext.new _ _ | refine Ext.alloc' ?_ _ | refine Ext.drew' ?_ | refine Ext.drewN' ?_ _ | (refine Ext.then (b := ?_) ?_ ?_; rotate_left; rotate_left; assumption)))) ?d4 ?d5)
    case d4 => (rw [hl2.out, hm3.out]; omega)
    case d5 =>
    intro v' w8 hM3
    clear hMa hSb
    have hy3 : (y2 ++ x3).length ≤ 30 := by rw [List.length_append, hl2.out, hm3.out]; omega
    obtain ⟨y3, hyy⟩ : ∃ y, Hid (y2 ++ x3 = y) := ⟨_, rfl⟩
    rw [hyy.out] at hM3 hy3
    go_wp2_with fail
    go_loopw [3, 4] (fun v i wr => ∃ k : Nat, k ≤ f.inn.length ∧ i = .int .i64 k ∧ MB w [box g1 #[.int .i64 f.op, .int .i64 f.n, .slice a3 f.inn.length c3, .slice a4 f.kids.length c4] 29] noH v (y3 ++ (f.inn.take k).flatMap itvE) wr) (fun _ i _ => f.inn.length - (intOf i).toNat)
    case atStart => exact ⟨0, by omega, rfl, by simpa using hM3⟩
    case round =>
      clear hM3
      obtain ⟨k, hk, rfl, hM⟩ := hrel
      have m2 : _ = some (Value.slice a3 f.inn.length c3) := (hM.own1 0 rfl).facts.1 2
      have bl := (hM.own1 0 rfl).lt
      have hpl : (y3 ++ (f.inn.take k).flatMap itvE).length ≤ 30 + 90 * 100000 := by
        have := itvs_len (l := f.inn.take k) fun x hx => hIA.out x (List.mem_of_mem_take hx)
        rw [List.length_take] at this
        rw [List.length_append]; omega
      by_cases hlt : k < f.inn.length
      · obtain ⟨b, o, ek, h0, h1, h2, h3, h4, h5, h6, h7, hbl2, hI⟩ := ItvsR.at (hfi.mono mono_ItvR hM.ex.ple) k hlt
        cases ek
        have hsn := Lib.hid (itvs_snoc f.inn k hlt)
        have hc := Lib.hid (fun W => interval7_c f.inn[k] W hI)
        have hel := itvE_len hI
        have hja : decide (k < f.inn.length) = true := decide_eq_true hlt
        generalize f.inn[k] = x at *
        unfold itA at hc
        obtain ⟨pa, pc, rfl, -⟩ := hM.form
        generalize hacc : y3 ++ (f.inn.take k).flatMap itvE = acc at *
        replace hacc := Lib.hid hacc
        generalize hal : acc.length = al at *
        replace hal := Lib.hid hal
        generalize hxe : itvE x = xe at *
        replace hxe := Lib.hid hxe
        go_wp2_with fail
        refine (hc.out _).mono ?_
        rintro e w9 ⟨vx, rfl, ho, hb2⟩
        obtain ⟨hMa, hMb⟩ := hM.take hb2 ho
        obtain ⟨a2, c2, rfl, -⟩ := hMb.form
        have hSb := hMb.src
        clear hM hb2 ho m2 bl hMb hc h0 h1 h2 h3 h4 h5 h6 h7 hbl2
        generalize hxl : xe.length = xl at *
        replace hxl := Lib.hid hxl
        go_wp2_with (at_builtin; refine wpList_append_B rfl _ _ 59 rfl Tryz.underlying59 infoByte rfl rfl rfl rfl (hMa.keep (by with_reducible repeat (first | assumption | exact Ext.rfl' _ | exact Ext.new _ _ | refine Ext.alloc' ?_ _ | refine Ext.drew' ?_ | refine Ext.drewN' ?_ _ | (refine Ext.then (b := ?_) ?_ ?_; rotate_left; rotate_left; assumption)))) (hSb.keep (by with_reducible repeat (first | assumption | exact Ext.rfl' _ | exact Ext.new _ _ | refine Ext.alloc' ?_ _ | refine Ext.drew' ?_ | refine Ext.drewN' ?_ _ | (refine Ext.then (b := ?_) ?_ ?_; rotate_left; rotate_left; assumption)))) ?e4 ?e5)
        case e4 => (rw [hal.out, hxl.out]; omega)
        case e5 =>
        intro v' w10 hM6
        clear hMa hSb
        have hM7 : MB w [box g1 #[.int .i64 f.op, .int .i64 f.n, .slice (some ⟨b, o, none⟩) f.inn.length c3, .slice a4 f.kids.length c4] 29] noH v' (y3 ++ (f.inn.take (k + 1)).flatMap itvE) w10 := by
          rw [hsn.out, ← List.append_assoc, hacc.out]; exact hM6
        go_wp2_with fail
        go_roundw
        case rel => exact ⟨k + 1, by omega, by go_num, hM7⟩
        case measure => simp [intOf]; omega
      · obtain rfl : k = f.inn.length := by omega
        have hja : decide (f.inn.length < f.inn.length) = false := by simp
        rw [List.take_length] at hM hpl
        obtain ⟨y4, hy4⟩ : ∃ y, Hid (y3 ++ f.inn.flatMap itvE = y) := ⟨_, rfl⟩
        rw [hy4.out] at hM hpl
        obtain ⟨pa, pc, rfl, -⟩ := hM.form
        have m3' : _ = some (Value.slice a4 f.kids.length c4) := (hM.own1 0 rfl).facts.1 3
        generalize hl4 : y4.length = z4 at *
        replace hl4 := Lib.hid hl4
        generalize hac4 : encI (f.kids.length : Int) = x4 at *
        have hI4 := refInt_c (f.kids.length : Int) wr i4
        rw [hac4] at hI4
        replace hac4 := Lib.hid hac4
        go_wp2_with fail
        refine hI4.mono ?_
        rintro e w7 ⟨vx, rfl, ho, hb2⟩
        obtain ⟨hMa, hMb⟩ := hM.take hb2 ho
        obtain ⟨a2, c2, rfl, -⟩ := hMb.form
        have hSb := hMb.src
        clear hM hb2 ho m2 m3' bl hMb hI4
        generalize hm4 : x4.length = m4 at *
        replace hm4 := Lib.hid hm4
        go_wp2_with (at_builtin; refine wpList_append_B rfl _ _ 59 rfl Tryz.underlying59 infoByte rfl rfl rfl rfl (hMa.keep (by with_reducible repeat (first | assumption | exact Ext.rfl' _ | exact Ext.new _ _ | refine Ext.alloc' ?_ _ | refine Ext.drew' ?_ | refine Ext.drewN' ?_ _ | (refine Ext.then (b := ?_) ?_ ?_; rotate_left; rotate_left; assumption)))) (hSb.keep (by with_reducible repeat (first | assumption | exact Ext.rfl' _ | exact Ext.new _ _ | refine Ext.alloc' ?_ _ | refine Ext.drew' ?_ | refine Ext.drewN' ?_ _ | (refine Ext.then (b := ?_) ?_ ?_; rotate_left; rotate_left; assumption)))) ?f4 ?f5)
        case f4 => (rw [hl4.out, hm4.out]; omega)
        case f5 =>
        intro v' w8 hM3
        clear hMa hSb
        have hy5 : (y4 ++ x4).length ≤ 40 + 90 * 100000 := by rw [List.length_append, hl4.out, hm4.out]; omega
        obtain ⟨y5, hyz⟩ : ∃ y, Hid (y4 ++ x4 = y) := ⟨_, rfl⟩
        rw [hyz.out] at hM3 hy5
        have hRes2 : Hid (bytesF f = y5 ++ bytesFs f.kids) := by
          show _ = _
          rw [hRes.out, hy.out, hyy.out, hy4.out, hyz.out]
        clear hRes hy hyy hy4 hyz
        go_wp2_with fail
        go_loopw [3, 5] (fun v i wx => ∃ k : Nat, k ≤ f.kids.length ∧ i = .int .i64 k ∧ MB w [box g1 #[.int .i64 f.op, .int .i64 f.n, .slice a3 f.inn.length c3, .slice a4 f.kids.length c4] 29] noH v (y5 ++ bytesFs (f.kids.take k)) wx) (fun _ i _ => f.kids.length - (intOf i).toNat)
        case atStart => exact ⟨0, by omega, rfl, by simpa [bytesFs] using hM3⟩
        case round =>
          clear hM3
          obtain ⟨k, hk, rfl, hM⟩ := hrel
          have m3' : _ = some (Value.slice a4 f.kids.length c4) := (hM.own1 0 rfl).facts.1 3
          have bl := (hM.own1 0 rfl).lt
          have hpl2 : (y5 ++ bytesFs (f.kids.take k)).length ≤ 40 + 90 * 100000 + 100 * 100000 := by
            have h1 := bytesFs_len (l := f.kids.take k) fun x hx => hKA.out x (List.mem_of_mem_take hx)
            have h2 := sumN_take_le Fm.bulk f.kids k
            rw [List.length_append]; omega
          by_cases hlt : k < f.kids.length
          · obtain ⟨kb, ko, k3, q3, k4, q4, ek, z0, z1, z2', z3, hE, zl⟩ := FmsR.atH hfk hM.ex.ple k hlt
            cases ek
            have hsn : Hid (bytesFs (f.kids.take (k + 1)) = bytesFs (f.kids.take k) ++ bytesF f.kids[k]) := by
              show _ = _; rw [List.take_succ_eq_append_getElem hlt, bytesFs_snoc]
            have hkb := Fm.kid_le (List.getElem_mem hlt)
            have hc := HI.out f.kids[k] (List.getElem_mem hlt) _ wr (mono_FmR _ _ _ _ hM.ex.ple hE) (by omega)
            have hel := bytes_len f.kids[k] (hKA.out _ (List.getElem_mem hlt))
            have hja2 : decide (k < f.kids.length) = true := decide_eq_true hlt
            generalize f.kids[k] = x at *
            unfold fmC at hc
            obtain ⟨pa, pc, rfl, -⟩ := hM.form
            generalize hacc : y5 ++ bytesFs (f.kids.take k) = acc at *
            replace hacc := Lib.hid hacc
            generalize hal : acc.length = al at *
            replace hal := Lib.hid hal
            generalize hxe : bytesF x = xe at *
            replace hxe := Lib.hid hxe
            go_wp2_with fail
            refine hc.mono ?_
            rintro e w9 ⟨vx, rfl, ho, hb2⟩
            obtain ⟨hMa, hMb⟩ := hM.take hb2 ho
            obtain ⟨a2, c2, rfl, -⟩ := hMb.form
            have hSb := hMb.src
            clear hM hb2 ho m3' bl hMb hc z0 z1 z2' z3 zl hE
            generalize hxl : xe.length = xl at *
            replace hxl := Lib.hid hxl
            go_wp2_with (at_builtin; refine wpList_append_B rfl _ _ 59 rfl Tryz.underlying59 infoByte rfl rfl rfl rfl (hMa.keep (by with_reducible repeat (first | assumption | exact Ext.rfl' _ | exact Ext.new _ _ | refine Ext.alloc' ?_ _ | refine Ext.drew' ?_ | refine Ext.drewN' ?_ _ | (refine Ext.then (b := ?_) ?_ ?_; rotate_left; rotate_left; assumption)))) (hSb.keep (by with_reducible repeat (first | assumption | exact Ext.rfl' _ | exact Ext.new _ _ | refine Ext.alloc' ?_ _ | refine Ext.drew' ?_ | refine Ext.drewN' ?_ _ | (refine Ext.then (b := ?_) ?_ ?_; rotate_left; rotate_left; assumption)))) ?g4 ?g5)
            case g4 => (rw [hal.out, hxl.out]; omega)
            case g5 =>
            intro v' w10 hM6
            clear hMa hSb
            have hM7 : MB w [box g1 #[.int .i64 f.op, .int .i64 f.n, .slice a3 f.inn.length c3, .slice (some ⟨kb, ko, none⟩) f.kids.length c4] 29] noH v' (y5 ++ bytesFs (f.kids.take (k + 1))) w10 := by
              rw [hsn.out, ← List.append_assoc, hacc.out]; exact hM6
            go_wp2_with fail
            go_roundw
            case rel => exact ⟨k + 1, by omega, by go_num, hM7⟩
            case measure => simp [intOf]; omega
          · obtain rfl : k = f.kids.length := by omega
            have hja2 : decide (f.kids.length < f.kids.length) = false := by simp
            rw [List.take_length, ← hRes2.out] at hM
            have hf := hM.fresh
            obtain ⟨pa, pc, rfl, -⟩ := hM.form
            generalize (bytesF f).length = bl9 at *
            go_wp2_with fail
            go_ret
            exact hf
end Go.Proofs.YtbpilielamjnoaaGreat
