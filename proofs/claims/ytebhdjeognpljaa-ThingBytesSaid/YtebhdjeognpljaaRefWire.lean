/- priorartref02: Uint, Zigzag, Int, Ints: the bytes of numbers. -/
import Derived.Test.YtebhdjeognpljaaWriter
import Derived.Test.YtebhdjeognpljaaMem2
namespace Go.Proofs.Ytebhdjeognpljaa
open Go.RowKit
set_option linter.unusedSimpArgs false
set_option linter.unusedVariables false
theorem Mem.init {w0 w : World} {H0 H : PH} {L : List Chunk} {c : Chunk} (h : Mem w0 H0 (L ++ [c]) H w) : Mem w0 H0 L H w := by
  have h1 := h.pick (List.range L.length) List.nodup_range
  have e : (List.range L.length).map (fun i => ((L ++ [c])[i]?).getD nop) = L := by
    refine List.ext_getElem (by simp) fun i hi _ => ?_
    have hi' : i < L.length := by simpa using hi
    simp [List.getElem?_append_left hi', hi']
  rw [e] at h1; exact h1
/-- bytes under way: v holds xs, in memory made since w0, beside the boxes K; F stands -/
def MB (w0 : World) (K : List Chunk) (F : PH) (v : Value) (xs : List UInt8) (w : World) : Prop := ∃ H, PLe F H ∧ Mem w0 noH (Proofs.Ytebhdjeognpljaa.own mono_ByteR 1 5 v xs :: K) H w
theorem MB.start (w : World) : MB w [] noH (.slice none 0 0) [] w := ⟨noH, PLe.refl _, (Mem.start w noH (noH_le _)).nil mono_ByteR 1 5⟩
theorem MB.box {w0 w : World} {K : List Chunk} {F : PH} {v : Value} {xs : List UInt8} (h : MB w0 K F v xs w) (c : Array Value) (T : TypeId) : MB w0 (K ++ [Proofs.Ytebhdjeognpljaa.box w.heap.size c T]) F v xs (w.alloc (.cells c T)) := by
  obtain ⟨H, hF, h⟩ := h
  exact ⟨H, hF, h.new c T⟩
theorem MB.own1 {w0 w : World} {K : List Chunk} {F : PH} {v : Value} {xs : List UInt8} (h : MB w0 K F v xs w) (i : Nat) {b : Nat} {c : Array Value} {T : TypeId} (hi : K[i]? = some (Proofs.Ytebhdjeognpljaa.box b c T)) : Own w b c T := by
  obtain ⟨H, hF, h⟩ := h
  exact h.box (i + 1) (by simpa using hi)
theorem MB.keep {w0 w w' : World} {K : List Chunk} {F : PH} {v : Value} {xs : List UInt8} (h : MB w0 K F v xs w) (e : Ext w w') : MB w0 K F v xs w' := by
  obtain ⟨H, hF, h⟩ := h
  exact ⟨H, hF, h.ext e⟩
theorem MB.ex {w0 w : World} {K : List Chunk} {F : PH} {v : Value} {xs : List UInt8} (h : MB w0 K F v xs w) : Ext w0 w := by
  obtain ⟨H, hF, h⟩ := h
  exact h.ex
theorem MB.form {w0 w : World} {K : List Chunk} {F : PH} {v : Value} {xs : List UInt8} (h : MB w0 K F v xs w) : ∃ a cap, v = .slice a xs.length cap ∧ xs.length ≤ 9223372036854775807 := by
  obtain ⟨H, hF, h⟩ := h
  exact h.form 0 rfl
theorem MB.own {w0 w : World} {K : List Chunk} {F : PH} {v : Value} {xs : List UInt8} (h : MB w0 K F v xs w) : OwnS w0.heap.size noH w ByteR 1 5 v xs := by
  obtain ⟨H, hF, h⟩ := h
  exact (h.ownS 0 rfl).keepB (fun _ _ => rfl) (fun _ _ => rfl) (fun _ _ h => h)
theorem MB.fresh {w0 w : World} {K : List Chunk} {F : PH} {v : Value} {xs : List UInt8} (h : MB w0 K F v xs w) : FreshB w0 xs (.returned v) w := ⟨v, rfl, h.own, h.ex⟩
theorem MB.src {w0 w : World} {K : List Chunk} {F : PH} {v : Value} {xs : List UInt8} (h : MB w0 K F v xs w) : Src w noH ByteR 1 v xs := by
  exact Src.ofOwn h.own
theorem MB.rep {w0 w : World} {K : List Chunk} {F : PH} {v : Value} {xs : List UInt8} (h : MB w0 K F v xs w) : BytesR (ph w) v xs := h.own.rep mono_ByteR (noH_le _)
/-- a fresh slice beside it -/
theorem MB.take {w0 w w' : World} {K : List Chunk} {F : PH} {v vx : Value} {xs ys : List UInt8} (h : MB w0 K F v xs w) (e : Ext w w') (ho : OwnS w.heap.size noH w' ByteR 1 5 vx ys) : MB w0 K F v xs w' ∧ MB w0 [] F vx ys w' := by
  obtain ⟨H, hF, h⟩ := h
  obtain ⟨H2, hl, -, h2⟩ := h.take e ho mono_ByteR (noH_le _)
  refine ⟨⟨H2, hF.trans hl, h2.init⟩, ⟨H2, hF.trans hl, ?_⟩⟩
  have h3 := h2.pick [K.length + 1] (by simp)
  simpa using h3
/-- .. takes its place -/
theorem MB.take' {w0 w w' : World} {K : List Chunk} {F : PH} {v vx : Value} {xs ys : List UInt8} (h : MB w0 K F v xs w) (e : Ext w w') (ho : OwnS w.heap.size noH w' ByteR 1 5 vx ys) : MB w0 K F vx ys w' := by
  obtain ⟨H, hF, h⟩ := h
  obtain ⟨H2, hl, -, h2⟩ := h.take e ho mono_ByteR (noH_le _)
  refine ⟨H2, hF.trans hl, ?_⟩
  have h3 := h2.pick ((K.length + 1) :: (List.range K.length).map (· + 1)) (by
    rw [List.nodup_cons]
    refine ⟨by simp, ?_⟩
    exact List.Pairwise.map _ (fun a b h => by omega) List.nodup_range)
  have e : ((K.length + 1) :: (List.range K.length).map (· + 1)).map (fun i => (((Proofs.Ytebhdjeognpljaa.own mono_ByteR 1 5 v xs :: K) ++ [Proofs.Ytebhdjeognpljaa.own mono_ByteR 1 5 vx ys])[i]?).getD nop) = Proofs.Ytebhdjeognpljaa.own mono_ByteR 1 5 vx ys :: K := by
    rw [List.map_cons, List.map_map]
    congr 1
    · simp
    · refine List.ext_getElem (by simp) fun i hi _ => ?_
      have hi' : i < K.length := by simpa using hi
      simp [List.getElem?_append_left hi', hi']
  rw [e] at h3; exact h3
theorem MB.ple {w0 w : World} {K : List Chunk} {F : PH} {v : Value} {xs : List UInt8} (h : MB w0 K F v xs w) : PLe F (ph w) := by
  obtain ⟨H, hF, h⟩ := h
  exact hF.trans h.ple
/-- a call has made new memory, which stands -/
theorem MB.up {w0 w w' : World} {K : List Chunk} {F : PH} {v : Value} {xs : List UInt8} (h : MB w0 K F v xs w) (e : Ext w w') : MB w0 K (Proofs.Ytebhdjeognpljaa.up F w w') v xs w' := by
  obtain ⟨H, hF, h⟩ := h
  exact ⟨_, up_mono hF, h.up e⟩
theorem wpList_append_B {P : Program} {ops : Array Oper} {rest : List Oper} {o : Oper} {a : Act} {Q : Exit → Act → World → Prop} (hgd : o.guard = none) (s x : Operand) (t : TypeId)
    (ho : o.op = .call { callee := .builtin .append, args := #[s, x], argTypes := #[t, t] }) {z : Value} {bytes : Nat}
    (ht : P.underlying t = some (.slice 5)) (hinfo : (P.info? 5).map (fun i => (i.zero, i.size, i.bytes)) = some (some z, 1, bytes)) (hzs : z.cells.size = 1) (hby : bytes = 1)
    {w0 w : World} {K : List Chunk} {F : PH} {v vx : Value} {xs ys : List UInt8} (hs : a.eval s = v) (hx : a.eval x = vx) (hS : MB w0 K F v xs w) (hsrc : Src w noH ByteR 1 vx ys)
    (hcnt : xs.length + ys.length ≤ 140737488355328)
    (h : ∀ v' w', MB w0 K F v' (xs ++ ys) w' → wpList P ops Q rest (a.put o.dst v') w') :
    wpList P ops Q (o :: rest) a w := by
  obtain ⟨H, hF, hM⟩ := hS
  obtain ⟨a', cap, hv, h1, h2⟩ := hsrc
  have hsr : Src w H ByteR 1 vx ys := by
    refine ⟨a', cap, hv, h1, ?_⟩
    rcases h2 with h2 | ⟨ad, c, q1, q2, q3⟩
    · exact .inl h2
    · exact .inr ⟨ad, c, q1, (by refine Cells.mono ?_ q2; exact fun _ _ h => h), q3⟩
  refine wpList_append_M 0 hgd s x t ho ht hinfo hzs hs hx hM rfl hsr one_ByteR (by subst hby; omega) hcnt fun v' w' hM' => h v' w' ⟨H, hF, hM'⟩
theorem refZig_c (n : Int) (w : World) (hn : I64 n) : Calls Try.prog 81 #[.int .i64 n] w (RetV w (.int .u64 (zig n))) := by
  obtain ⟨h1, h2⟩ := hn
  go_enter Try.func81, Try.ntmps81
  by_cases h0 : n < 0
  · have hz : (zig n : Int) = 2 * (-(n + 1)) + 1 := by rw [zig, Lib.zigzag, if_neg (by omega)]; omega
    have h0b : decide (n < 0) = true := by simpa using h0
    replace hz := Lib.hid hz
    go_wp2_with fail
    go_ret
    refine ⟨?_, (by repeat (first | (with_reducible assumption) | (with_reducible exact Ext.rfl' _) | (with_reducible exact Ext.new _ _) | (with_reducible refine Ext.alloc' ?_ _) | (with_reducible refine Ext.drew' ?_) | (with_reducible refine Ext.drewN' ?_ _) | (with_reducible refine Ext.set' ?_ ?_ _; rotate_left; (focus (first | omega | (simp; done) | (simp; omega)))) | (with_reducible refine Ext.then (b := ?_) ?_ ?_; rotate_left; rotate_left; (with_reducible assumption))))⟩
    rw [hz.out]
    first | rfl | (congr 1; done) | (simp only [IntKind.wrap_u64, IntKind.wrap_i64]; refine ret_int ?_; omega)
  · have hz : (zig n : Int) = 2 * n := by rw [zig, Lib.zigzag, if_pos (by omega)]; omega
    have h0b : decide (n < 0) = false := by simpa using h0
    replace hz := Lib.hid hz
    go_wp2_with fail
    go_ret
    refine ⟨?_, (by repeat (first | (with_reducible assumption) | (with_reducible exact Ext.rfl' _) | (with_reducible exact Ext.new _ _) | (with_reducible refine Ext.alloc' ?_ _) | (with_reducible refine Ext.drew' ?_) | (with_reducible refine Ext.drewN' ?_ _) | (with_reducible refine Ext.set' ?_ ?_ _; rotate_left; (focus (first | omega | (simp; done) | (simp; omega)))) | (with_reducible refine Ext.then (b := ?_) ?_ ?_; rotate_left; rotate_left; (with_reducible assumption))))⟩
    rw [hz.out]
    first | rfl | (congr 1; done) | (simp only [IntKind.wrap_u64, IntKind.wrap_i64]; refine ret_int ?_; omega)
set_option maxRecDepth 100000 in
set_option maxHeartbeats 400000 in
theorem refUint_c (n : Nat) (w : World) (hn : n ≤ 18446744073709551615) : Calls Try.prog 80 #[.int .u64 n] w (FreshB w (uvar n)) := by
  have h10 := uvar_len10 hn
  have hM := MB.start w
  go_enter Try.func80, Try.ntmps80
  go_wp2_with fail
  go_loopw [0, 3] (fun i v wr => ∃ m : Nat, i = .int .u64 m ∧ m ≤ 18446744073709551615 ∧ ∃ pre, Hid (uvar n = pre ++ uvar m) ∧ pre.length ≤ 10 ∧ MB w [] noH v pre wr) (fun i _ _ => (intOf i).toNat)
  case atStart => exact ⟨n, rfl, hn, [], Lib.hid rfl, by simp, hM⟩
  case round =>
    obtain ⟨m, rfl, hm, pre, hpre, hpl, hMr⟩ := hrel
    clear hM
    obtain ⟨a, c, rfl, hl⟩ := hMr.form
    by_cases h128 : m < 128
    · have hE : ByteR noH [.int .u8 m] m.toUInt8 := by unfold ByteR; rw [show (m.toUInt8).toNat = m by simp; omega]
      have hum := Lib.hid (uvar_small h128)
      generalize m.toUInt8 = y at *
      go_wp2_with (at_builtin; refine wpList_append_B rfl _ _ 46 rfl Try.underlying46 infoByte rfl rfl rfl rfl (hMr.keep (by repeat (first | (with_reducible assumption) | (with_reducible exact Ext.rfl' _) | (with_reducible exact Ext.new _ _) | (with_reducible refine Ext.alloc' ?_ _) | (with_reducible refine Ext.drew' ?_) | (with_reducible refine Ext.drewN' ?_ _) | (with_reducible refine Ext.set' ?_ ?_ _; rotate_left; (focus (first | omega | (simp; done) | (simp; omega)))) | (with_reducible refine Ext.then (b := ?_) ?_ ?_; rotate_left; rotate_left; (with_reducible assumption))))) (Src.lit1 hE rfl (fun j => by simp [go_sem])) ?c4 ?c5)
      case c4 => simp; omega
      case c5 =>
        intro l' w2 hM2
        rw [← hum.out, ← hpre.out] at hM2
        obtain ⟨a', c', rfl, -⟩ := hM2.form
        clear hMr
        go_wp2_with fail
        go_ret
        exact hM2.fresh
    · have hE : ByteR noH [.int .u8 (128 + m % 128)] (m % 128 + 128).toUInt8 := by unfold ByteR; rw [show ((m % 128 + 128).toUInt8).toNat = m % 128 + 128 by simp; omega]; simp; omega
      have hum := Lib.hid (uvar_big h128)
      generalize (m % 128 + 128).toUInt8 = y at *
      go_wp2_with (at_builtin; refine wpList_append_B rfl _ _ 46 rfl Try.underlying46 infoByte rfl rfl rfl rfl (hMr.keep (by repeat (first | (with_reducible assumption) | (with_reducible exact Ext.rfl' _) | (with_reducible exact Ext.new _ _) | (with_reducible refine Ext.alloc' ?_ _) | (with_reducible refine Ext.drew' ?_) | (with_reducible refine Ext.drewN' ?_ _) | (with_reducible refine Ext.set' ?_ ?_ _; rotate_left; (focus (first | omega | (simp; done) | (simp; omega)))) | (with_reducible refine Ext.then (b := ?_) ?_ ?_; rotate_left; rotate_left; (with_reducible assumption))))) (Src.lit1 hE rfl (fun j => by simp [go_sem])) ?c6 ?c7)
      case c6 => simp; omega
      case c7 =>
        intro l' w2 hM2
        obtain ⟨a', c', rfl, -⟩ := hM2.form
        clear hMr
        go_wp2_with fail
        go_roundw
        case rel =>
          have hpre2 : uvar n = (pre ++ [y]) ++ uvar (m / 128) := by rw [hpre.out, hum.out]; simp
          refine ⟨m / 128, by go_num, by omega, pre ++ [y], hpre2, ?_, by simpa using hM2⟩
          have := congrArg List.length hpre2
          rw [List.length_append] at this
          omega
        case measure => simp [intOf]; omega
theorem refInt_c (n : Int) (w : World) (hn : I64 n) : Calls Try.prog 58 #[.int .i64 n] w (FreshB w (encI n)) := by
  go_enter Try.func58, Try.ntmps58
  go_wp2_with fail
  refine (refZig_c n _ hn).mono ?_
  rintro e w1 ⟨rfl, hb1⟩
  have hz := zig_le hn
  go_wp2_with fail
  refine (refUint_c _ _ hz).mono ?_
  rintro e w2 ⟨v, rfl, ho, hb2⟩
  have hM := ((MB.start w).keep (w' := w1) (by repeat (first | (with_reducible assumption) | (with_reducible exact Ext.rfl' _) | (with_reducible exact Ext.new _ _) | (with_reducible refine Ext.alloc' ?_ _) | (with_reducible refine Ext.drew' ?_) | (with_reducible refine Ext.drewN' ?_ _) | (with_reducible refine Ext.set' ?_ ?_ _; rotate_left; (focus (first | omega | (simp; done) | (simp; omega)))) | (with_reducible refine Ext.then (b := ?_) ?_ ?_; rotate_left; rotate_left; (with_reducible assumption))))).take hb2 ho
  have hf := hM.2.fresh
  go_wp2_with fail
  go_ret
  exact hf
set_option maxRecDepth 100000 in
set_option maxHeartbeats 400000 in
theorem refInts_c (vl : Value) (l : List Int) (w : World) (hl : IntsR (ph w) vl l) (hlen : l.length ≤ 10000000) : Calls Try.prog 57 #[vl] w (FreshB w (encInts l)) := by
  obtain ⟨a, c, rfl, hll, hl⟩ := hl.form
  go_enter Try.func57, Try.ntmps57
  go_wp2_with fail
  refine (refUint_c l.length _ (by omega)).mono ?_
  rintro e w1 ⟨v, rfl, ho, hb1⟩
  have hM := ((MB.start w).take hb1 ho).2
  clear ho
  go_wp2_with fail
  go_loopw [3, 4] (fun v i wr => ∃ k : Nat, k ≤ l.length ∧ i = .int .i64 k ∧ MB w [] noH v (uvar l.length ++ encL (l.take k)) wr) (fun _ i _ => l.length - (intOf i).toNat)
  case atStart => exact ⟨0, Nat.zero_le _, rfl, by simpa [encL] using hM⟩
  case round =>
    clear hM hb1
    obtain ⟨k, hk, rfl, hM⟩ := hrel
    have hul : (uvar l.length).length ≤ 10 := uvar_len10 (by omega)
    have hi64 := IntsR.all hl
    have hel : (encL (l.take k)).length ≤ 10 * k := by
      have := encL_len (l := l.take k) fun x hx => hi64 x (List.mem_of_mem_take hx)
      rw [List.length_take] at this; omega
    have hxl : (uvar l.length ++ encL (l.take k)).length ≤ 110000000 := by simp only [List.length_append]; omega
    by_cases hlt : k < l.length
    · obtain ⟨b, o, rfl, h0, hi, hbl⟩ := IntsR.at (hl.mono mono_IntR hM.ex.ple) k hlt
      have hs := Lib.hid (encL_snoc l k hlt)
      have hil := encI_len hi
      generalize l[k] = x at *
      clear hl hi64
      replace hs : Hid (uvar l.length ++ encL (List.take (k + 1) l) = (uvar l.length ++ encL (l.take k)) ++ encI x) := by
        show _ = _; rw [hs.out, List.append_assoc]
      generalize hacc : uvar l.length ++ encL (l.take k) = acc at *
      replace hacc := Lib.hid hacc
      obtain ⟨a1, c1, rfl, -⟩ := hM.form
      go_wp2_with fail
      refine (refInt_c x _ hi).mono ?_
      rintro e w2 ⟨vx, rfl, ho, hb2⟩
      obtain ⟨hM1, hM2⟩ := hM.take hb2 ho
      obtain ⟨a2, c2, rfl, -⟩ := hM2.form
      clear hM hb2 ho h0
      generalize hn2 : (encI x).length = n2 at *
      replace hn2 := Lib.hid hn2
      go_wp2_with (at_builtin; refine wpList_append_B rfl _ _ 46 rfl Try.underlying46 infoByte rfl rfl rfl rfl (hM1.keep (by repeat (first | (with_reducible assumption) | (with_reducible exact Ext.rfl' _) | (with_reducible exact Ext.new _ _) | (with_reducible refine Ext.alloc' ?_ _) | (with_reducible refine Ext.drew' ?_) | (with_reducible refine Ext.drewN' ?_ _) | (with_reducible refine Ext.set' ?_ ?_ _; rotate_left; (focus (first | omega | (simp; done) | (simp; omega)))) | (with_reducible refine Ext.then (b := ?_) ?_ ?_; rotate_left; rotate_left; (with_reducible assumption))))) (hM2.src.keep (by repeat (first | (with_reducible assumption) | (with_reducible exact Ext.rfl' _) | (with_reducible exact Ext.new _ _) | (with_reducible refine Ext.alloc' ?_ _) | (with_reducible refine Ext.drew' ?_) | (with_reducible refine Ext.drewN' ?_ _) | (with_reducible refine Ext.set' ?_ ?_ _; rotate_left; (focus (first | omega | (simp; done) | (simp; omega)))) | (with_reducible refine Ext.then (b := ?_) ?_ ?_; rotate_left; rotate_left; (with_reducible assumption))))) ?c4 ?c5)
      case c4 => rw [hn2.out]; omega
      case c5 =>
        intro l' w3 hM3
        rw [← hs.out] at hM3
        clear hM1 hM2
        go_wp2_with fail
        go_roundw
        case rel => exact ⟨k + 1, by omega, by go_num, hM3⟩
        case measure => simp [intOf]; omega
    · rw [List.take_of_length_le (by omega)] at hM
      obtain ⟨a1, c1, rfl, -⟩ := hM.form
      have hf := Lib.hid hM.fresh
      clear hM hl
      go_wp2_with fail
      go_ret
      exact hf.out
end Go.Proofs.Ytebhdjeognpljaa
