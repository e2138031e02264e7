/- wire.Reader: lists. -/
import Derived.Test.YtebhdjeognpljaaReader3
namespace Go.Proofs.Ytebhdjeognpljaa
open Go.RowKit
set_option linter.unusedSimpArgs false
set_option linter.unusedVariables false
def loopS {α : Type} (f : RS → α × RS) : Nat → RS → List α × RS
  | 0, s => ([], s)
  | _ + 1, none => ([], none)
  | n + 1, some l => ((f (some l)).1 :: (loopS f n (f (some l)).2).1, (loopS f n (f (some l)).2).2)
/-- a length, and no more than there are bytes -/
def lenS (s : RS) : Nat × RS := match uintS s with
  | (n, some r) => (n, if n ≤ r.length then some r else none)
  | (n, none) => (n, none)
def listS {α : Type} (f : RS → α × RS) (s : RS) : List α × RS :=
  (if (loopS f (lenS s).1 (lenS s).2).2.isSome then (loopS f (lenS s).1 (lenS s).2).1 else [], (loopS f (lenS s).1 (lenS s).2).2)
theorem OwnS.keepX {α : Type} {base : Nat} {H : PH} {w w' : World} {E : PH → List Value → α → Prop} {sz : Nat} {T : TypeId} {v : Value} {xs : List α} {g : Nat} (h : OwnS base H w E sz T v xs) (e : ExtW w w' g none) (hg : g < base) : OwnS base H w' E sz T v xs :=
  h.keepB (fun k hk => by have := h.lt k hk; exact e.block k this.2.1 (by omega) (by simp)) (fun k hk => (h.lt k hk).2.2) (fun _ _ h => h)
theorem loopS_none {α : Type} (f : RS → α × RS) (n : Nat) : loopS f n none = ([], none) := by cases n <;> rfl
theorem ExtW.grown {w0 w w' : World} {g : Nat} {row : Option Nat} (h : ExtW w0 w g none) (gr : w.grownBy w' row) (hr : ∀ k, row = some k → w0.heap.size ≤ k) : ExtW w0 w' g none :=
  ⟨gr.os.trans h.os, gr.tape.trans h.tape, gr.output.trans h.output, Nat.le_trans h.size gr.size, fun k hk hg hn => by
    rw [gr.block k (by have := h.size; omega) (fun e => by have := hr k e.symm; omega)]
    exact h.block k hk hg hn⟩
theorem Rd.bound {H : PH} {w : World} {g : Nat} {s : RS} (h : Rd H w g s) : ∀ k o, H k = some o → k < w.heap.size := by
  obtain ⟨a, n, c, er, l, h1, h2, h3, h4⟩ := h
  intro k o hk
  exact ph_lt (phX_ple g w k o (h3 k o hk))
theorem Rd.grown {H : PH} {w w' : World} {g B : Nat} {s : RS} {row : Option Nat} (h : Rd H w g s) (gr : w.grownBy w' row) (hr : ∀ k, row = some k → B ≤ k) (hg : g < B) (hH : ∀ k o, H k = some o → k < B) : Rd H w' g s := by
  have hgl := h.lt
  have hbd := h.bound
  obtain ⟨a, n, c, er, l, h1, h2, h3, h4⟩ := h
  have hne : ∀ k, k < B → some k ≠ row := fun k hk e => by have := hr k e.symm; omega
  refine ⟨a, n, c, er, l, ?_, h2, fun k o hk => ?_, h4⟩
  · unfold Own at *; rw [gr.block g hgl (hne g hg)]; exact h1
  · have h5 := h3 k o hk
    unfold phX at *
    split at h5
    · cases h5
    · rename_i hkg
      rw [if_neg hkg, gr.block k (hbd k o hk) (hne k (hH k o hk))]; exact h5
set_option maxRecDepth 100000 in
set_option maxHeartbeats 2000000 in
theorem ints_list_c {H : PH} (g : Nat) (s : RS) (w : World) (h : Rd H w g s) (hl : ∀ l, s = some l → l.length ≤ 1000000000) :
    Calls Try.prog 91 #[.pointer (some ⟨g, 0, none⟩), .func (.func 85) #[.pointer (some ⟨g, 0, none⟩)] #[]] w fun e w' => ∃ v, e = .returned v ∧ OwnS w.heap.size noH w' IntR 1 3 v (listS intS s).1 ∧ Rd H w' g (listS intS s).2 ∧ ExtW w w' g none := by
  have hg := h.lt
  have hHb := Lib.hid h.bound
  go_enter Try.func91, Try.ntmps91
  go_wp2_with fail
  refine (ruint_c g s _ h).mono ?_
  rintro e w1 ⟨rfl, hR1, hX1⟩
  have hlt := uintS_lt s
  have hLen : Hid (lenS s = match uintS s with
    | (n, some r) => (n, if n ≤ r.length then some r else none)
    | (n, none) => (n, none)) := rfl
  have hsuf : ∀ n r, uintS s = (n, some r) → r.length ≤ 1000000000 := by
    intro n r hu
    cases s with
    | none => cases hu
    | some l =>
      have := (uintS_some.1 hu).1
      have h2 := hl l rfl
      rw [this] at h2
      simp at h2; omega
  have hz : ∀ n, uintS s = (n, none) → n = 0 := by
    intro n hu
    cases s with
    | none => cases hu; rfl
    | some l =>
      simp only [uintS] at hu
      split at hu
      · cases hu
      · cases hu; rfl
  obtain ⟨n, t, hnt⟩ : ∃ n t, uintS s = (n, t) := ⟨_, _, rfl⟩
  rw [hnt] at hR1 hlt hLen ⊢
  simp only [] at hR1 hlt ⊢
  have hbox : ∃ a m c er r, Own w1 g #[.slice a m c, .int .i64 er] 92 ∧ m = r.length ∧ r.length ≤ 9223372036854775807 ∧ (t = some r ∧ er = 0 ∨ t = none ∧ er ≠ 0) := by
    obtain ⟨a, m, c, er, r, h1, h2, -, h3⟩ := hR1
    obtain ⟨a', c', e, h4, -⟩ := h2.form
    cases e
    exact ⟨a, _, c, er, r, h1, rfl, h4, h3⟩
  obtain ⟨a, m, c, er, r, hO, rfl, hrl, hter⟩ := hbox
  obtain ⟨hoc, hof⟩ := hO.facts
  have h0 := hoc 0
  simp at h0
  clear hoc hof hO
  replace hnt := Lib.hid hnt
  go_upto_if 17 with (fail)
  go_cut [5] (fun v wx => v = .int .u64 n ∧ ∃ s', Rd H wx g s' ∧ ExtW w wx g none ∧ Hid (lenS s = (n, s')) ∧ Hid (∀ r, s' = some r → n ≤ 1000000000))
  case first =>
    by_cases hc : r.length < n
    · have hLS : lenS s = (n, none) := by
        rcases hter with ⟨rfl, -⟩ | ⟨rfl, -⟩
        · rw [hLen.out]; simp only []; rw [if_neg (by omega)]
        · rw [hLen.out]
      go_wp2_with fail
      refine (fail_c g t 3 _ hR1 (by omega)).mono ?_
      rintro e w2 ⟨⟨v, rfl⟩, hR2, hX2⟩
      go_wp2_with fail
      go_meet
      case rel => exact ⟨rfl, none, hR2, hX1.then hX2 (fun i h => by cases h), Lib.hid hLS, Lib.hid (fun _ h => by cases h)⟩
    · have hLS : lenS s = (n, t) := by
        rcases hter with ⟨rfl, -⟩ | ⟨rfl, -⟩
        · rw [hLen.out]; simp only []; rw [if_pos (by omega)]
        · rw [hLen.out]
      go_wp2_with fail
      go_meet
      case rel => exact ⟨rfl, t, hR1, hX1, Lib.hid hLS, Lib.hid (fun r' h => by subst h; have := hsuf _ _ hnt.out; rcases hter with ⟨h, -⟩ | ⟨h, -⟩ <;> cases h; omega)⟩
  case rest =>
    clear hR1 hX1 hLen hz hsuf hter hrl h0 hnt h hl
    obtain ⟨rfl, s', hR, hX, hLS, hn⟩ := hcut
    go_wp2_with fail
    go_loopw [6, 7] (fun v i wr => ∃ (xs : List Int) (k : Nat) (s2 : RS), i = .int .u64 k ∧ OwnS w.heap.size noH wr IntR 1 3 v xs ∧ Rd H wr g s2 ∧ ExtW w wr g none ∧
        Hid (s2 = none ∧ (loopS intS n s').2 = none ∨ ∃ l, s2 = some l ∧ k ≤ n ∧ xs.length = k ∧ n ≤ 1000000000 ∧ loopS intS n s' = (xs ++ (loopS intS (n - k) s2).1, (loopS intS (n - k) s2).2))) (fun _ i _ => n + 1 - (intOf i).toNat)
    case atStart =>
      refine ⟨[], 0, s', rfl, OwnS.nil _ _ _ _ _ _, hR, hX, Lib.hid ?_⟩
      cases s' with
      | none => exact .inl ⟨rfl, by rw [loopS_none]⟩
      | some l => exact .inr ⟨l, rfl, by omega, rfl, hn.out l rfl, by simp⟩
    case round =>
      obtain ⟨xs, k, s2, rfl, hS, hR, hX, hs⟩ := hrel
      obtain ⟨er, he, hes⟩ := hR.err
      obtain ⟨va, vc, rfl, hvl⟩ := hS.form
      cases s2 with
      | none =>
        have hnone : Hid (listS intS s = ([], none)) := by
          show _ = _
          rcases hs.out with ⟨-, h⟩ | ⟨l, h, -⟩
          · unfold listS; rw [hLS.out]; simp only [h]; rfl
          · cases h
        have hes' : (er == 0) = false := by simpa using hes
        clear hes hs hS
        go_wp2_with fail
        all_goals
          go_ret
          rw [hnone.out]
          exact ⟨_, rfl, OwnS.nil _ _ _ _ _ _, hR, hX⟩
      | some l =>
        obtain rfl : er = 0 := by simpa using hes
        obtain ⟨hkn, hxk, hnb, heq⟩ : k ≤ n ∧ xs.length = k ∧ n ≤ 1000000000 ∧ loopS intS n s' = (xs ++ (loopS intS (n - k) (some l)).1, (loopS intS (n - k) (some l)).2) := by
          rcases hs.out with ⟨h, -⟩ | ⟨l2, h, h1⟩
          · cases h
          · exact h1
        clear hs hes
        replace heq := Lib.hid heq
        subst hxk
        by_cases hlt2 : xs.length < n
        · go_wp2_with fail
          refine (rint_c g _ _ hR).mono ?_
          rintro e w3 ⟨rfl, hR3, hX3⟩
          have hS3 := hS.keepX hX3 hg
          have hX4 := hX.then hX3 (fun i h => by cases h)
          have hst : Hid (loopS intS n s' = ((xs ++ [(intS (some l)).1]) ++ (loopS intS (n - (xs.length + 1)) (intS (some l)).2).1, (loopS intS (n - (xs.length + 1)) (intS (some l)).2).2)) := by
            show _ = _
            rw [heq.out, show n - xs.length = (n - (xs.length + 1)) + 1 by omega]
            simp [loopS]
          have hE : IntR noH [.int .i64 (intS (some l)).1] (intS (some l)).1 := ⟨rfl, intS_i64 _⟩
          clear heq hS hX hX3 he
          generalize (intS (some l)).1 = x at *
          generalize (intS (some l)).2 = s3 at *
          have hb4 : w.heap.size ≤ w3.heap.size := hX4.size
          go_wp2_with (at_builtin; refine wpList_append_S (E := IntR) (H := noH) (base := w.heap.size) (ys := [x]) rfl _ _ 22 3 rfl (.int .i64 0) 8 Try.underlying22 infoInt rfl rfl rfl (hS3.keep (by repeat (first | (with_reducible assumption) | (with_reducible exact Ext.rfl' _) | (with_reducible exact Ext.new _ _) | (with_reducible refine Ext.alloc' ?_ _) | (with_reducible refine Ext.drew' ?_) | (with_reducible refine Ext.drewN' ?_ _) | (with_reducible refine Ext.set' ?_ ?_ _; rotate_left; (focus (first | omega | (simp; done) | (simp; omega)))) | (with_reducible refine Ext.then (b := ?_) ?_ ?_; rotate_left; rotate_left; (with_reducible assumption))))) (Src.lit1 hE rfl (fun j => by simp [go_sem])) (noH_le _) ?c2 one_IntR ?c3 ?c4 ?c5)
          case c2 => simp; omega
          case c3 => simp; omega
          case c4 => simp; omega
          case c5 =>
            intro l' w4 hl1 hg1 hn1
            have hro : ∀ k, (Value.slice va xs.length vc).ownBlock = some k → w.heap.size ≤ k := fun k hk => (hS3.lt k hk).1
            have hX5 := (hX4.then ((Ext.new w3 (.cells #[.int .i64 x] 3)).toW g none) (fun i h => by cases h)).grown hg1 hro
            have hR5 := (hR3.keep (Ext.new w3 (.cells #[.int .i64 x] 3))).grown hg1 hro hg hHb.out
            clear hg1 hn1 hS3 hR3 hX4 hR
            go_wp2_with fail
            go_roundw
            case rel =>
              refine ⟨xs ++ [x], xs.length + 1, s3, by go_num, hl1, hR5, hX5, Lib.hid ?_⟩
              cases s3 with
              | none => exact .inl ⟨rfl, by rw [hst.out, loopS_none]⟩
              | some l3 => exact .inr ⟨l3, rfl, by omega, by simp, hnb, hst.out⟩
            case measure => simp [intOf]; omega
        · have hkn2 : xs.length = n := by omega
          have hdone : Hid (listS intS s = (xs, some l)) := by
            show _ = _
            unfold listS; rw [hLS.out]; simp only [heq.out, hkn2, Nat.sub_self, loopS]; simp
          clear heq
          go_wp2_with fail
          go_ret
          rw [hdone.out]
          exact ⟨_, rfl, hS, hR, hX⟩
/-- the next byte -/
def byteS : RS → UInt8 × RS
  | some (x :: l) => (x, some l)
  | _ => (0, none)
theorem nextB_c {H : PH} (g : Nat) (s : RS) (w : World) (h : Rd H w g s) :
    Calls Try.prog 61 #[.pointer (some ⟨g, 0, none⟩)] w (RdP H w g (.int .u8 (byteS s).1.toNat) (byteS s).2) := by
  have e : nextS s = ((byteS s).1.toNat, (byteS s).2) := by
    rcases s with _ | _ | ⟨x, l⟩ <;> rfl
  have := next_c g s w h
  rw [e] at this
  exact this
set_option maxRecDepth 100000 in
set_option maxHeartbeats 2000000 in
theorem bytes_list_c {H : PH} (g : Nat) (s : RS) (w : World) (h : Rd H w g s) (hl : ∀ l, s = some l → l.length ≤ 1000000000) :
    Calls Try.prog 60 #[.pointer (some ⟨g, 0, none⟩), .func (.func 61) #[.pointer (some ⟨g, 0, none⟩)] #[]] w fun e w' => ∃ v, e = .returned v ∧ OwnS w.heap.size noH w' ByteR 1 5 v (listS byteS s).1 ∧ Rd H w' g (listS byteS s).2 ∧ ExtW w w' g none := by
  have hg := h.lt
  have hHb := Lib.hid h.bound
  go_enter Try.func60, Try.ntmps60
  go_wp2_with fail
  refine (ruint_c g s _ h).mono ?_
  rintro e w1 ⟨rfl, hR1, hX1⟩
  have hlt := uintS_lt s
  have hLen : Hid (lenS s = match uintS s with
    | (n, some r) => (n, if n ≤ r.length then some r else none)
    | (n, none) => (n, none)) := rfl
  have hsuf : ∀ n r, uintS s = (n, some r) → r.length ≤ 1000000000 := by
    intro n r hu
    cases s with
    | none => cases hu
    | some l =>
      have := (uintS_some.1 hu).1
      have h2 := hl l rfl
      rw [this] at h2
      simp at h2; omega
  have hz : ∀ n, uintS s = (n, none) → n = 0 := by
    intro n hu
    cases s with
    | none => cases hu; rfl
    | some l =>
      simp only [uintS] at hu
      split at hu
      · cases hu
      · cases hu; rfl
  obtain ⟨n, t, hnt⟩ : ∃ n t, uintS s = (n, t) := ⟨_, _, rfl⟩
  rw [hnt] at hR1 hlt hLen ⊢
  simp only [] at hR1 hlt ⊢
  have hbox : ∃ a m c er r, Own w1 g #[.slice a m c, .int .i64 er] 92 ∧ m = r.length ∧ r.length ≤ 9223372036854775807 ∧ (t = some r ∧ er = 0 ∨ t = none ∧ er ≠ 0) := by
    obtain ⟨a, m, c, er, r, h1, h2, -, h3⟩ := hR1
    obtain ⟨a', c', e, h4, -⟩ := h2.form
    cases e
    exact ⟨a, _, c, er, r, h1, rfl, h4, h3⟩
  obtain ⟨a, m, c, er, r, hO, rfl, hrl, hter⟩ := hbox
  obtain ⟨hoc, hof⟩ := hO.facts
  have h0 := hoc 0
  simp at h0
  clear hoc hof hO
  replace hnt := Lib.hid hnt
  go_upto_if 17 with (fail)
  go_cut [5] (fun v wx => v = .int .u64 n ∧ ∃ s', Rd H wx g s' ∧ ExtW w wx g none ∧ Hid (lenS s = (n, s')) ∧ Hid (∀ r, s' = some r → n ≤ 1000000000))
  case first =>
    by_cases hc : r.length < n
    · have hLS : lenS s = (n, none) := by
        rcases hter with ⟨rfl, -⟩ | ⟨rfl, -⟩
        · rw [hLen.out]; simp only []; rw [if_neg (by omega)]
        · rw [hLen.out]
      go_wp2_with fail
      refine (fail_c g t 3 _ hR1 (by omega)).mono ?_
      rintro e w2 ⟨⟨v, rfl⟩, hR2, hX2⟩
      go_wp2_with fail
      go_meet
      case rel => exact ⟨rfl, none, hR2, hX1.then hX2 (fun i h => by cases h), Lib.hid hLS, Lib.hid (fun _ h => by cases h)⟩
    · have hLS : lenS s = (n, t) := by
        rcases hter with ⟨rfl, -⟩ | ⟨rfl, -⟩
        · rw [hLen.out]; simp only []; rw [if_pos (by omega)]
        · rw [hLen.out]
      go_wp2_with fail
      go_meet
      case rel => exact ⟨rfl, t, hR1, hX1, Lib.hid hLS, Lib.hid (fun r' h => by subst h; have := hsuf _ _ hnt.out; rcases hter with ⟨h, -⟩ | ⟨h, -⟩ <;> cases h; omega)⟩
  case rest =>
    clear hR1 hX1 hLen hz hsuf hter hrl h0 hnt h hl
    obtain ⟨rfl, s', hR, hX, hLS, hn⟩ := hcut
    go_wp2_with fail
    go_loopw [6, 7] (fun v i wr => ∃ (xs : List UInt8) (k : Nat) (s2 : RS), i = .int .u64 k ∧ OwnS w.heap.size noH wr ByteR 1 5 v xs ∧ Rd H wr g s2 ∧ ExtW w wr g none ∧
        Hid (s2 = none ∧ (loopS byteS n s').2 = none ∨ ∃ l, s2 = some l ∧ k ≤ n ∧ xs.length = k ∧ n ≤ 1000000000 ∧ loopS byteS n s' = (xs ++ (loopS byteS (n - k) s2).1, (loopS byteS (n - k) s2).2))) (fun _ i _ => n + 1 - (intOf i).toNat)
    case atStart =>
      refine ⟨[], 0, s', rfl, OwnS.nil _ _ _ _ _ _, hR, hX, Lib.hid ?_⟩
      cases s' with
      | none => exact .inl ⟨rfl, by rw [loopS_none]⟩
      | some l => exact .inr ⟨l, rfl, by omega, rfl, hn.out l rfl, by simp⟩
    case round =>
      obtain ⟨xs, k, s2, rfl, hS, hR, hX, hs⟩ := hrel
      obtain ⟨er, he, hes⟩ := hR.err
      obtain ⟨va, vc, rfl, hvl⟩ := hS.form
      cases s2 with
      | none =>
        have hnone : Hid (listS byteS s = ([], none)) := by
          show _ = _
          rcases hs.out with ⟨-, h⟩ | ⟨l, h, -⟩
          · unfold listS; rw [hLS.out]; simp only [h]; rfl
          · cases h
        have hes' : (er == 0) = false := by simpa using hes
        clear hes hs hS
        go_wp2_with fail
        all_goals
          go_ret
          rw [hnone.out]
          exact ⟨_, rfl, OwnS.nil _ _ _ _ _ _, hR, hX⟩
      | some l =>
        obtain rfl : er = 0 := by simpa using hes
        obtain ⟨hkn, hxk, hnb, heq⟩ : k ≤ n ∧ xs.length = k ∧ n ≤ 1000000000 ∧ loopS byteS n s' = (xs ++ (loopS byteS (n - k) (some l)).1, (loopS byteS (n - k) (some l)).2) := by
          rcases hs.out with ⟨h, -⟩ | ⟨l2, h, h1⟩
          · cases h
          · exact h1
        clear hs hes
        replace heq := Lib.hid heq
        subst hxk
        by_cases hlt2 : xs.length < n
        · go_wp2_with fail
          refine (nextB_c g _ _ hR).mono ?_
          rintro e w3 ⟨rfl, hR3, hX3⟩
          have hS3 := hS.keepX hX3 hg
          have hX4 := hX.then hX3 (fun i h => by cases h)
          have hst : Hid (loopS byteS n s' = ((xs ++ [(byteS (some l)).1]) ++ (loopS byteS (n - (xs.length + 1)) (byteS (some l)).2).1, (loopS byteS (n - (xs.length + 1)) (byteS (some l)).2).2)) := by
            show _ = _
            rw [heq.out, show n - xs.length = (n - (xs.length + 1)) + 1 by omega]
            simp [loopS]
          have hE : ByteR noH [.int .u8 (byteS (some l)).1.toNat] (byteS (some l)).1 := rfl
          clear heq hS hX hX3 he
          generalize (byteS (some l)).1 = x at *
          generalize (byteS (some l)).2 = s3 at *
          have hb4 : w.heap.size ≤ w3.heap.size := hX4.size
          go_wp2_with (at_builtin; refine wpList_append_S (E := ByteR) (H := noH) (base := w.heap.size) (ys := [x]) rfl _ _ 46 5 rfl (.int .u8 0) 1 Try.underlying46 infoByte rfl rfl rfl (hS3.keep (by repeat (first | (with_reducible assumption) | (with_reducible exact Ext.rfl' _) | (with_reducible exact Ext.new _ _) | (with_reducible refine Ext.alloc' ?_ _) | (with_reducible refine Ext.drew' ?_) | (with_reducible refine Ext.drewN' ?_ _) | (with_reducible refine Ext.set' ?_ ?_ _; rotate_left; (focus (first | omega | (simp; done) | (simp; omega)))) | (with_reducible refine Ext.then (b := ?_) ?_ ?_; rotate_left; rotate_left; (with_reducible assumption))))) (Src.lit1 hE rfl (fun j => by simp [go_sem])) (noH_le _) ?c2 one_ByteR ?c3 ?c4 ?c5)
          case c2 => simp; omega
          case c3 => simp; omega
          case c4 => simp; omega
          case c5 =>
            intro l' w4 hl1 hg1 hn1
            have hro : ∀ k, (Value.slice va xs.length vc).ownBlock = some k → w.heap.size ≤ k := fun k hk => (hS3.lt k hk).1
            have hX5 := (hX4.then ((Ext.new w3 (.cells #[.int .u8 x.toNat] 5)).toW g none) (fun i h => by cases h)).grown hg1 hro
            have hR5 := (hR3.keep (Ext.new w3 (.cells #[.int .u8 x.toNat] 5))).grown hg1 hro hg hHb.out
            clear hg1 hn1 hS3 hR3 hX4 hR
            go_wp2_with fail
            go_roundw
            case rel =>
              refine ⟨xs ++ [x], xs.length + 1, s3, by go_num, hl1, hR5, hX5, Lib.hid ?_⟩
              cases s3 with
              | none => exact .inl ⟨rfl, by rw [hst.out, loopS_none]⟩
              | some l3 => exact .inr ⟨l3, rfl, by omega, by simp, hnb, hst.out⟩
            case measure => simp [intOf]; omega
        · have hkn2 : xs.length = n := by omega
          have hdone : Hid (listS byteS s = (xs, some l)) := by
            show _ = _
            unfold listS; rw [hLS.out]; simp only [heq.out, hkn2, Nat.sub_self, loopS]; simp
          clear heq
          go_wp2_with fail
          go_ret
          rw [hdone.out]
          exact ⟨_, rfl, hS, hR, hX⟩
theorem rints_c {H : PH} (g : Nat) (s : RS) (w : World) (h : Rd H w g s) (hl : ∀ l, s = some l → l.length ≤ 1000000000) :
    Calls Try.prog 84 #[.pointer (some ⟨g, 0, none⟩)] w fun e w' => ∃ v, e = .returned v ∧ OwnS w.heap.size noH w' IntR 1 3 v (listS intS s).1 ∧ Rd H w' g (listS intS s).2 ∧ ExtW w w' g none := by
  go_enter Try.func84, Try.ntmps84
  go_wp2_with fail
  refine (ints_list_c g s _ h hl).mono ?_
  rintro e w1 ⟨v, rfl, hS, hR, hX⟩
  obtain ⟨a, c, rfl, hlen⟩ := hS.form
  generalize hn : (listS intS s).1.length = n at *
  go_wp2_with fail
  go_ret
  exact ⟨_, rfl, hS, hR, hX⟩
theorem rraw_c {H : PH} (g : Nat) (s : RS) (w : World) (h : Rd H w g s) (hl : ∀ l, s = some l → l.length ≤ 1000000000) :
    Calls Try.prog 32 #[.pointer (some ⟨g, 0, none⟩)] w fun e w' => ∃ v, e = .returned v ∧ OwnS w.heap.size noH w' ByteR 1 5 v (listS byteS s).1 ∧ Rd H w' g (listS byteS s).2 ∧ ExtW w w' g none := by
  go_enter Try.func32, Try.ntmps32
  go_wp2_with fail
  refine (bytes_list_c g s _ h hl).mono ?_
  rintro e w1 ⟨v, rfl, hS, hR, hX⟩
  obtain ⟨a, c, rfl, hlen⟩ := hS.form
  generalize hn : (listS byteS s).1.length = n at *
  go_wp2_with fail
  go_ret
  exact ⟨_, rfl, hS, hR, hX⟩
/-- what End returns -/
def endV : RS → Prop := fun s => s = some []
theorem rend_c {H : PH} (g : Nat) (s : RS) (w : World) (h : Rd H w g s) (hl : ∀ l, s = some l → l.length ≤ 1000000000) :
    Calls Try.prog 63 #[.pointer (some ⟨g, 0, none⟩)] w fun e w' => ∃ n : Int, e = .returned (.int .i64 n) ∧ (n = 0 ↔ s = some []) ∧ Ext w w' := by
  obtain ⟨a, m, c, er, l, hO, hB, -, hs⟩ := h
  obtain ⟨hoc, hof⟩ := hO.facts
  have h0 := hoc 0
  have h1 := hoc 1
  simp at h0 h1
  clear hoc hof
  obtain ⟨a', c', e, hll, -⟩ := hB.form
  cases e
  go_enter Try.func63, Try.ntmps63
  rcases hs with ⟨rfl, rfl⟩ | ⟨rfl, hne⟩
  · cases l with
    | nil =>
      go_wp2_with fail
      go_ret
      exact ⟨_, rfl, by simp, (by repeat (first | (with_reducible assumption) | (with_reducible exact Ext.rfl' _) | (with_reducible exact Ext.new _ _) | (with_reducible refine Ext.alloc' ?_ _) | (with_reducible refine Ext.drew' ?_) | (with_reducible refine Ext.drewN' ?_ _) | (with_reducible refine Ext.set' ?_ ?_ _; rotate_left; (focus (first | omega | (simp; done) | (simp; omega)))) | (with_reducible refine Ext.then (b := ?_) ?_ ?_; rotate_left; rotate_left; (with_reducible assumption))))⟩
    | cons x l =>
      have hp : 0 < (l.length : Int) + 1 := by omega
      go_wp2_with fail
      go_ret
      exact ⟨_, rfl, by simp, (by repeat (first | (with_reducible assumption) | (with_reducible exact Ext.rfl' _) | (with_reducible exact Ext.new _ _) | (with_reducible refine Ext.alloc' ?_ _) | (with_reducible refine Ext.drew' ?_) | (with_reducible refine Ext.drewN' ?_ _) | (with_reducible refine Ext.set' ?_ ?_ _; rotate_left; (focus (first | omega | (simp; done) | (simp; omega)))) | (with_reducible refine Ext.then (b := ?_) ?_ ?_; rotate_left; rotate_left; (with_reducible assumption))))⟩
  · have hne' : (er == 0) = false := by simpa using hne
    go_wp2_with fail
    go_ret
    exact ⟨_, rfl, by simp [hne], (by repeat (first | (with_reducible assumption) | (with_reducible exact Ext.rfl' _) | (with_reducible exact Ext.new _ _) | (with_reducible refine Ext.alloc' ?_ _) | (with_reducible refine Ext.drew' ?_) | (with_reducible refine Ext.drewN' ?_ _) | (with_reducible refine Ext.set' ?_ ?_ _; rotate_left; (focus (first | omega | (simp; done) | (simp; omega)))) | (with_reducible refine Ext.then (b := ?_) ?_ ?_; rotate_left; rotate_left; (with_reducible assumption))))⟩
end Go.Proofs.Ytebhdjeognpljaa
