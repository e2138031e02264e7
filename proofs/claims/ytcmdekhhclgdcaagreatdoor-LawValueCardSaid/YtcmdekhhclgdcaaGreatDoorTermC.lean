/- A law for one operation of a plain list serves behind a fence, too.; package term: the iterator over the interruptions of a file. -/
import Derived.Test.YtcmdekhhclgdcaaGreatDoorCivA
import Derived.Test.YtcmdekhhclgdcaaGreatDoorCalmA
import Derived.Test.YtcmdekhhclgdcaaGreatDoorTermA
namespace Go.Proofs.YtcmdekhhclgdcaaGreatDoor
open Go.RowKit
set_option linter.unusedSimpArgs false
set_option linter.unusedVariables false
theorem oper_wp_wide {n : Nat} {P : Program} {o : Oper} (hd : ∀ c, o.op ≠ .defer c) {Q : Exit → Act → World → Prop} {K K' : Act → World → Prop} (hK : ∀ a w, K a w → K' a w) {a : Act} {w : World}
    (h : o.wp P a w K fun _ _ _ => False) : o.wpIn Fence.wide n P a w K' Q := by
  refine ⟨fun _ _ => trivial, ?_⟩
  rw [Oper.semAt_eq _ _ _ hd]
  unfold Oper.wp at h
  generalize (execOp a.eval o).run P w = r at *
  cases r with
  | ok x w' =>
    cases x <;> simp only [Oper.upon, Oper.uponIn] at h ⊢ <;>
      first
        | exact hK _ _ h
        | exact ⟨(by intro h; cases h), (callsIn_wide.2 (Calls.mono h (fun e w'' he => by cases e <;> first | exact hK _ _ he | exact he.elim | exact absurd he (fun ⟨_, _, h⟩ => h))))⟩
        | exact ⟨(by intro h; cases h), fun c cs _ => let ⟨v, w', r, s⟩ := Rows.mono h (fun _ _ he => hK _ _ he) c cs; ⟨v, w', r, stepsIn_wide.2 s⟩⟩
        | exact h.elim
  | halt x w' => cases x <;> simp only [Oper.upon, Oper.uponIn] at h ⊢ <;> exact h.elim
def JustN (K : Act → World → Prop) : Exit → Act → World → Prop
  | .normal, a, w => K a w
  | _, _, _ => False
theorem wp_of_list {P : Program} {ops : Array Oper} {o : Oper} (hg : o.guard = none) {K : Act → World → Prop} {a : Act} {w : World} (h : wpList P ops (JustN K) [o] a w) : o.wp P a w K (JustN K) := by
  simp only [wpList, Region.wanted, hg, if_true] at h
  rcases h with h | ⟨-, _, _, h⟩
  · exact h
  · exact h.elim
theorem wp_weak {P : Program} {o : Oper} {K : Act → World → Prop} {Q Q' : Exit → Act → World → Prop} {a : Act} {w : World} (hq : ∀ e a w, Q e a w → e = .normal) (h : o.wp P a w K Q) : o.wp P a w K Q' := by
  unfold Oper.wp at *
  generalize (execOp a.eval o).run P w = r at *
  cases r with
  | ok x w' =>
    cases x <;> simp only [Oper.upon] at h ⊢ <;>
      first
        | exact h
        | exact Calls.mono h (fun e w'' he => by cases e <;> first | exact he | exact absurd (hq _ _ _ he) (by simp) | exact absurd he (fun ⟨_, _, h⟩ => absurd (hq _ _ _ h) (by simp)))
  | halt x w' => cases x <;> simp only [Oper.upon] at h ⊢ <;> first | exact h | exact absurd (hq _ _ _ h) (by simp)
theorem justN_normal {K : Act → World → Prop} : ∀ e a w, JustN K e a w → e = .normal := by
  intro e a w h
  cases e <;> first | rfl | exact h.elim
theorem wpListIn_ofW {n : Nat} {P : Program} {ops : Array Oper} {rest : List Oper} {o : Oper} {Q : Exit → Act → World → Prop} {a : Act} {w : World} (hg : o.guard = none) (hd : ∀ c, o.op ≠ .defer c)
    (h : ∀ K : Act → World → Prop, (∀ a w, wpListIn Fence.wide n P ops Q rest a w → JustN K .normal a w) → wpList P ops (JustN K) [o] a w) : wpListIn Fence.wide n P ops Q (o :: rest) a w :=
  wpListIn_plain hg fun K hK => oper_wp_wide hd (fun _ _ h => h) (wp_weak justN_normal (wp_of_list hg (h K hK)))
theorem wpListIn_ofR {n l : Nat} {P : Program} {ops : Array Oper} {rest : List Oper} {o : Oper} {Q : Exit → Act → World → Prop} {a : Act} {w : World} (hg : o.guard = none) (hd : ∀ c, o.op ≠ .defer c)
    (h : ∀ K : Act → World → Prop, (∀ a w, wpListIn (Fence.wide.inRound l) n P ops Q rest a w → JustN K .normal a w) → wpList P ops (JustN K) [o] a w) : wpListIn (Fence.wide.inRound l) n P ops Q (o :: rest) a w :=
  wpListIn_plain hg fun K hK => oper_wp_in hd (fun _ _ h => h) (wp_weak justN_normal (wp_of_list hg (h K hK)))
end Go.Proofs.YtcmdekhhclgdcaaGreatDoor
namespace Go.Proofs.YtcmdekhhclgdcaaGreatDoor
open Go.RowKit Go.Shelf
set_option linter.unusedSimpArgs false
set_option linter.unusedVariables false
attribute [local go_sem] Oper.semAt_some
def ivB (file : Int) (a : Ac) : Bool := a.kind == 9 && a.file == file && decide (a.day ≤ a.number)
theorem ivB_le {file : Int} {a : Ac} (h : ivB file a = true) : a.day ≤ a.number := by unfold ivB at h; simp at h; exact h.2
abbrev IvT := { x : Iv // x.1 ≤ x.2 }
def ivT (file : Int) (a : Ac) : Option IvT := if h : ivB file a = true then some ⟨(a.day, a.number), ivB_le h⟩ else none
def ivs (file : Int) (xs : List Ac) : List IvT := xs.filterMap (ivT file)
theorem ivs_yes {file : Int} {xs : List Ac} {k : Nat} (h : k < xs.length) (hb : ivB file xs[k] = true) : ivs file (xs.take (k + 1)) = ivs file (xs.take k) ++ [⟨(xs[k].day, xs[k].number), ivB_le hb⟩] := by
  unfold ivs
  rw [take_snoc xs k h, List.filterMap_append]
  simp [ivT, hb]
theorem ivs_no {file : Int} {xs : List Ac} {k : Nat} (h : k < xs.length) (hb : ivB file xs[k] = false) : ivs file (xs.take (k + 1)) = ivs file (xs.take k) := by
  unfold ivs
  rw [take_snoc xs k h, List.filterMap_append]
  simp [ivT, hb]
theorem ivs_len (file : Int) (xs : List Ac) : (ivs file xs).length ≤ xs.length := List.length_filterMap_le _ _
/-- what a round keeps: all below n₀, and the iterator's two boxes -/
def KB2 (n₀ Ba Bf : Nat) (W W' : World) : Prop := Below n₀ W W' ∧ W'.cell? ⟨Ba, 0, none⟩ = W.cell? ⟨Ba, 0, none⟩ ∧ W'.cell? ⟨Bf, 0, none⟩ = W.cell? ⟨Bf, 0, none⟩
theorem KB2.rfl' (n₀ Ba Bf : Nat) (W : World) : KB2 n₀ Ba Bf W W := ⟨Below.refl _ _, rfl, rfl⟩
theorem KB2.then {n₀ Ba Bf : Nat} {A B C : World} (h : KB2 n₀ Ba Bf A B) (k : KB2 n₀ Ba Bf B C) : KB2 n₀ Ba Bf A C := ⟨h.1.trans k.1, k.2.1.trans h.2.1, k.2.2.trans h.2.2⟩
theorem KB2.put {n₀ Ba Bf : Nat} {w : World} (hn : n₀ ≤ w.heap.size) (hA : Ba < w.heap.size) (hF : Bf < w.heap.size) (W : World) (l : Nat) (o o' : Obj) (hl : w.heap.size ≤ l) (h : W.heap[l]? = some o) (h1 : o.isCells = false) (h2 : o.isWalk = false) : KB2 n₀ Ba Bf W (W.putObj l o') :=
  ⟨belowK_b (w := w) hn W l o o' hl h h1 h2, (belowK_b (w := w) (n₀ := w.heap.size) (Nat.le_refl _) W l o o' hl h h1 h2).cell (p := ⟨Ba, 0, none⟩) hA, (belowK_b (w := w) (n₀ := w.heap.size) (Nat.le_refl _) W l o o' hl h h1 h2).cell (p := ⟨Bf, 0, none⟩) hF⟩
theorem inter_p (file : Int) (a : Option Addr) (n c : Nat) (w : World) : Calls Tryz.prog 69 #[.int .i64 file, .slice a n c] w fun e w' => e = .returned (.func (.func 94) #[] #[.pointer (some ⟨w.heap.size + 1, 0, none⟩), .pointer (some ⟨w.heap.size, 0, none⟩)]) ∧ w' = (w.alloc (.cells #[.int .i64 file] 3)).alloc (.cells #[.slice a n c] 31) := by
  go_enter Tryz.func69, Tryz.ntmps69
  go_wp2_with fail
  go_ret
  exact ⟨rfl, rfl⟩
def seqPostP {α : Type} (zs : List α) (J Jx : List α → World → Prop) (e : Ending) (W' : World) : Prop := (∃ v, e = .returned v) ∧ ((∃ ys, ys = zs ∧ J ys W') ∨ (∃ pre, pre <+: zs ∧ Jx pre W'))
theorem ivs_pre (file : Int) (xs : List Ac) (k : Nat) : ivs file (xs.take k) <+: ivs file xs := (List.take_prefix k xs).filterMap _
set_option maxRecDepth 100000 in
set_option maxHeartbeats 2000000 in
theorem inter_in (n l Ba Bf n₀ : Nat) (file : Int) (xs : List Ac) (va : Value) (hn : 2 ≤ n) (J Jx : List IvT → World → Prop)
    (hJ : ∀ pre W o, J pre W → J pre (W.alloc o))
    (hY : ∀ pre x W, J pre W → pre.length < xs.length → YieldAt Fence.wide (n - 1) Tryz.prog l #[.agg #[.int .i64 x.1.1, .int .i64 x.1.2]] W fun e W' =>
      (e = .returned (.bool true) ∧ J (pre ++ [x]) W' ∧ KB2 n₀ Ba Bf W W') ∨ (e = .returned (.bool false) ∧ Jx (pre ++ [x]) W'))
    (W : World) (hn₀ : n₀ ≤ W.heap.size) (hA₀ : Ba < W.heap.size) (hF₀ : Bf < W.heap.size) (hZ : ∀ wr, KB2 n₀ Ba Bf W wr → wr.cell? ⟨Ba, 0, none⟩ = some va ∧ wr.cell? ⟨Bf, 0, none⟩ = some (.int .i64 file) ∧ ActsR (ph wr) va xs) (h0 : J [] W) :
    CallsIn Fence.wide n Tryz.prog 94 #[.func (.yield l) #[] #[], .pointer (some ⟨Ba, 0, none⟩), .pointer (some ⟨Bf, 0, none⟩)] W (seqPostP (ivs file xs) J Jx) := by
  refine callsIn_of_wp Tryz.func94 rfl trivial ?_ rfl
  simp only [Tryz.ntmps94, List.size_toArray, List.length_cons, List.length_nil, Nat.reduceAdd, Nat.reduceSub, Array.replicate_succ, Array.replicate_zero, List.push_toArray, List.append_toArray, List.nil_append, List.cons_append]
  obtain ⟨z1, z2, z3⟩ := hZ W (KB2.rfl' _ _ _ _)
  obtain ⟨xa, xc, rfl, xlen, -⟩ := z3.form
  clear z3
  replace hZ := Lib.hid hZ
  replace hY := Lib.hid hY
  replace hJ := Lib.hid hJ
  have hn1 : 1 ≤ n := by omega
  gi_wp2
  gi_loopw [8] (fun i wr => ∃ k : Nat, k ≤ xs.length ∧ i = .int .i64 k ∧ J (ivs file (xs.take k)) wr ∧ KB2 n₀ Ba Bf W wr) (fun i _ => xs.length - (intOf i).toNat)
  case atStart => exact ⟨0, by omega, rfl, h0, KB2.rfl' _ _ _ _⟩
  case round =>
    obtain ⟨k, hk, rfl, hJk, hkb⟩ := hrel
    obtain ⟨c1, c2, hA⟩ := hZ.out wr hkb
    have hlen := ivs_len file (xs.take k)
    by_cases hlt : k < xs.length
    · obtain ⟨gb, go, rfl, gc, gl, -⟩ := ActsR.row hA k hlt
      have hyes := fun h => ivs_yes (file := file) hlt h
      have hno := fun h => ivs_no (file := file) hlt h
      replace hlen : (ivs file (xs.take k)).length < xs.length := by simp at hlen; omega
      generalize hP : ivs file (xs.take k) = pre at *
      generalize xs[k] = x at *
      obtain ⟨fc, -⟩ := (Own.new wr (actC x).toArray 67).facts
      have q0 : _ = some (Value.int .i64 x.kind) := fc 0
      have q1 : _ = some (Value.int .i64 x.day) := fc 1
      have q3 : _ = some (Value.int .i64 x.file) := fc 3
      have q7 : _ = some (Value.int .i64 x.number) := fc 7
      have c2' := cell_alloc_l (.cells (actC x).toArray 67) c2
      have hJ1 := hJ.out _ _ (.cells (actC x).toArray 67) hJk
      have hk1 : KB2 n₀ Ba Bf W (wr.alloc (.cells (actC x).toArray 67)) := ⟨hkb.1.alloc (Nat.le_trans hn₀ hkb.1.size) _, (cell_alloc_l _ c1).trans z1.symm, c2'.trans z2.symm⟩
      clear fc hP
      by_cases h1 : x.kind = 9
      · have b1 : (x.kind == 9) = true := by rw [beq_iff_eq]; exact h1
        by_cases h2 : x.file = file
        · have b2 : (x.file == file) = true := by rw [beq_iff_eq]; exact h2
          by_cases h3 : x.day ≤ x.number
          · have b3 : decide (x.day ≤ x.number) = true := by simpa using h3
            have hb : ivB file x = true := by unfold ivB; rw [b1, b2, b3]; rfl
            replace hyes := Lib.hid (hyes hb)
            obtain ⟨fn, tmps, assign, body, hy, hYR⟩ := hY.out _ ⟨(x.day, x.number), ivB_le hb⟩ _ hJ1 hlen
            dsimp only at hy
            clear hno h1 h2
            gi_wp2_with (first | (refine wpListIn_ofW rfl (by simp) (fun Q' hQ => ?_); (refine wpList_load_mid rfl 67 _ rfl _ _ rfl (actC _) _ gc Tryz.underlying67 rfl (by kernel_rfl) ?_); refine hQ _ _ ?_) | (refine wpListIn_ofW rfl (by simp) (fun Q' hQ => ?_); (refine wpList_store_new rfl 67 _ _ rfl (actC _).toArray rfl rfl 67 _ (by kernel_rfl) rfl (one_act _) ?_); refine hQ _ _ ?_))
            refine hYR.mono ?_
            rintro e W3 (⟨rfl, hJ3, hk3⟩ | ⟨rfl, hJx3⟩)
            · have hn3 := hk1.then hk3
              gi_wp2
              go_roundw
              case rel => exact ⟨k + 1, by omega, rfl, by rw [hyes.out]; exact hJ3, hn3⟩
              case measure => simp [intOf]; omega
            · gi_wp2
              refine bodyPost_ret (results_none rfl _ _ _) rfl ?_
              exact ⟨⟨_, rfl⟩, .inr ⟨_, by have h := ivs_pre file xs (k + 1); rw [hyes.out] at h; exact h, hJx3⟩⟩
          · have b3 : decide (x.day ≤ x.number) = false := by simpa using h3
            have hb : ivB file x = false := by unfold ivB; rw [b3]; simp
            replace hno := Lib.hid (hno hb)
            clear hyes h1 h2
            gi_wp2_with (first | (refine wpListIn_ofW rfl (by simp) (fun Q' hQ => ?_); (refine wpList_load_mid rfl 67 _ rfl _ _ rfl (actC _) _ gc Tryz.underlying67 rfl (by kernel_rfl) ?_); refine hQ _ _ ?_) | (refine wpListIn_ofW rfl (by simp) (fun Q' hQ => ?_); (refine wpList_store_new rfl 67 _ _ rfl (actC _).toArray rfl rfl 67 _ (by kernel_rfl) rfl (one_act _) ?_); refine hQ _ _ ?_))
            refine ⟨fun _ _ => trivial, ?_⟩
            gi_wp2
            go_roundw
            case rel => exact ⟨k + 1, by omega, rfl, by rw [hno.out]; exact hJ1, hk1⟩
            case measure => simp [intOf]; omega
        · have b2 : (x.file == file) = false := by rw [beq_eq_false_iff_ne]; exact h2
          have hb : ivB file x = false := by unfold ivB; rw [b2]; simp
          replace hno := Lib.hid (hno hb)
          clear hyes h1 h2
          gi_wp2_with (first | (refine wpListIn_ofW rfl (by simp) (fun Q' hQ => ?_); (refine wpList_load_mid rfl 67 _ rfl _ _ rfl (actC _) _ gc Tryz.underlying67 rfl (by kernel_rfl) ?_); refine hQ _ _ ?_) | (refine wpListIn_ofW rfl (by simp) (fun Q' hQ => ?_); (refine wpList_store_new rfl 67 _ _ rfl (actC _).toArray rfl rfl 67 _ (by kernel_rfl) rfl (one_act _) ?_); refine hQ _ _ ?_))
          refine ⟨fun _ _ => trivial, ?_⟩
          gi_wp2
          go_roundw
          case rel => exact ⟨k + 1, by omega, rfl, by rw [hno.out]; exact hJ1, hk1⟩
          case measure => simp [intOf]; omega
      · have b1 : (x.kind == 9) = false := by rw [beq_eq_false_iff_ne]; exact h1
        have hb : ivB file x = false := by unfold ivB; rw [b1]; simp
        replace hno := Lib.hid (hno hb)
        clear hyes h1
        gi_wp2_with (first | (refine wpListIn_ofW rfl (by simp) (fun Q' hQ => ?_); (refine wpList_load_mid rfl 67 _ rfl _ _ rfl (actC _) _ gc Tryz.underlying67 rfl (by kernel_rfl) ?_); refine hQ _ _ ?_) | (refine wpListIn_ofW rfl (by simp) (fun Q' hQ => ?_); (refine wpList_store_new rfl 67 _ _ rfl (actC _).toArray rfl rfl 67 _ (by kernel_rfl) rfl (one_act _) ?_); refine hQ _ _ ?_))
        refine ⟨fun _ _ => trivial, ?_⟩
        gi_wp2
        go_roundw
        case rel => exact ⟨k + 1, by omega, rfl, by rw [hno.out]; exact hJ1, hk1⟩
        case measure => simp [intOf]; omega
    · obtain rfl : k = xs.length := by omega
      rw [List.take_length] at hJk
      gi_wp2
      go_end0
      exact ⟨⟨_, rfl⟩, .inl ⟨_, rfl, hJk⟩⟩
end Go.Proofs.YtcmdekhhclgdcaaGreatDoor
