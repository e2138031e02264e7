/- package claims: parts; slices.Grow, slices.Concat at formulas.; the reference of package claims: Tops.; package claims: the iterator over the tops of a formula.; memory across a range over a function, with what is read; a row of four cells is written; what a round of one box and its row keeps. -/
import Derived.Test.YtcbmgajaaechjaaGreatClMA
import Derived.Test.YtcbmgajaaechjaaGreatFmZ
import Derived.Test.YtcbmgajaaechjaaGreatClL
import Derived.Test.YtcbmgajaaechjaaGreatCalmK
namespace Go.Proofs.YtcbmgajaaechjaaGreat
open Go.RowKit
set_option linter.unusedSimpArgs false
set_option linter.unusedVariables false
/-- parts: the kids of an OpAnd, else the formula alone -/
theorem parts_c {H : PH} (f : Fm) (cs : List Value) (w : World) (hl : PLe H (ph w)) (hr : FmR H cs f) : Calls Tryz.prog 62 #[.agg cs.toArray] w fun e w' => ∃ v, e = .returned v ∧ Ext w w' ∧ FmsR (up H w w') v (partsF f) := by
  have hr' := hr
  obtain ⟨a3, c3, a4, c4, rfl, -, -, -, -, -, hk⟩ := hr.form
  unfold fmC at *
  by_cases h : f.op = 4
  · have b1 : (f.op == 4) = true := by simpa using h
    have hp : partsF f = f.kids := by unfold partsF; rw [if_pos h]
    clear h
    go_enter Tryz.func62, Tryz.ntmps62
    go_wp2_with fail
    go_ret
    exact ⟨_, rfl, (by repeat (first | (with_reducible assumption) | (with_reducible exact Ext.rfl' _) | (with_reducible exact Ext.new _ _) | (with_reducible refine Ext.alloc' ?_ _) | (with_reducible refine Ext.drew' ?_) | (with_reducible refine Ext.drewN' ?_ _) | (with_reducible refine Ext.set' ?_ ?_ _; rotate_left; (focus (first | omega | (simp; done) | (simp; omega)))) | (with_reducible refine Ext.then (b := ?_) ?_ ?_; rotate_left; rotate_left; (with_reducible assumption)))), by rw [hp]; exact hk.mono mono_FmR (ple_up hl)⟩
  · have b1 : (f.op == 4) = false := by simpa using h
    have hp : partsF f = [f] := by unfold partsF; rw [if_neg h]
    clear h
    go_enter Tryz.func62, Tryz.ntmps62
    go_wp2_with fail
    go_ret
    refine ⟨_, rfl, (by repeat (first | (with_reducible assumption) | (with_reducible exact Ext.rfl' _) | (with_reducible exact Ext.new _ _) | (with_reducible refine Ext.alloc' ?_ _) | (with_reducible refine Ext.drew' ?_) | (with_reducible refine Ext.drewN' ?_ _) | (with_reducible refine Ext.set' ?_ ?_ _; rotate_left; (focus (first | omega | (simp; done) | (simp; omega)))) | (with_reducible refine Ext.then (b := ?_) ?_ ?_; rotate_left; rotate_left; (with_reducible assumption)))), ?_⟩
    rw [hp]
    have hM := (((Mem.start w H hl).ext (Ext.new w (.cells #[.int .i64 f.op, .int .i64 f.n, .slice a3 f.inn.length c3, .slice a4 f.kids.length c4] 39))).new' #[.int .i64 f.op, .int .i64 f.n, .slice a3 f.inn.length c3, .slice a4 f.kids.length c4] 39 (n := w.heap.size + 1) (by simp)).asOwn 0 rfl mono_FmR (sz := 4) (xs := [f]) (n := 1) (by simp) (by simp [maxLen]) rfl ⟨_, [], rfl, rfl, hr', rfl⟩
    exact hM.repUp 0 rfl
/-- n zero formulas appended to nil -/
theorem run_append_make (ty : TypeId) (n : Nat) (w : World) (h0 : 0 < n) (hn : n ≤ 1000000) :
    (Builtin.append_ #[37, 3] ty #[.slice none 0 0, .int .i64 (n : Int)]).run Tryz.prog w =
      .ok (.slice (some ⟨w.heap.size, 0, none⟩) n (grownCap w n 0 39)) (w.drew.alloc (.cells (Builtin.zeroCells zeroFv.cells n ++ Builtin.zeroCells zeroFv.cells (grownCap w n 0 39 - n)) 39)) := by
  obtain ⟨i, hi, hz, hs, hb⟩ := info_parts infoFm
  have h1 : n ≠ 0 := by omega
  have h2 : IntKind.i64.wrap (n : Int) = n := by rw [IntKind.wrap_i64]; omega
  have h3 : ¬ ((n : Int) < 0) := by omega
  have h4 : ¬ (281474976710656 < (n : Int) * 64) := by omega
  have h5 : ¬ (281474976710656 < Builtin.nextslicecap n 0 * 64) := by rw [nextslicecap_zero h0]; omega
  have h6 : ¬ (9223372036854775807 < (n : Int)) := by omega
  have h7 : ¬ (n * 4 = 0) := by omega
  simp [Builtin.append_, run_underlying Tryz.underlying37, run_underlying Tryz.underlying3, sizeOf, typeInfo, zeroValue, hi, hz, hs, hb, h1, h2, h3, h4, h5, h6, h7, Question.forced, newRow, grownCap, asInt, asIntOf, Builtin.firstCells]
theorem zeroCells_size (z : Array Value) (n : Nat) : (Builtin.zeroCells z n).size = n * z.size := size_zeroCells z n
theorem wpList_append_make {w : World} {ops : Array Oper} {rest : List Oper} {o : Oper} {a : Act} {Q : Exit → Act → World → Prop} (hgd : o.guard = none) (s x : Operand)
    (ho : o.op = .call { callee := .builtin .append, args := #[s, x], argTypes := #[37, 3] }) {n : Nat} (hs : a.eval s = .slice none 0 0) (hx : a.eval x = .int .i64 n) (h0 : 0 < n) (hn : n ≤ 1000000)
    (h : ∀ (cap : Nat) (cur : Array Value), n ≤ cap → cap ≤ maxLen → cur.size = cap * 4 → wpList Tryz.prog ops Q rest (a.put o.dst (.slice (some ⟨w.heap.size, 0, none⟩) n cap)) (w.drew.alloc (.cells cur 39))) :
    wpList Tryz.prog ops Q (o :: rest) a w := by
  have hr := run_append_make o.type n w h0 hn
  refine wpList_plain hgd fun _ hK => ?_
  unfold Oper.wp execOp
  simp only [ho, resolve, invoke, builtin, Sem.run_bind, Sem.run_pure, Result.andThen_ok, List.map_toArray, List.map_cons, List.map_nil, hs, hx, hr]
  have h1 := grownCap_ge w n 0 39
  refine hK _ _ (h _ _ h1 (grownCap_le_maxLen w n 0 _ (by unfold maxLen; omega)) ?_)
  have e : zeroFv.cells.size = 4 := rfl
  rw [Array.size_append, size_zeroCells, size_zeroCells, e, ← Nat.add_mul, Nat.add_sub_cancel' h1]
set_option maxRecDepth 100000 in
theorem grow_c (n : Nat) (w : World) (hn : n ≤ 1000000) : Calls Tryz.prog 98 #[.slice none 0 0, .int .i64 n] w fun e w' => ∃ v, e = .returned v ∧ Ext w w' ∧ OwnS w.heap.size noH w' FmR 4 39 v [] := by
  by_cases h0 : 0 < n
  · have b1 : decide ((n : Int) < 0) = false := by simp
    have b2 : decide (0 < n) = true := by simpa using h0
    go_enter Tryz.func98, Tryz.ntmps98
    go_wp2_with (at_builtin; refine wpList_append_make rfl _ _ rfl rfl rfl h0 hn ?_; intro cap cur h1 h2 h3)
    go_ret
    exact ⟨_, rfl, (by repeat (first | (with_reducible assumption) | (with_reducible exact Ext.rfl' _) | (with_reducible exact Ext.new _ _) | (with_reducible refine Ext.alloc' ?_ _) | (with_reducible refine Ext.drew' ?_) | (with_reducible refine Ext.drewN' ?_ _) | (with_reducible refine Ext.set' ?_ ?_ _; rotate_left; (focus (first | omega | (simp; done) | (simp; omega)))) | (with_reducible refine Ext.then (b := ?_) ?_ ?_; rotate_left; rotate_left; (with_reducible assumption)))), .inr ⟨w.heap.size, cap, cur, rfl, Nat.le_refl _, rfl, Own.new w.drew _ _, Nat.zero_le _, h2, h3, rfl⟩⟩
  · obtain rfl : n = 0 := by omega
    go_enter Tryz.func98, Tryz.ntmps98
    go_wp2_with fail
    go_ret
    exact ⟨_, rfl, (by repeat (first | (with_reducible assumption) | (with_reducible exact Ext.rfl' _) | (with_reducible exact Ext.new _ _) | (with_reducible refine Ext.alloc' ?_ _) | (with_reducible refine Ext.drew' ?_) | (with_reducible refine Ext.drewN' ?_ _) | (with_reducible refine Ext.set' ?_ ?_ _; rotate_left; (focus (first | omega | (simp; done) | (simp; omega)))) | (with_reducible refine Ext.then (b := ?_) ?_ ?_; rotate_left; rotate_left; (with_reducible assumption)))), OwnS.nil _ _ _ _ _ _⟩
def LlR (h : PH) (cs : List Value) (xs : List Fm) : Prop := ∃ v, cs = [v] ∧ FmsR h v xs
theorem mono_LlR : Mono LlR := by
  rintro h h' cs x hl ⟨v, rfl, h1⟩
  exact ⟨v, rfl, h1.mono mono_FmR hl⟩
theorem LlR.at {H : PH} {w : World} {a : Option Addr} {n cap : Nat} {xss : List (List Fm)} (hr : SliceRep LlR 1 H (.slice a n cap) xss) (hl : PLe H (ph w)) (k : Nat) (hk : k < xss.length) :
    ∃ b o a4 c4, a = some ⟨b, o, none⟩ ∧ w.cell? ⟨b, o + k, none⟩ = some (.slice a4 xss[k].length c4) ∧ FmsR H (.slice a4 xss[k].length c4) xss[k] ∧ b < w.heap.size := by
  obtain ⟨b, o, cs, h1, h2, h3, v, rfl, h4⟩ := hr.get k hk
  obtain ⟨a4, c4, rfl, -, h4⟩ := h4.form
  have := cellAt_mono hl (h3 0 (by omega))
  rw [← cell_ph] at this
  exact ⟨b, o, a4, c4, h1, by simpa using this, h4, cell_lt (by simpa using this)⟩
def sumL (xss : List (List Fm)) : Nat := sumN List.length xss
theorem sumL_flat : ∀ xss : List (List Fm), sumL xss = xss.flatten.length
  | [] => rfl
  | x :: xs => by unfold sumL; rw [sumN, List.flatten_cons, List.length_append]; have := sumL_flat xs; unfold sumL at this; omega
set_option maxRecDepth 100000 in
set_option maxHeartbeats 1000000 in
theorem concat_c {H : PH} (v : Value) (xss : List (List Fm)) (w : World) (hl : PLe H (ph w)) (hr : SliceRep LlR 1 H v xss) (hs : xss.flatten.length ≤ 1000) : Calls Tryz.prog 61 #[v] w fun e w' => ∃ v, e = .returned v ∧ Ext w w' ∧ FmsR (up H w w') v xss.flatten := by
  obtain ⟨a, c, rfl, hlen, hr⟩ := hr.form
  have hss : sumL xss ≤ 1000 := by rw [sumL_flat]; exact hs
  replace hs := Lib.hid hs
  go_enter Tryz.func61, Tryz.ntmps61
  go_wp2_with fail
  go_loopw [3, 11] (fun s i wr => ∃ k : Nat, k ≤ xss.length ∧ i = .int .i64 k ∧ s = .int .i64 (sumL (xss.take k)) ∧ Ext w wr) (fun _ i _ => xss.length - (intOf i).toNat)
  case atStart => exact ⟨0, Nat.zero_le _, rfl, rfl, (by repeat (first | (with_reducible assumption) | (with_reducible exact Ext.rfl' _) | (with_reducible exact Ext.new _ _) | (with_reducible refine Ext.alloc' ?_ _) | (with_reducible refine Ext.drew' ?_) | (with_reducible refine Ext.drewN' ?_ _) | (with_reducible refine Ext.set' ?_ ?_ _; rotate_left; (focus (first | omega | (simp; done) | (simp; omega)))) | (with_reducible refine Ext.then (b := ?_) ?_ ?_; rotate_left; rotate_left; (with_reducible assumption))))⟩
  case round =>
    obtain ⟨k, hk, rfl, rfl, hx⟩ := hrel
    by_cases hlt : k < xss.length
    · obtain ⟨b, o, a4, c4, rfl, h0, -, hbl⟩ := LlR.at hr (hl.trans hx.ple) k hlt
      have hst := sumN_take List.length xss k hlt
      have hst2 := sumN_take_le List.length xss (k + 1)
      change sumL (xss.take (k + 1)) = sumL (xss.take k) + xss[k].length at hst
      change sumL (xss.take (k + 1)) ≤ sumL xss at hst2
      have h1 : (sumL (xss.take k) : Int) + xss[k].length ≤ 1000 := by omega
      replace hst := Lib.hid hst
      generalize sumL (xss.take k) = s at *
      generalize xss[k].length = n at *
      have b1 : decide ((s : Int) + (n : Int) < 0) = false := by simp; omega
      clear hr
      go_wp2_with fail
      go_roundw
      case rel => exact ⟨k + 1, by omega, by go_num, by rw [hst.out]; go_num, (by repeat (first | (with_reducible assumption) | (with_reducible exact Ext.rfl' _) | (with_reducible exact Ext.new _ _) | (with_reducible refine Ext.alloc' ?_ _) | (with_reducible refine Ext.drew' ?_) | (with_reducible refine Ext.drewN' ?_ _) | (with_reducible refine Ext.set' ?_ ?_ _; rotate_left; (focus (first | omega | (simp; done) | (simp; omega)))) | (with_reducible refine Ext.then (b := ?_) ?_ ?_; rotate_left; rotate_left; (with_reducible assumption))))⟩
      case measure => simp [intOf]; omega
    · obtain rfl : k = xss.length := by omega
      rw [List.take_length]
      go_wp2_with fail
      refine (grow_c (sumL xss) _ (by omega)).mono ?_
      rintro e w1 ⟨g, rfl, hx1, ho⟩
      have hM0 := (((Mem.start w H hl).ext hx).take hx1 ho mono_FmR (noH_le _))
      obtain ⟨H2, hl2, -, hM⟩ := hM0
      simp only [List.nil_append] at hM
      clear ho hx1
      go_wp2_with fail
      go_loopw [6, 27] (fun g i wr => ∃ k : Nat, k ≤ xss.length ∧ i = .int .i64 k ∧ Mem w H [own mono_FmR 4 39 g (xss.take k).flatten] H2 wr) (fun _ i _ => xss.length - (intOf i).toNat)
      case atStart => exact ⟨0, Nat.zero_le _, rfl, hM⟩
      case round =>
        obtain ⟨k, hk, rfl, hM⟩ := hrel
        by_cases hlt : k < xss.length
        · obtain ⟨b, o, a4, c4, rfl, h0, hR, hbl⟩ := LlR.at hr (hM.le.trans hM.ple) k hlt
          obtain ⟨ga, gc, rfl, -⟩ := hM.form 0 rfl
          have hfl : (xss.take (k + 1)).flatten = (xss.take k).flatten ++ xss[k] := by rw [List.take_succ_eq_append_getElem hlt, List.flatten_append]; simp
          have hle : (xss.take (k + 1)).flatten.length ≤ 1000 := by
            rw [← sumL_flat]
            have := sumN_take_le List.length xss (k + 1)
            unfold sumL at *; omega
          rw [hfl, List.length_append] at hle
          have hS : Src wr H2 FmR 4 (.slice a4 xss[k].length c4) xss[k] := Src.ofRep (hR.mono mono_FmR hM.le) hM.ple
          replace hfl := Lib.hid hfl
          generalize (xss.take k).flatten = pre at *
          generalize xss[k] = xs at *
          go_wp2_with (at_builtin; refine wpList_append_M 0 rfl _ _ 37 rfl Tryz.underlying37 infoFm rfl rfl rfl (hM) rfl (hS) one_FmR ?c3 ?c4 ?c5)
          case c3 => omega
          case c4 => omega
          case c5 =>
            intro v' w3 hM4
            try simp only [List.set_cons_succ, List.set_cons_zero] at hM4
            rw [← hfl.out] at hM4
            go_wp2_with fail
            go_roundw
            case rel => exact ⟨k + 1, by omega, by go_num, hM4⟩
            case measure => simp [intOf]; omega
        · rw [List.take_of_length_le (by omega)] at hM
          go_wp2_with fail
          go_ret
          exact ⟨_, rfl, hM.ex, hM.repUp 0 rfl⟩
end Go.Proofs.YtcbmgajaaechjaaGreat
namespace Go.Proofs.YtcbmgajaaechjaaGreat
open Go.RowKit
set_option linter.unusedSimpArgs false
set_option linter.unusedVariables false
theorem tops_take {f : Fm} (h : f.op = 5) (k : Nat) : ((f.kids.take k).flatMap topsF).length ≤ f.size := by
  have h1 := flat_le topsF Fm.size (f.kids.take k) (fun x _ => topsF_len x)
  have h2 := sumN_take_le Fm.size f.kids k
  rw [Fm.size_eq]; omega
end Go.Proofs.YtcbmgajaaechjaaGreat
namespace Go.Proofs.YtcbmgajaaechjaaGreat
open Go.RowKit Go.Shelf
set_option linter.unusedSimpArgs false
set_option linter.unusedVariables false
attribute [local go_sem] Oper.semAt_some run_store_fn
theorem tops_p (f : Fm) (cs : List Value) (w : World) (hr : FmR (ph w) cs f) : Calls Tryz.prog 60 #[.agg cs.toArray] w fun e w' => e = .returned (.func (.func 95) #[] #[.pointer (some ⟨w.heap.size, 0, none⟩)]) ∧ w' = w.alloc (.cells cs.toArray 39) := by
  obtain ⟨a3, c3, a4, c4, rfl, -⟩ := hr.form
  unfold fmC
  go_enter Tryz.func60, Tryz.ntmps60
  go_wp2_with fail
  go_ret
  exact ⟨rfl, rfl⟩
section
variable {H : PH} {n l N n₀ Bo B1 B2 : Nat} {J Jx : List (FmA H) → World → Prop} {tot : List Fm}
/-- the frames' own blocks: the function that yields, the function that goes down -/
def DownT (Bo l B1 B2 : Nat) (W : World) : Prop := Held Bo W B1 #[.func (.yield l) #[] #[]] 91 ∧
  Held Bo W B2 #[.func (.func 96) #[] #[.pointer (some ⟨B1, 0, none⟩), .pointer (some ⟨B2, 0, none⟩)]] 91
theorem DownT.kx {W W' : World} (h : DownT Bo l B1 B2 W) (k : Kx n₀ Bo W W') : DownT Bo l B1 B2 W' := ⟨h.1.kx k, h.2.kx k⟩
/-- what stands at each step -/
structure StepT (H : PH) (n₀ Bo l B1 B2 : Nat) (W : World) : Prop where
  sz : n₀ ≤ W.heap.size
  good : Good Bo W
  le : PLe H (ph W)
  m : DownT Bo l B1 B2 W
theorem StepT.kx {W W' : World} (hlow : ∀ k o, H k = some o → k < n₀) (h : StepT H n₀ Bo l B1 B2 W) (k : Kx n₀ Bo W W') : StepT H n₀ Bo l B1 B2 W' := by
  refine ⟨Nat.le_trans h.sz k.2.1, h.good.kx k, fun i o hi => ?_, h.m.kx k⟩
  show W'.heap[i]? = some o
  rw [k.1.block i (hlow i o hi)]
  exact h.le i o hi
theorem StepT.ext {W W' : World} (hlow : ∀ k o, H k = some o → k < n₀) (h : StepT H n₀ Bo l B1 B2 W) (e : Ext W W') : StepT H n₀ Bo l B1 B2 W' := h.kx hlow (Kx.ext e h.good.1 h.sz)
/-- the function at a kid -/
theorem top1_c (cs : List Value) (x : Fm) (W : World) (pre : List (FmA H)) (hx : FmR H cs x) (hM : StepT H n₀ Bo l B1 B2 W) (hlow : ∀ k o, H k = some o → k < n₀) (hJ : J pre W) (hJa : ∀ pre W o, J pre W → J pre (W.alloc o))
    (ih : ∀ W, StepT H n₀ Bo l B1 B2 W → J pre W → Calls Tryz.prog 96 #[.agg cs.toArray, .pointer (some ⟨B1, 0, none⟩), .pointer (some ⟨B2, 0, none⟩)] W (ItP tot pre (topsF x) J Jx n₀ Bo W)) :
    Calls Tryz.prog 97 #[.agg cs.toArray, .pointer (some ⟨B2, 0, none⟩)] W fun e W' => (e = .returned (.bool false) ∧ ∃ ys, fmsOf ys = (topsF x) ∧ J (pre ++ ys) W' ∧ Kx n₀ Bo W W') ∨ (e = .returned (.bool true) ∧ ∃ p, fmsOf p <+: tot ∧ Jx p W') := by
  obtain ⟨a3, c3, a4, c4, rfl, -⟩ := hx.form
  unfold fmC at *
  have hM1 := hM.ext hlow (Ext.new W (.cells #[.int .i64 x.op, .int .i64 x.n, .slice a3 x.inn.length c3, .slice a4 x.kids.length c4] 39))
  have hJ1 := hJa _ _ (.cells #[.int .i64 x.op, .int .i64 x.n, .slice a3 x.inn.length c3, .slice a4 x.kids.length c4] 39) hJ
  have hk1 : Kx n₀ Bo W (W.alloc (.cells #[.int .i64 x.op, .int .i64 x.n, .slice a3 x.inn.length c3, .slice a4 x.kids.length c4] 39)) := Kx.ext (Ext.new _ _) hM.good.1 hM.sz
  obtain ⟨f1, -⟩ := hM1.m.2.1.facts
  have f2 := f1 0
  simp only [List.getElem?_toArray, List.getElem?_cons_zero] at f2
  have HI := Lib.hid ih; clear ih f1
  go_enter Tryz.func97, Tryz.ntmps97
  go_wp2_with fail
  refine (HI.out _ hM1 hJ1).mono ?_
  rintro e w1 (⟨rfl, ys, h1, h2, h3⟩ | ⟨rfl, p, h1, h2⟩)
  · go_wp2_with fail
    go_ret
    exact .inl ⟨rfl, ys, h1, h2, hk1.then h3⟩
  · go_wp2_with fail
    go_ret
    exact .inr ⟨rfl, p, h1, h2⟩
/-- down: a top, or the tops of its kids -/
theorem top_c (hn : 2 ≤ n) (hlow : ∀ k o, H k = some o → k < n₀) (hJa : ∀ pre W o, J pre W → J pre (W.alloc o)) (hY : YieldOk n l N n₀ Bo J Jx) (htot : tot.length ≤ N) (f : Fm) : ∀ (cs : List Value) (pre : List (FmA H)) (W : World),
    FmR H cs f → StepT H n₀ Bo l B1 B2 W → J pre W → fmsOf pre ++ topsF f <+: tot →
    Calls Tryz.prog 96 #[.agg cs.toArray, .pointer (some ⟨B1, 0, none⟩), .pointer (some ⟨B2, 0, none⟩)] W (ItP tot pre (topsF f) J Jx n₀ Bo W) := by
  induction f using Fm.ind with
  | h f ih =>
    intro cs pre W hr hM hJ ht
    have hr' := hr
    obtain ⟨a3, c3, a4, c4, rfl, -, -, -, hkl, -, hk⟩ := hr.form
    unfold fmC at *
    have hM1 := hM.ext hlow (Ext.new W (.cells #[.int .i64 f.op, .int .i64 f.n, .slice a3 f.inn.length c3, .slice a4 f.kids.length c4] 39))
    have hJ1 := hJa _ _ (.cells #[.int .i64 f.op, .int .i64 f.n, .slice a3 f.inn.length c3, .slice a4 f.kids.length c4] 39) hJ
    have hk1 : Kx n₀ Bo W (W.alloc (.cells #[.int .i64 f.op, .int .i64 f.n, .slice a3 f.inn.length c3, .slice a4 f.kids.length c4] 39)) := Kx.ext (Ext.new _ _) hM.good.1 hM.sz
    obtain ⟨f1, -⟩ := hM1.m.1.1.facts
    have f2 := f1 0
    simp only [List.getElem?_toArray, List.getElem?_cons_zero] at f2
    have HI := Lib.hid ih; clear ih f1
    have hn1 : 1 ≤ n := by omega
    have hT := Lib.hid (topsF_eq f)
    by_cases h5 : f.op = 5
    · have b1 : (f.op != 5) = false := by simpa using h5
      have hT2 : topsF f = f.kids.flatMap topsF := by rw [hT.out, if_pos h5]
      clear h5
      go_enter Tryz.func96, Tryz.ntmps96
      go_wp2_with fail
      refine (containsFunc_J 97 #[.pointer (some ⟨B2, 0, none⟩)] _ f.kids hk
        (fun k wr => ∃ ys, fmsOf ys = (f.kids.take k).flatMap topsF ∧ J (pre ++ ys) wr ∧ Kx n₀ Bo W wr ∧ StepT H n₀ Bo l B1 B2 wr) (fun wr => ∃ p, fmsOf p <+: tot ∧ Jx p wr) _
        (fun args w => enterFn Tryz.func97 rfl rfl args w) ?_ (fun k wr h => h.choose_spec.2.2.2.le) ⟨[], rfl, by rw [List.append_nil]; exact hJ1, hk1, hM1⟩).mono ?_
      · rintro k hkk wr cs ⟨ys, g1, g2, g3, g4⟩ hE
        have e : (f.kids.take (k + 1)).flatMap topsF = (f.kids.take k).flatMap topsF ++ topsF f.kids[k] := by
          rw [List.take_succ_eq_append_getElem hkk, List.flatMap_append]; simp
        have ht2 : fmsOf (pre ++ ys) ++ topsF f.kids[k] <+: tot := by
          refine List.IsPrefix.trans ?_ ht
          rw [fmsOf_app, g1, hT2, List.append_assoc, ← e]
          refine (List.prefix_append_right_inj _).2 ?_
          have e3 : f.kids.flatMap topsF = (f.kids.take (k + 1)).flatMap topsF ++ (f.kids.drop (k + 1)).flatMap topsF := by rw [← List.flatMap_append, List.take_append_drop]
          rw [e3]
          exact List.prefix_append _ _
        refine (top1_c cs f.kids[k] wr _ hE g4 hlow g2 hJa fun W' hM' hJ' => HI.out _ (List.getElem_mem hkk) cs _ W' hE hM' hJ' ht2).mono ?_
        rintro e' w' (⟨rfl, zs, q1, q2, q3⟩ | ⟨rfl, p, q1, q2⟩)
        · refine .inl ⟨rfl, ys ++ zs, by rw [fmsOf_app, g1, q1, e], by rw [← List.append_assoc]; exact q2, g3.then q3, g4.kx hlow q3⟩
        · exact .inr ⟨rfl, p, q1, q2⟩
      · rintro e w4 (⟨rfl, ys, g1, g2, g3, g4⟩ | ⟨rfl, p, g1, g2⟩)
        · go_wp2_with fail
          go_ret
          refine .inl ⟨rfl, ys, ?_, g2, g3⟩
          rw [List.take_length] at g1
          rw [g1, hT2]
        · go_wp2_with fail
          go_ret
          exact .inr ⟨rfl, p, g1, g2⟩
    · have b1 : (f.op != 5) = true := by simpa using h5
      have hT2 : topsF f = [f] := by rw [hT.out, if_neg h5]
      have hlen : pre.length < N := by
        have := ht.length_le
        rw [List.length_append, fmsOf_len, hT2] at this
        simp at this; omega
      obtain ⟨fn, tmps, assign, body, hy, hYR⟩ := hY _ ⟨(_, f), hr'⟩ _ hJ1 hlen
      dsimp only at hy
      clear h5
      refine (callsIn_wide (n := n)).1 ?_
      refine callsIn_of_wp Tryz.func96 rfl trivial ?_ rfl
      simp only [Tryz.ntmps96, List.size_toArray, List.length_cons, List.length_nil, Nat.reduceAdd, Nat.reduceSub, Array.replicate_succ, Array.replicate_zero, List.push_toArray, List.append_toArray, List.nil_append, List.cons_append]
      gi_wp2
      refine hYR.mono ?_
      rintro e W3 (⟨rfl, hJ3, hk3⟩ | ⟨rfl, hJx3⟩)
      · gi_wp2
        go_ret
        refine .inl ⟨rfl, [⟨(_, f), hr'⟩], by rw [hT2]; rfl, hJ3, hk1.then hk3⟩
      · gi_wp2
        go_ret
        refine .inr ⟨rfl, _, ?_, hJx3⟩
        rw [fmsOf_app]
        rw [hT2] at ht
        exact ht
end
set_option maxRecDepth 100000 in
theorem tops_seq {H : PH} {n n₀ Bo Bf : Nat} {w0 : World} {cs : List Value} {f : Fm} (hn : 3 ≤ n) (hg : Good Bo w0) (hle : PLe H (ph w0)) (hlow : ∀ k o, H k = some o → k < n₀) (hn₀ : n₀ ≤ w0.heap.size) (hB : Own w0 Bf cs.toArray 39) (hr : FmR H cs f) :
    SeqStopsK Fence.wide (n - 1) Tryz.prog 95 #[.pointer (some ⟨Bf, 0, none⟩)] (fun x : FmA H => #[.agg x.1.1.toArray]) (Kx n₀ Bo) (fun ys => fmsOf ys = topsF f) (fun p => fmsOf p <+: topsF f) (topsF f).length w0 := by
  intro l J Jx W hW hJ _ hY h0
  obtain ⟨a3, c3, a4, c4, rfl, -⟩ := hr.form
  have hBW : Own W Bf _ _ := hB.keep hW
  have hgW : Good Bo W := hg.ext hW
  have hle1 : PLe H (ph W) := hle.trans (Ext.ple hW)
  have hsz : n₀ ≤ W.heap.size := Nat.le_trans hn₀ hW.size
  obtain ⟨f1, -⟩ := hBW.facts
  have q0 := f1 0
  have q1 := f1 1
  have q2 := f1 2
  have q3 := f1 3
  simp only [fmC, List.getElem?_toArray, List.getElem?_cons_zero, List.getElem?_cons_succ] at q0 q1 q2 q3
  have hlB := hBW.lt
  have hJa : ∀ pre W1 o, J pre W1 → J pre (W1.alloc o) := fun pre W1 o h => hJ pre W1 _ none h (World.grownBy_alloc W1 o none) (fun r e => by cases e)
  have e1 : Ext W ((W.alloc (.cells #[.func (.yield l) #[] #[]] 91)).alloc (.cells #[.func (.func 96) #[] #[.pointer (some ⟨W.heap.size, 0, none⟩), .pointer (some ⟨W.heap.size + 1, 0, none⟩)]] 91)) := (Ext.new W _).alloc' _
  have o1 : Own ((W.alloc (.cells #[.func (.yield l) #[] #[]] 91)).alloc (.cells #[.func (.func 96) #[] #[.pointer (some ⟨W.heap.size, 0, none⟩), .pointer (some ⟨W.heap.size + 1, 0, none⟩)]] 91)) W.heap.size #[.func (.yield l) #[] #[]] 91 := (Own.new W _ _).alloc _
  have o2 : Own ((W.alloc (.cells #[.func (.yield l) #[] #[]] 91)).alloc (.cells #[.func (.func 96) #[] #[.pointer (some ⟨W.heap.size, 0, none⟩), .pointer (some ⟨W.heap.size + 1, 0, none⟩)]] 91)) (W.heap.size + 1) #[.func (.func 96) #[] #[.pointer (some ⟨W.heap.size, 0, none⟩), .pointer (some ⟨W.heap.size + 1, 0, none⟩)]] 91 := Own.new' _ _ _ (by simp)
  have hJ2 := hJa _ _ (.cells #[.func (.func 96) #[] #[.pointer (some ⟨W.heap.size, 0, none⟩), .pointer (some ⟨W.heap.size + 1, 0, none⟩)]] 91) (hJa _ _ (.cells #[.func (.yield l) #[] #[]] 91) h0)
  have hM : StepT H n₀ Bo l W.heap.size (W.heap.size + 1) _ := ⟨Nat.le_trans hsz e1.size, hgW.ext e1, hle1.trans e1.ple, Held.new hgW e1 (Nat.le_refl _) o1, Held.new hgW e1 (by omega) o2⟩
  have hk := Kx.ext (n₀ := n₀) e1 hgW.1 hsz
  have HC := Lib.hid (top_c (B1 := W.heap.size) (B2 := W.heap.size + 1) (n := n - 1) (N := (topsF f).length) (Jx := Jx) (by omega) hlow hJa hY (Nat.le_refl _) f _ [] _ hr hM hJ2 (List.prefix_refl _))
  clear hM hJ2 o1 o2 e1 f1 hB hBW hW hY hJ h0
  refine callsIn_of_wp Tryz.func95 rfl trivial ?_ rfl
  simp only [Tryz.ntmps95, List.size_toArray, List.length_cons, List.length_nil, Nat.reduceAdd, Nat.reduceSub, Array.replicate_succ, Array.replicate_zero, List.push_toArray, List.append_toArray, List.nil_append, List.cons_append]
  gi_wp2
  refine ⟨trivial, fun _ => by omega, callsIn_wide.2 (HC.out.mono ?_)⟩
  rintro e w4 (⟨rfl, ys, g1, g2, g3⟩ | ⟨rfl, p, g1, g2⟩)
  · gi_wp2
    go_end0
    exact ⟨⟨_, rfl⟩, .inl ⟨ys, g1, g2⟩⟩
  · gi_wp2
    go_end0
    exact ⟨⟨_, rfl⟩, .inr ⟨p, g1, g2⟩⟩
end Go.Proofs.YtcbmgajaaechjaaGreat
namespace Go.Proofs.YtcbmgajaaechjaaGreat
open Go.RowKit Go.Shelf
set_option linter.unusedSimpArgs false
set_option linter.unusedVariables false
theorem Mem.ownFromH {w0 A B : World} {H0 H : PH} {L : List Chunk} {row : Option Nat} {n : Nat} (hL : ∀ c ∈ L, c.isC) (h : Mem w0 H0 L H A) (hH : ∀ k o, H k = some o → k < n) (hn : w0.heap.size ≤ n) (hg : A.grownBy B row) (hr : ∀ r, row = some r → n ≤ r ∧ ∃ o : Obj, A.heap[r]? = some o ∧ o.isCells = false) : Mem w0 H0 L H B :=
  h.grownN hg fun r e => by
    obtain ⟨h1, o, h2, h3⟩ := hr r e
    refine ⟨Nat.le_trans hn h1, ?_, fun i c hi hf => ?_⟩
    · cases hx : H r with
      | none => rfl
      | some o => have := hH r o hx; omega
    · obtain ⟨cs, T, h4⟩ := hL c (List.mem_of_getElem? hi) _ _ _ (h.ok i c hi) hf
      rw [h4] at h2; cases h2; cases h3
theorem Mem.addRawH {w0 w : World} {H0 H : PH} {L : List Chunk} {b : Nat} {o : Obj} (hL : ∀ c ∈ L, c.isC) (h : Mem w0 H0 L H w) (hb : w0.heap.size ≤ b) (hH : H b = none) (ho : w.heap[b]? = some o) (hc : o.isCells = false) : Mem w0 H0 (L ++ [raw b o]) H w :=
  h.add _ ho fun k hk => by
    cases hk
    refine ⟨hb, hH, fun i d hi hf => ?_⟩
    obtain ⟨cs, T, h4⟩ := hL d (List.mem_of_getElem? hi) _ _ _ (h.ok i d hi) hf
    rw [h4] at ho; cases ho; cases hc
/-- the deferred calls are taken -/
theorem Mem.putRaw {w0 w : World} {H0 H : PH} {L : List Chunk} {b : Nat} {o o' : Obj} (h : Mem w0 H0 L H w) (i : Nat) (hi : L[i]? = some (raw b o)) : Mem w0 H0 (L.set i (raw b o')) H (w.putObj b o') := by
  have hk : w.heap[b]? = some o := h.ok i _ hi
  have hlt := (Array.getElem?_eq_some_iff.1 hk).1
  refine h.put i hi (c' := raw b o') ?_ (fun k hk => .inl hk) (h.ex.grown (grownBy_putObj' _ _ _) fun k e => by cases e; exact (h.fr i _ hi b rfl).1) fun k hk hne => ?_
  · show (w.putObj b o').heap[b]? = some o'
    simp [World.putObj, hlt]
  · exact World.putObj_heap_other (fun e => hne (by rw [e]; rfl))
theorem Cells.set4 {α : Type} {E : PH → List Value → α → Prop} {H : PH} {u v t s : Value} {x : α} (hx : E H [u, v, t, s] x) : ∀ {xs : List α} {c : List Value} (k : Nat), k < xs.length → Cells H E 4 c xs → Cells H E 4 ((((c.set (k * 4) u).set (k * 4 + 1) v).set (k * 4 + 2) t).set (k * 4 + 3) s) (xs.set k x)
  | [], _, k, hk, _ => by simp at hk
  | y :: ys, c, 0, _, hc => by
    obtain ⟨cs, rest, rfl, h1, h2, h3⟩ := hc
    match cs, h1 with
    | [a, b, d, e], _ => exact ⟨[u, v, t, s], rest, rfl, rfl, hx, h3⟩
  | y :: ys, c, k + 1, hk, hc => by
    obtain ⟨cs, rest, rfl, h1, h2, h3⟩ := hc
    match cs, h1 with
    | [a, b, d, e], _ =>
      refine ⟨[a, b, d, e], _, ?_, rfl, h2, Cells.set4 hx k (by simpa using hk) h3⟩
      rw [show (k + 1) * 4 = k * 4 + 1 + 1 + 1 + 1 by omega]
      simp only [List.cons_append, List.nil_append, List.set_cons_succ]
/-- a row of four cells of an own slice is written -/
theorem Mem.row4 {α : Type} {E : PH → List Value → α → Prop} {hm : Mono E} {w0 w : World} {H0 H : PH} {L : List Chunk} {T : TypeId} {g n cap : Nat} {xs : List α} {x' : α} {a b c d : Value} (h : Mem w0 H0 L H w) (i : Nat) (hi : L[i]? = some (Proofs.YtcbmgajaaechjaaGreat.own hm 4 T (.slice (some ⟨g, 0, none⟩) n cap) xs)) (k : Nat) (hk : k < xs.length) (hx : E H [a, b, c, d] x') :
    Mem w0 H0 (L.set i (Proofs.YtcbmgajaaechjaaGreat.own hm 4 T (.slice (some ⟨g, 0, none⟩) n cap) (xs.set k x'))) H ((((w.setCell ⟨g, k * 4, none⟩ a).setCell ⟨g, k * 4 + 1, none⟩ b).setCell ⟨g, k * 4 + 2, none⟩ c).setCell ⟨g, k * 4 + 3, none⟩ d) := by
  have hil : i < L.length := (List.getElem?_eq_some_iff.1 hi).1
  rcases h.asBox i hi with ⟨h1, -⟩ | ⟨g', cap', cur, e, h1, h2, h3, h4, h5⟩
  · cases h1
  · cases e
    have s1 := h5.set i (List.getElem?_set_self hil) (k * 4) a
    rw [List.set_set] at s1
    have s2 := s1.set i (List.getElem?_set_self hil) (k * 4 + 1) b
    rw [List.set_set] at s2
    have s3 := s2.set i (List.getElem?_set_self hil) (k * 4 + 2) c
    rw [List.set_set] at s3
    have s4 := s3.set i (List.getElem?_set_self hil) (k * 4 + 3) d
    rw [List.set_set] at s4
    have := s4.asOwn i (List.getElem?_set_self hil) hm (xs := xs.set k x') (sz := 4) (n := cap) (by simpa using h1) h2 (by simpa using h3) (by
      have := Cells.set4 hx k hk h4
      simpa [Array.toList_setIfInBounds, List.take_set] using this)
    rw [List.set_set, List.length_set] at this
    exact this
/-- what is free at row k, as the walk asks -/
theorem Mem.row4_f {α : Type} {E : PH → List Value → α → Prop} {hm : Mono E} {w0 w : World} {H0 H : PH} {L : List Chunk} {T : TypeId} {g n cap : Nat} {xs : List α} (h : Mem w0 H0 L H w) (i : Nat) (hi : L[i]? = some (Proofs.YtcbmgajaaechjaaGreat.own hm 4 T (.slice (some ⟨g, 0, none⟩) n cap) xs)) (k : Nat) (hk : k < xs.length) :
    g < w.heap.size ∧ (∀ j, w.frozen? ⟨g, j, none⟩ = false) ∧ ∀ j, j < 4 → ∃ u, w.cell? ⟨g, k * 4 + j, none⟩ = some u := by
  rcases h.asBox i hi with ⟨h1, -⟩ | ⟨g', cap', cur, e, h1, h2, h3, h4, h5⟩
  · cases h1
  · cases e
    have hil : i < L.length := (List.getElem?_eq_some_iff.1 hi).1
    obtain ⟨f1, f2⟩ := (h5.box i (List.getElem?_set_self hil)).facts
    refine ⟨(h5.box i (List.getElem?_set_self hil)).lt, f2, fun j hj => ?_⟩
    have hlt : k * 4 + j < cur.size := by rw [h3]; omega
    exact ⟨cur[k * 4 + j], by rw [f1]; exact Array.getElem?_eq_getElem hlt⟩
/-- the body's box turns from v to v' -/
theorem Kx.turn {n₀ Bo : Nat} {W W' : World} {v v' : Value} {T : TypeId} (h : Own W Bo #[v] T) (h' : Own W' Bo #[v'] T) (hb : Below n₀ W W') (hs : W.heap.size ≤ W'.heap.size) (hk : ∀ k, k < W.heap.size → k ≠ Bo → v.ownBlock ≠ some k → W'.heap[k]? = W.heap[k]?)
    (hv : ∀ k, v'.ownBlock = some k → v.ownBlock = some k ∨ W.heap.size ≤ k) (hlt : ∀ k, v'.ownBlock = some k → k < W'.heap.size) : Kx n₀ Bo W W' := by
  have hc : W.cell? ⟨Bo, 0, none⟩ = some v := h.facts.1 0
  refine ⟨hb, hs, fun b c T' ho hx => ?_, fun b hx => ?_⟩
  · unfold Own at *
    rw [hk b (Array.getElem?_eq_some_iff.1 ho).1 (fun e => hx (.inl e)) (fun e => hx (.inr ⟨0, v, hc, e⟩))]
    exact ho
  · rcases hx with rfl | ⟨j, u, h1, h2⟩
    · exact .inl (.inl rfl)
    · rw [h'.facts.1 j] at h1
      match j, h1 with
      | 0, h1 =>
        obtain rfl : v' = u := by simpa using h1
        rcases hv b h2 with h3 | h3
        · exact .inl (.inr ⟨0, v, hc, h3⟩)
        · exact .inr ⟨h3, hlt b h2⟩
      | j + 1, h1 => simp at h1
end Go.Proofs.YtcbmgajaaechjaaGreat
