/- Compare of both sides. -/
import Derived.Test.YtebhdjeognpljaaOrdLaw
import Derived.Test.YtebhdjeognpljaaCalmI
import Derived.Test.YtebhdjeognpljaaMem
namespace Go.Proofs.Ytebhdjeognpljaa
open Go.RowKit
set_option linter.unusedSimpArgs false
set_option linter.unusedVariables false
theorem RetV_at {P : Program} {f : FuncId} {args : Array Value} {w : World} {v : Value} {K : Ending → World → Prop} (h : Calls P f args w (RetV w v)) (hK : ∀ w', Ext w w' → K (.returned v) w') : Calls P f args w K :=
  h.mono fun e w' ⟨h1, h2⟩ => by subst h1; exact hK w' h2
theorem isNaN_c (n : Int) (w : World) : Calls Try.prog 77 #[.int .i64 n] w (RetV w (.bool false)) := by
  go_enter Try.func77, Try.ntmps77
  go_wp2_with fail
  go_ret
  exact ⟨rfl, (by repeat (first | (with_reducible assumption) | (with_reducible exact Ext.rfl' _) | (with_reducible exact Ext.new _ _) | (with_reducible refine Ext.alloc' ?_ _) | (with_reducible refine Ext.drew' ?_) | (with_reducible refine Ext.drewN' ?_ _) | (with_reducible refine Ext.set' ?_ ?_ _; rotate_left; (focus (first | omega | (simp; done) | (simp; omega)))) | (with_reducible refine Ext.then (b := ?_) ?_ ?_; rotate_left; rotate_left; (with_reducible assumption))))⟩
theorem cmpI_lt {a b : Int} (h : a < b) : cmpI a b = -1 := by unfold cmpI; rw [if_pos h]
theorem cmpI_gt {a b : Int} (h : b < a) : cmpI a b = 1 := by unfold cmpI; rw [if_neg (by omega), if_pos h]
theorem cmpI_eq {a b : Int} (h1 : ¬ a < b) (h2 : ¬ b < a) : cmpI a b = 0 := by unfold cmpI; rw [if_neg h1, if_neg h2]
theorem cmpI_c (a b : Int) (w : World) : Calls Try.prog 49 #[.int .i64 a, .int .i64 b] w (RetV w (.int .i64 (cmpI a b))) := by
  go_enter Try.func49, Try.ntmps49
  go_wp2_with fail
  refine RetV_at (isNaN_c a _) ?_
  intro w1 hb1
  go_wp2_with fail
  refine RetV_at (isNaN_c b _) ?_
  intro w2 hb2
  by_cases h1 : a < b
  · go_wp2_with fail
    go_ret
    exact ⟨ret_int (cmpI_lt (by omega)).symm, (by repeat (first | (with_reducible assumption) | (with_reducible exact Ext.rfl' _) | (with_reducible exact Ext.new _ _) | (with_reducible refine Ext.alloc' ?_ _) | (with_reducible refine Ext.drew' ?_) | (with_reducible refine Ext.drewN' ?_ _) | (with_reducible refine Ext.set' ?_ ?_ _; rotate_left; (focus (first | omega | (simp; done) | (simp; omega)))) | (with_reducible refine Ext.then (b := ?_) ?_ ?_; rotate_left; rotate_left; (with_reducible assumption))))⟩
  · by_cases h2 : b < a
    · go_wp2_with fail
      go_ret
      exact ⟨ret_int (cmpI_gt (by omega)).symm, (by repeat (first | (with_reducible assumption) | (with_reducible exact Ext.rfl' _) | (with_reducible exact Ext.new _ _) | (with_reducible refine Ext.alloc' ?_ _) | (with_reducible refine Ext.drew' ?_) | (with_reducible refine Ext.drewN' ?_ _) | (with_reducible refine Ext.set' ?_ ?_ _; rotate_left; (focus (first | omega | (simp; done) | (simp; omega)))) | (with_reducible refine Ext.then (b := ?_) ?_ ?_; rotate_left; rotate_left; (with_reducible assumption))))⟩
    · go_wp2_with fail
      go_ret
      exact ⟨ret_int (cmpI_eq (by omega) (by omega)).symm, (by repeat (first | (with_reducible assumption) | (with_reducible exact Ext.rfl' _) | (with_reducible exact Ext.new _ _) | (with_reducible refine Ext.alloc' ?_ _) | (with_reducible refine Ext.drew' ?_) | (with_reducible refine Ext.drewN' ?_ _) | (with_reducible refine Ext.set' ?_ ?_ _; rotate_left; (focus (first | omega | (simp; done) | (simp; omega)))) | (with_reducible refine Ext.then (b := ?_) ?_ ?_; rotate_left; rotate_left; (with_reducible assumption))))⟩
theorem order_c (a b : Int) (w : World) : Calls Try.prog 55 #[.int .i64 a, .int .i64 b] w (RetV w (.int .i64 (cmpI a b))) := by
  by_cases h1 : a < b
  · go_enter Try.func55, Try.ntmps55
    go_wp2_with fail
    go_ret
    exact ⟨ret_int (cmpI_lt (by omega)).symm, (by repeat (first | (with_reducible assumption) | (with_reducible exact Ext.rfl' _) | (with_reducible exact Ext.new _ _) | (with_reducible refine Ext.alloc' ?_ _) | (with_reducible refine Ext.drew' ?_) | (with_reducible refine Ext.drewN' ?_ _) | (with_reducible refine Ext.set' ?_ ?_ _; rotate_left; (focus (first | omega | (simp; done) | (simp; omega)))) | (with_reducible refine Ext.then (b := ?_) ?_ ?_; rotate_left; rotate_left; (with_reducible assumption))))⟩
  · by_cases h2 : b < a
    · go_enter Try.func55, Try.ntmps55
      go_wp2_with fail
      go_ret
      exact ⟨ret_int (cmpI_gt (by omega)).symm, (by repeat (first | (with_reducible assumption) | (with_reducible exact Ext.rfl' _) | (with_reducible exact Ext.new _ _) | (with_reducible refine Ext.alloc' ?_ _) | (with_reducible refine Ext.drew' ?_) | (with_reducible refine Ext.drewN' ?_ _) | (with_reducible refine Ext.set' ?_ ?_ _; rotate_left; (focus (first | omega | (simp; done) | (simp; omega)))) | (with_reducible refine Ext.then (b := ?_) ?_ ?_; rotate_left; rotate_left; (with_reducible assumption))))⟩
    · go_enter Try.func55, Try.ntmps55
      go_wp2_with fail
      go_ret
      exact ⟨ret_int (cmpI_eq (by omega) (by omega)).symm, (by repeat (first | (with_reducible assumption) | (with_reducible exact Ext.rfl' _) | (with_reducible exact Ext.new _ _) | (with_reducible refine Ext.alloc' ?_ _) | (with_reducible refine Ext.drew' ?_) | (with_reducible refine Ext.drewN' ?_ _) | (with_reducible refine Ext.set' ?_ ?_ _; rotate_left; (focus (first | omega | (simp; done) | (simp; omega)))) | (with_reducible refine Ext.then (b := ?_) ?_ ?_; rotate_left; rotate_left; (with_reducible assumption))))⟩
def zeroUpto {α : Type} (f : α → α → Int) (xs ys : List α) (k : Nat) : Prop := ∀ j (h : j < xs.length) (h' : j < ys.length), j < k → f xs[j] ys[j] = 0
theorem zeroUpto_succ {α : Type} {f : α → α → Int} {xs ys : List α} {k : Nat} (h : zeroUpto f xs ys k) (h1 : k < xs.length) (h2 : k < ys.length) (hk : f xs[k] ys[k] = 0) : zeroUpto f xs ys (k + 1) := by
  intro j a b hj
  by_cases e : j < k
  · exact h j a b e
  · obtain rfl : j = k := by omega
    exact hk
theorem cmpL_at {α : Type} {f : α → α → Int} : ∀ {xs ys : List α} {k : Nat} (h1 : k < xs.length) (h2 : k < ys.length), zeroUpto f xs ys k → f xs[k] ys[k] ≠ 0 → cmpL f xs ys = f xs[k] ys[k]
  | x :: xs, y :: ys, 0, _, _, _, h => by simp only [cmpL]; rw [if_neg (by simpa using h)]; rfl
  | x :: xs, y :: ys, k + 1, h1, h2, hz, h => by
    have h0 := hz 0 (by simp) (by simp) (by omega)
    simp only [cmpL]
    rw [if_pos (by simpa using h0)]
    exact cmpL_at (k := k) (by simpa using h1) (by simpa using h2) (fun j a b hj => hz (j + 1) (by simpa using a) (by simpa using b) (by omega)) (by simpa using h)
theorem cmpL_end {α : Type} {f : α → α → Int} : ∀ {xs ys : List α}, (∀ j (h : j < xs.length) (h' : j < ys.length), f xs[j] ys[j] = 0) → cmpL f xs ys = cmpI xs.length ys.length
  | [], [], _ => rfl
  | [], _ :: _, _ => by simp only [cmpL, cmpI, List.length_nil, List.length_cons]; rw [if_pos (by omega)]
  | _ :: _, [], _ => by simp only [cmpL, cmpI, List.length_nil, List.length_cons]; rw [if_neg (by omega), if_pos (by omega)]
  | x :: xs, y :: ys, hz => by
    have h0 := hz 0 (by simp) (by simp)
    simp only [cmpL]
    rw [if_pos (by simpa using h0), cmpL_end fun j a b => hz (j + 1) (by simpa using a) (by simpa using b)]
    simp only [cmpI, List.length_cons]
    split <;> split <;> (try split) <;> (try split) <;> omega
theorem cmpL_done {α : Type} {f : α → α → Int} {xs ys : List α} {k : Nat} (h : zeroUpto f xs ys k) (hk : ¬ k < xs.length ∨ ¬ k < ys.length) : cmpL f xs ys = cmpI xs.length ys.length :=
  cmpL_end fun j a b => h j a b (by omega)
set_option maxHeartbeats 1000000 in
theorem compareLists_int (f : Int → Int → Int) (fid : Nat) (vs ws : Value) (xs ys : List Int) (w : World) (hr : IntsR (ph w) vs xs) (hs : IntsR (ph w) ws ys)
    (hfn : ∀ args w, (callFunc fid args).run Try.prog w = .ok (.enter fid args) w)
    (hf : ∀ w', Ext w w' → ∀ x ∈ xs, ∀ y ∈ ys, ∀ cs ds, IntR (ph w') cs x → IntR (ph w') ds y → Calls Try.prog fid #[.int .i64 x, .int .i64 y] w' (RetV w' (.int .i64 (f x y)))) :
    Calls Try.prog 48 #[vs, ws, .func (.func fid) #[] #[]] w (RetV w (.int .i64 (cmpL f xs ys))) := by
  obtain ⟨a, c, rfl, hlen, hr⟩ := hr.form
  obtain ⟨a', c', rfl, hlen', hs⟩ := hs.form
  have HF := Lib.hid hf; clear hf
  have hcD := Lib.hid (fun k h => cmpL_done (f := f) (xs := xs) (ys := ys) (k := k) h)
  go_enter Try.func48, Try.ntmps48
  go_wp2_with fail
  all_goals
    go_loopw [14] (fun i wr => ∃ k : Nat, k ≤ xs.length ∧ k ≤ ys.length ∧ i = .int .i64 k ∧ Hid (zeroUpto f xs ys k) ∧ Ext w wr) (fun i _ => xs.length - (intOf i).toNat)
    case atStart => exact ⟨0, Nat.zero_le _, Nat.zero_le _, rfl, Lib.hid (fun j _ _ h => by omega), (by repeat (first | (with_reducible assumption) | (with_reducible exact Ext.rfl' _) | (with_reducible exact Ext.new _ _) | (with_reducible refine Ext.alloc' ?_ _) | (with_reducible refine Ext.drew' ?_) | (with_reducible refine Ext.drewN' ?_ _) | (with_reducible refine Ext.set' ?_ ?_ _; rotate_left; (focus (first | omega | (simp; done) | (simp; omega)))) | (with_reducible refine Ext.then (b := ?_) ?_ ?_; rotate_left; rotate_left; (with_reducible assumption))))⟩
    case round =>
      obtain ⟨k, hk, hk', rfl, HZ, hb⟩ := hrel
      by_cases hlt : k < xs.length ∧ k < ys.length
      · obtain ⟨hx, hy⟩ := hlt
        have hr' := hr.mono mono_IntR hb.ple
        have hs' := hs.mono mono_IntR hb.ple
        obtain ⟨b, o, rfl, h0, hi, hbl⟩ := IntsR.at hr' k hx; obtain ⟨b', o', rfl, h0', hi', hbl'⟩ := IntsR.at hs' k hy; have hE : IntR (ph wr) [.int .i64 xs[k]] xs[k] := ⟨rfl, hi⟩; have hE' : IntR (ph wr) [.int .i64 ys[k]] ys[k] := ⟨rfl, hi'⟩
        have hatx := Lib.hid (List.getElem_mem hx)
        have haty := Lib.hid (List.getElem_mem hy)
        have hsucc := Lib.hid (fun h => zeroUpto_succ HZ.out hx hy h)
        have hat := Lib.hid (fun h => cmpL_at hx hy HZ.out h)
        generalize xs[k] = x at *
        generalize ys[k] = y at *
        clear hr' hs' hr hs
        go_wp2_with fail
        (refine wp_region_I 10 (by kernel_rfl) (by kernel_rfl) ?_; simp only [List.toList_toArray, List.take_succ_cons, List.take_zero, List.drop_succ_cons, List.drop_zero])
        (repeat (first | (refine walkI_no rfl (by simp) rfl rfl rfl ?_ ?_; (focus (simp [undef]; done)); (try simp only [List.nil_append, List.cons_append])) | (refine walkI_is (u := ?_) rfl (by simp) rfl ?_ ?_; rotate_left; (focus (intro A w' hS hA K hK; (simp only [List.map_cons, List.map_nil, knows, Is, Op.operands, Call.operands, List.lookup_cons, List.lookup_nil, Nat.reduceBEq, Bool.false_eq_true, if_false, if_true, Act.eval, Array.getD_eq_getD_getElem?, List.getElem?_toArray, List.getElem?_cons_succ, List.getElem?_cons_zero, Option.getD_some, and_true, true_and, List.append_toArray, List.nil_append, List.cons_append, List.toList_toArray, Array.toList_append] at hA); first | (obtain ⟨hSc, hSf, hSs⟩ := hS.cells; go_simp; refine RetV_at (HF.out _ (by repeat (first | (with_reducible assumption) | (with_reducible exact Ext.rfl' _) | (with_reducible exact Ext.new _ _) | (with_reducible refine Ext.alloc' ?_ _) | (with_reducible refine Ext.drew' ?_) | (with_reducible refine Ext.drewN' ?_ _) | (with_reducible refine Ext.set' ?_ ?_ _; rotate_left; (focus (first | omega | (simp; done) | (simp; omega)))) | (with_reducible refine Ext.then (b := ?_) ?_ ?_; rotate_left; rotate_left; (with_reducible assumption)))) x hatx.out y haty.out _ _ (by first | exact hE | exact mono_IntR _ _ _ _ hS.ple hE) (by first | exact hE' | exact mono_IntR _ _ _ _ hS.ple hE')) ?_; intro w'' hbx; exact hK _ hbx) | (obtain ⟨hSc, hSf, hSs⟩ := hS.cells; go_simp; exact hK _ (by repeat (first | (with_reducible assumption) | (with_reducible exact Ext.rfl' _) | (with_reducible exact Ext.new _ _) | (with_reducible refine Ext.alloc' ?_ _) | (with_reducible refine Ext.drew' ?_) | (with_reducible refine Ext.drewN' ?_ _) | (with_reducible refine Ext.set' ?_ ?_ _; rotate_left; (focus (first | omega | (simp; done) | (simp; omega)))) | (with_reducible refine Ext.then (b := ?_) ?_ ?_; rotate_left; rotate_left; (with_reducible assumption))))))); (try simp only [List.nil_append, List.cons_append])) | (refine walkI_yesis (u := ?_) rfl (by simp) rfl rfl rfl ?_ ?_; rotate_left; (focus (intro A w' hS hA K hK; (simp only [List.map_cons, List.map_nil, knows, Is, Op.operands, Call.operands, List.lookup_cons, List.lookup_nil, Nat.reduceBEq, Bool.false_eq_true, if_false, if_true, Act.eval, Array.getD_eq_getD_getElem?, List.getElem?_toArray, List.getElem?_cons_succ, List.getElem?_cons_zero, Option.getD_some, and_true, true_and, List.append_toArray, List.nil_append, List.cons_append, List.toList_toArray, Array.toList_append] at hA); first | (obtain ⟨hSc, hSf, hSs⟩ := hS.cells; go_simp; refine RetV_at (HF.out _ (by repeat (first | (with_reducible assumption) | (with_reducible exact Ext.rfl' _) | (with_reducible exact Ext.new _ _) | (with_reducible refine Ext.alloc' ?_ _) | (with_reducible refine Ext.drew' ?_) | (with_reducible refine Ext.drewN' ?_ _) | (with_reducible refine Ext.set' ?_ ?_ _; rotate_left; (focus (first | omega | (simp; done) | (simp; omega)))) | (with_reducible refine Ext.then (b := ?_) ?_ ?_; rotate_left; rotate_left; (with_reducible assumption)))) x hatx.out y haty.out _ _ (by first | exact hE | exact mono_IntR _ _ _ _ hS.ple hE) (by first | exact hE' | exact mono_IntR _ _ _ _ hS.ple hE')) ?_; intro w'' hbx; exact hK _ hbx) | (obtain ⟨hSc, hSf, hSs⟩ := hS.cells; go_simp; exact hK _ (by repeat (first | (with_reducible assumption) | (with_reducible exact Ext.rfl' _) | (with_reducible exact Ext.new _ _) | (with_reducible refine Ext.alloc' ?_ _) | (with_reducible refine Ext.drew' ?_) | (with_reducible refine Ext.drewN' ?_ _) | (with_reducible refine Ext.set' ?_ ?_ _; rotate_left; (focus (first | omega | (simp; done) | (simp; omega)))) | (with_reducible refine Ext.then (b := ?_) ?_ ?_; rotate_left; rotate_left; (with_reducible assumption))))))); (try simp only [List.nil_append, List.cons_append]))))
        (refine walkI_nil ?_; simp only [List.nil_append, List.cons_append, fins, Is, forall_eq, Act.put, List.setIfInBounds_toArray, List.set_cons_zero, List.set_cons_succ])
        intro w2 hb2
        replace hb : Ext w w2 := (by repeat (first | (with_reducible assumption) | (with_reducible exact Ext.rfl' _) | (with_reducible exact Ext.new _ _) | (with_reducible refine Ext.alloc' ?_ _) | (with_reducible refine Ext.drew' ?_) | (with_reducible refine Ext.drewN' ?_ _) | (with_reducible refine Ext.set' ?_ ?_ _; rotate_left; (focus (first | omega | (simp; done) | (simp; omega)))) | (with_reducible refine Ext.then (b := ?_) ?_ ?_; rotate_left; rotate_left; (with_reducible assumption))))
        by_cases hz : f x y = 0
        · have hzb : (f x y == 0) = true := by simpa using hz
          replace hz := Lib.hid hz
          generalize f x y = z at *
          go_wp2_with fail
          go_roundw
          case rel => exact ⟨k + 1, by omega, by omega, by go_num, Lib.hid (hsucc.out hz.out), (by repeat (first | (with_reducible assumption) | (with_reducible exact Ext.rfl' _) | (with_reducible exact Ext.new _ _) | (with_reducible refine Ext.alloc' ?_ _) | (with_reducible refine Ext.drew' ?_) | (with_reducible refine Ext.drewN' ?_ _) | (with_reducible refine Ext.set' ?_ ?_ _; rotate_left; (focus (first | omega | (simp; done) | (simp; omega)))) | (with_reducible refine Ext.then (b := ?_) ?_ ?_; rotate_left; rotate_left; (with_reducible assumption))))⟩
          case measure => simp [intOf]; omega
        · have hzb : (f x y == 0) = false := by simpa using hz
          replace hz := Lib.hid hz
          generalize f x y = z at *
          go_wp2_with fail
          go_ret
          exact ⟨ret_int (hat.out hz.out).symm, hb⟩
      · clear hr hs
        have hd := Lib.hid (hcD.out k HZ.out (by omega))
        go_wp2_with fail
        refine RetV_at (cmpI_c _ _ _) ?_
        intro w2 hb2
        rw [← hd.out]
        generalize cmpL f xs ys = z at *
        go_wp2_with fail
        go_ret
        exact ⟨rfl, (by repeat (first | (with_reducible assumption) | (with_reducible exact Ext.rfl' _) | (with_reducible exact Ext.new _ _) | (with_reducible refine Ext.alloc' ?_ _) | (with_reducible refine Ext.drew' ?_) | (with_reducible refine Ext.drewN' ?_ _) | (with_reducible refine Ext.set' ?_ ?_ _; rotate_left; (focus (first | omega | (simp; done) | (simp; omega)))) | (with_reducible refine Ext.then (b := ?_) ?_ ?_; rotate_left; rotate_left; (with_reducible assumption))))⟩
set_option maxHeartbeats 1000000 in
theorem compareLists_val (f : Val → Val → Int) (fid : Nat) (vs ws : Value) (xs ys : List Val) (w : World) (hr : ValsR (ph w) vs xs) (hs : ValsR (ph w) ws ys)
    (hfn : ∀ args w, (callFunc fid args).run Try.prog w = .ok (.enter fid args) w)
    (hf : ∀ w', Ext w w' → ∀ x ∈ xs, ∀ y ∈ ys, ∀ cs ds, ValR (ph w') cs x → ValR (ph w') ds y → Calls Try.prog fid #[.agg cs.toArray, .agg ds.toArray] w' (RetV w' (.int .i64 (f x y)))) :
    Calls Try.prog 50 #[vs, ws, .func (.func fid) #[] #[]] w (RetV w (.int .i64 (cmpL f xs ys))) := by
  obtain ⟨a, c, rfl, hlen, hr⟩ := hr.form
  obtain ⟨a', c', rfl, hlen', hs⟩ := hs.form
  have HF := Lib.hid hf; clear hf
  have hcD := Lib.hid (fun k h => cmpL_done (f := f) (xs := xs) (ys := ys) (k := k) h)
  go_enter Try.func50, Try.ntmps50
  go_wp2_with fail
  all_goals
    go_loopw [14] (fun i wr => ∃ k : Nat, k ≤ xs.length ∧ k ≤ ys.length ∧ i = .int .i64 k ∧ Hid (zeroUpto f xs ys k) ∧ Ext w wr) (fun i _ => xs.length - (intOf i).toNat)
    case atStart => exact ⟨0, Nat.zero_le _, Nat.zero_le _, rfl, Lib.hid (fun j _ _ h => by omega), (by repeat (first | (with_reducible assumption) | (with_reducible exact Ext.rfl' _) | (with_reducible exact Ext.new _ _) | (with_reducible refine Ext.alloc' ?_ _) | (with_reducible refine Ext.drew' ?_) | (with_reducible refine Ext.drewN' ?_ _) | (with_reducible refine Ext.set' ?_ ?_ _; rotate_left; (focus (first | omega | (simp; done) | (simp; omega)))) | (with_reducible refine Ext.then (b := ?_) ?_ ?_; rotate_left; rotate_left; (with_reducible assumption))))⟩
    case round =>
      obtain ⟨k, hk, hk', rfl, HZ, hb⟩ := hrel
      by_cases hlt : k < xs.length ∧ k < ys.length
      · obtain ⟨hx, hy⟩ := hlt
        have hr' := hr.mono mono_ValR hb.ple
        have hs' := hs.mono mono_ValR hb.ple
        obtain ⟨b, o, rfl, h0, h1, h2, i0, i1, i2, hbl⟩ := ValsR.at hr' k hx; obtain ⟨b', o', rfl, h0', h1', h2', i0', i1', i2', hbl'⟩ := ValsR.at hs' k hy; have hE : ValR (ph wr) [.int .i64 xs[k].attr, .int .i64 xs[k].n.num, .int .i64 xs[k].n.den] xs[k] := ⟨rfl, i0, i1, i2⟩; have hE' : ValR (ph wr) [.int .i64 ys[k].attr, .int .i64 ys[k].n.num, .int .i64 ys[k].n.den] ys[k] := ⟨rfl, i0', i1', i2'⟩
        have hatx := Lib.hid (List.getElem_mem hx)
        have haty := Lib.hid (List.getElem_mem hy)
        have hsucc := Lib.hid (fun h => zeroUpto_succ HZ.out hx hy h)
        have hat := Lib.hid (fun h => cmpL_at hx hy HZ.out h)
        generalize xs[k] = x at *
        generalize ys[k] = y at *
        clear hr' hs' hr hs
        go_wp2_with fail
        (refine wp_region_I 10 (by kernel_rfl) (by kernel_rfl) ?_; simp only [List.toList_toArray, List.take_succ_cons, List.take_zero, List.drop_succ_cons, List.drop_zero])
        (repeat (first | (refine walkI_no rfl (by simp) rfl rfl rfl ?_ ?_; (focus (simp [undef]; done)); (try simp only [List.nil_append, List.cons_append])) | (refine walkI_is (u := ?_) rfl (by simp) rfl ?_ ?_; rotate_left; (focus (intro A w' hS hA K hK; (simp only [List.map_cons, List.map_nil, knows, Is, Op.operands, Call.operands, List.lookup_cons, List.lookup_nil, Nat.reduceBEq, Bool.false_eq_true, if_false, if_true, Act.eval, Array.getD_eq_getD_getElem?, List.getElem?_toArray, List.getElem?_cons_succ, List.getElem?_cons_zero, Option.getD_some, and_true, true_and, List.append_toArray, List.nil_append, List.cons_append, List.toList_toArray, Array.toList_append] at hA); first | (obtain ⟨hSc, hSf, hSs⟩ := hS.cells; go_simp; refine RetV_at (HF.out _ (by repeat (first | (with_reducible assumption) | (with_reducible exact Ext.rfl' _) | (with_reducible exact Ext.new _ _) | (with_reducible refine Ext.alloc' ?_ _) | (with_reducible refine Ext.drew' ?_) | (with_reducible refine Ext.drewN' ?_ _) | (with_reducible refine Ext.set' ?_ ?_ _; rotate_left; (focus (first | omega | (simp; done) | (simp; omega)))) | (with_reducible refine Ext.then (b := ?_) ?_ ?_; rotate_left; rotate_left; (with_reducible assumption)))) x hatx.out y haty.out _ _ (by first | exact hE | exact mono_ValR _ _ _ _ hS.ple hE) (by first | exact hE' | exact mono_ValR _ _ _ _ hS.ple hE')) ?_; intro w'' hbx; exact hK _ hbx) | (obtain ⟨hSc, hSf, hSs⟩ := hS.cells; go_simp; exact hK _ (by repeat (first | (with_reducible assumption) | (with_reducible exact Ext.rfl' _) | (with_reducible exact Ext.new _ _) | (with_reducible refine Ext.alloc' ?_ _) | (with_reducible refine Ext.drew' ?_) | (with_reducible refine Ext.drewN' ?_ _) | (with_reducible refine Ext.set' ?_ ?_ _; rotate_left; (focus (first | omega | (simp; done) | (simp; omega)))) | (with_reducible refine Ext.then (b := ?_) ?_ ?_; rotate_left; rotate_left; (with_reducible assumption))))))); (try simp only [List.nil_append, List.cons_append])) | (refine walkI_yesis (u := ?_) rfl (by simp) rfl rfl rfl ?_ ?_; rotate_left; (focus (intro A w' hS hA K hK; (simp only [List.map_cons, List.map_nil, knows, Is, Op.operands, Call.operands, List.lookup_cons, List.lookup_nil, Nat.reduceBEq, Bool.false_eq_true, if_false, if_true, Act.eval, Array.getD_eq_getD_getElem?, List.getElem?_toArray, List.getElem?_cons_succ, List.getElem?_cons_zero, Option.getD_some, and_true, true_and, List.append_toArray, List.nil_append, List.cons_append, List.toList_toArray, Array.toList_append] at hA); first | (obtain ⟨hSc, hSf, hSs⟩ := hS.cells; go_simp; refine RetV_at (HF.out _ (by repeat (first | (with_reducible assumption) | (with_reducible exact Ext.rfl' _) | (with_reducible exact Ext.new _ _) | (with_reducible refine Ext.alloc' ?_ _) | (with_reducible refine Ext.drew' ?_) | (with_reducible refine Ext.drewN' ?_ _) | (with_reducible refine Ext.set' ?_ ?_ _; rotate_left; (focus (first | omega | (simp; done) | (simp; omega)))) | (with_reducible refine Ext.then (b := ?_) ?_ ?_; rotate_left; rotate_left; (with_reducible assumption)))) x hatx.out y haty.out _ _ (by first | exact hE | exact mono_ValR _ _ _ _ hS.ple hE) (by first | exact hE' | exact mono_ValR _ _ _ _ hS.ple hE')) ?_; intro w'' hbx; exact hK _ hbx) | (obtain ⟨hSc, hSf, hSs⟩ := hS.cells; go_simp; exact hK _ (by repeat (first | (with_reducible assumption) | (with_reducible exact Ext.rfl' _) | (with_reducible exact Ext.new _ _) | (with_reducible refine Ext.alloc' ?_ _) | (with_reducible refine Ext.drew' ?_) | (with_reducible refine Ext.drewN' ?_ _) | (with_reducible refine Ext.set' ?_ ?_ _; rotate_left; (focus (first | omega | (simp; done) | (simp; omega)))) | (with_reducible refine Ext.then (b := ?_) ?_ ?_; rotate_left; rotate_left; (with_reducible assumption))))))); (try simp only [List.nil_append, List.cons_append]))))
        (refine walkI_nil ?_; simp only [List.nil_append, List.cons_append, fins, Is, forall_eq, Act.put, List.setIfInBounds_toArray, List.set_cons_zero, List.set_cons_succ])
        intro w2 hb2
        replace hb : Ext w w2 := (by repeat (first | (with_reducible assumption) | (with_reducible exact Ext.rfl' _) | (with_reducible exact Ext.new _ _) | (with_reducible refine Ext.alloc' ?_ _) | (with_reducible refine Ext.drew' ?_) | (with_reducible refine Ext.drewN' ?_ _) | (with_reducible refine Ext.set' ?_ ?_ _; rotate_left; (focus (first | omega | (simp; done) | (simp; omega)))) | (with_reducible refine Ext.then (b := ?_) ?_ ?_; rotate_left; rotate_left; (with_reducible assumption))))
        by_cases hz : f x y = 0
        · have hzb : (f x y == 0) = true := by simpa using hz
          replace hz := Lib.hid hz
          generalize f x y = z at *
          go_wp2_with fail
          go_roundw
          case rel => exact ⟨k + 1, by omega, by omega, by go_num, Lib.hid (hsucc.out hz.out), (by repeat (first | (with_reducible assumption) | (with_reducible exact Ext.rfl' _) | (with_reducible exact Ext.new _ _) | (with_reducible refine Ext.alloc' ?_ _) | (with_reducible refine Ext.drew' ?_) | (with_reducible refine Ext.drewN' ?_ _) | (with_reducible refine Ext.set' ?_ ?_ _; rotate_left; (focus (first | omega | (simp; done) | (simp; omega)))) | (with_reducible refine Ext.then (b := ?_) ?_ ?_; rotate_left; rotate_left; (with_reducible assumption))))⟩
          case measure => simp [intOf]; omega
        · have hzb : (f x y == 0) = false := by simpa using hz
          replace hz := Lib.hid hz
          generalize f x y = z at *
          go_wp2_with fail
          go_ret
          exact ⟨ret_int (hat.out hz.out).symm, hb⟩
      · clear hr hs
        have hd := Lib.hid (hcD.out k HZ.out (by omega))
        go_wp2_with fail
        refine RetV_at (cmpI_c _ _ _) ?_
        intro w2 hb2
        rw [← hd.out]
        generalize cmpL f xs ys = z at *
        go_wp2_with fail
        go_ret
        exact ⟨rfl, (by repeat (first | (with_reducible assumption) | (with_reducible exact Ext.rfl' _) | (with_reducible exact Ext.new _ _) | (with_reducible refine Ext.alloc' ?_ _) | (with_reducible refine Ext.drew' ?_) | (with_reducible refine Ext.drewN' ?_ _) | (with_reducible refine Ext.set' ?_ ?_ _; rotate_left; (focus (first | omega | (simp; done) | (simp; omega)))) | (with_reducible refine Ext.then (b := ?_) ?_ ?_; rotate_left; rotate_left; (with_reducible assumption))))⟩
set_option maxHeartbeats 1000000 in
theorem compareLists_thing (f : Thing → Thing → Int) (fid : Nat) (vs ws : Value) (xs ys : List Thing) (w : World) (hr : ThingsR (ph w) vs xs) (hs : ThingsR (ph w) ws ys)
    (hfn : ∀ args w, (callFunc fid args).run Try.prog w = .ok (.enter fid args) w)
    (hf : ∀ w', Ext w w' → ∀ x ∈ xs, ∀ y ∈ ys, ∀ cs ds, ThingR (ph w') cs x → ThingR (ph w') ds y → Calls Try.prog fid #[.agg cs.toArray, .agg ds.toArray] w' (RetV w' (.int .i64 (f x y)))) :
    Calls Try.prog 52 #[vs, ws, .func (.func fid) #[] #[]] w (RetV w (.int .i64 (cmpL f xs ys))) := by
  obtain ⟨a, c, rfl, hlen, hr⟩ := hr.form
  obtain ⟨a', c', rfl, hlen', hs⟩ := hs.form
  have HF := Lib.hid hf; clear hf
  have hcD := Lib.hid (fun k h => cmpL_done (f := f) (xs := xs) (ys := ys) (k := k) h)
  go_enter Try.func52, Try.ntmps52
  go_wp2_with fail
  all_goals
    go_loopw [14] (fun i wr => ∃ k : Nat, k ≤ xs.length ∧ k ≤ ys.length ∧ i = .int .i64 k ∧ Hid (zeroUpto f xs ys k) ∧ Ext w wr) (fun i _ => xs.length - (intOf i).toNat)
    case atStart => exact ⟨0, Nat.zero_le _, Nat.zero_le _, rfl, Lib.hid (fun j _ _ h => by omega), (by repeat (first | (with_reducible assumption) | (with_reducible exact Ext.rfl' _) | (with_reducible exact Ext.new _ _) | (with_reducible refine Ext.alloc' ?_ _) | (with_reducible refine Ext.drew' ?_) | (with_reducible refine Ext.drewN' ?_ _) | (with_reducible refine Ext.set' ?_ ?_ _; rotate_left; (focus (first | omega | (simp; done) | (simp; omega)))) | (with_reducible refine Ext.then (b := ?_) ?_ ?_; rotate_left; rotate_left; (with_reducible assumption))))⟩
    case round =>
      obtain ⟨k, hk, hk', rfl, HZ, hb⟩ := hrel
      by_cases hlt : k < xs.length ∧ k < ys.length
      · obtain ⟨hx, hy⟩ := hlt
        have hr' := hr.mono mono_ThingR hb.ple
        have hs' := hs.mono mono_ThingR hb.ple
        obtain ⟨b, o, b1, d1, b2, d2, b3, d3, rfl, h0, h1, h2, hE, hbl⟩ := ThingsR.at hr' k hx; obtain ⟨b', o', b1', d1', b2', d2', b3', d3', rfl, h0', h1', h2', hE', hbl'⟩ := ThingsR.at hs' k hy
        have hatx := Lib.hid (List.getElem_mem hx)
        have haty := Lib.hid (List.getElem_mem hy)
        have hsucc := Lib.hid (fun h => zeroUpto_succ HZ.out hx hy h)
        have hat := Lib.hid (fun h => cmpL_at hx hy HZ.out h)
        generalize xs[k] = x at *
        generalize ys[k] = y at *
        clear hr' hs' hr hs
        go_wp2_with fail
        (refine wp_region_I 10 (by kernel_rfl) (by kernel_rfl) ?_; simp only [List.toList_toArray, List.take_succ_cons, List.take_zero, List.drop_succ_cons, List.drop_zero])
        (repeat (first | (refine walkI_no rfl (by simp) rfl rfl rfl ?_ ?_; (focus (simp [undef]; done)); (try simp only [List.nil_append, List.cons_append])) | (refine walkI_is (u := ?_) rfl (by simp) rfl ?_ ?_; rotate_left; (focus (intro A w' hS hA K hK; (simp only [List.map_cons, List.map_nil, knows, Is, Op.operands, Call.operands, List.lookup_cons, List.lookup_nil, Nat.reduceBEq, Bool.false_eq_true, if_false, if_true, Act.eval, Array.getD_eq_getD_getElem?, List.getElem?_toArray, List.getElem?_cons_succ, List.getElem?_cons_zero, Option.getD_some, and_true, true_and, List.append_toArray, List.nil_append, List.cons_append, List.toList_toArray, Array.toList_append] at hA); first | (obtain ⟨hSc, hSf, hSs⟩ := hS.cells; go_simp; refine RetV_at (HF.out _ (by repeat (first | (with_reducible assumption) | (with_reducible exact Ext.rfl' _) | (with_reducible exact Ext.new _ _) | (with_reducible refine Ext.alloc' ?_ _) | (with_reducible refine Ext.drew' ?_) | (with_reducible refine Ext.drewN' ?_ _) | (with_reducible refine Ext.set' ?_ ?_ _; rotate_left; (focus (first | omega | (simp; done) | (simp; omega)))) | (with_reducible refine Ext.then (b := ?_) ?_ ?_; rotate_left; rotate_left; (with_reducible assumption)))) x hatx.out y haty.out _ _ (by first | exact hE | exact mono_ThingR _ _ _ _ hS.ple hE) (by first | exact hE' | exact mono_ThingR _ _ _ _ hS.ple hE')) ?_; intro w'' hbx; exact hK _ hbx) | (obtain ⟨hSc, hSf, hSs⟩ := hS.cells; go_simp; exact hK _ (by repeat (first | (with_reducible assumption) | (with_reducible exact Ext.rfl' _) | (with_reducible exact Ext.new _ _) | (with_reducible refine Ext.alloc' ?_ _) | (with_reducible refine Ext.drew' ?_) | (with_reducible refine Ext.drewN' ?_ _) | (with_reducible refine Ext.set' ?_ ?_ _; rotate_left; (focus (first | omega | (simp; done) | (simp; omega)))) | (with_reducible refine Ext.then (b := ?_) ?_ ?_; rotate_left; rotate_left; (with_reducible assumption))))))); (try simp only [List.nil_append, List.cons_append])) | (refine walkI_yesis (u := ?_) rfl (by simp) rfl rfl rfl ?_ ?_; rotate_left; (focus (intro A w' hS hA K hK; (simp only [List.map_cons, List.map_nil, knows, Is, Op.operands, Call.operands, List.lookup_cons, List.lookup_nil, Nat.reduceBEq, Bool.false_eq_true, if_false, if_true, Act.eval, Array.getD_eq_getD_getElem?, List.getElem?_toArray, List.getElem?_cons_succ, List.getElem?_cons_zero, Option.getD_some, and_true, true_and, List.append_toArray, List.nil_append, List.cons_append, List.toList_toArray, Array.toList_append] at hA); first | (obtain ⟨hSc, hSf, hSs⟩ := hS.cells; go_simp; refine RetV_at (HF.out _ (by repeat (first | (with_reducible assumption) | (with_reducible exact Ext.rfl' _) | (with_reducible exact Ext.new _ _) | (with_reducible refine Ext.alloc' ?_ _) | (with_reducible refine Ext.drew' ?_) | (with_reducible refine Ext.drewN' ?_ _) | (with_reducible refine Ext.set' ?_ ?_ _; rotate_left; (focus (first | omega | (simp; done) | (simp; omega)))) | (with_reducible refine Ext.then (b := ?_) ?_ ?_; rotate_left; rotate_left; (with_reducible assumption)))) x hatx.out y haty.out _ _ (by first | exact hE | exact mono_ThingR _ _ _ _ hS.ple hE) (by first | exact hE' | exact mono_ThingR _ _ _ _ hS.ple hE')) ?_; intro w'' hbx; exact hK _ hbx) | (obtain ⟨hSc, hSf, hSs⟩ := hS.cells; go_simp; exact hK _ (by repeat (first | (with_reducible assumption) | (with_reducible exact Ext.rfl' _) | (with_reducible exact Ext.new _ _) | (with_reducible refine Ext.alloc' ?_ _) | (with_reducible refine Ext.drew' ?_) | (with_reducible refine Ext.drewN' ?_ _) | (with_reducible refine Ext.set' ?_ ?_ _; rotate_left; (focus (first | omega | (simp; done) | (simp; omega)))) | (with_reducible refine Ext.then (b := ?_) ?_ ?_; rotate_left; rotate_left; (with_reducible assumption))))))); (try simp only [List.nil_append, List.cons_append]))))
        (refine walkI_nil ?_; simp only [List.nil_append, List.cons_append, fins, Is, forall_eq, Act.put, List.setIfInBounds_toArray, List.set_cons_zero, List.set_cons_succ])
        intro w2 hb2
        replace hb : Ext w w2 := (by repeat (first | (with_reducible assumption) | (with_reducible exact Ext.rfl' _) | (with_reducible exact Ext.new _ _) | (with_reducible refine Ext.alloc' ?_ _) | (with_reducible refine Ext.drew' ?_) | (with_reducible refine Ext.drewN' ?_ _) | (with_reducible refine Ext.set' ?_ ?_ _; rotate_left; (focus (first | omega | (simp; done) | (simp; omega)))) | (with_reducible refine Ext.then (b := ?_) ?_ ?_; rotate_left; rotate_left; (with_reducible assumption))))
        by_cases hz : f x y = 0
        · have hzb : (f x y == 0) = true := by simpa using hz
          replace hz := Lib.hid hz
          generalize f x y = z at *
          go_wp2_with fail
          go_roundw
          case rel => exact ⟨k + 1, by omega, by omega, by go_num, Lib.hid (hsucc.out hz.out), (by repeat (first | (with_reducible assumption) | (with_reducible exact Ext.rfl' _) | (with_reducible exact Ext.new _ _) | (with_reducible refine Ext.alloc' ?_ _) | (with_reducible refine Ext.drew' ?_) | (with_reducible refine Ext.drewN' ?_ _) | (with_reducible refine Ext.set' ?_ ?_ _; rotate_left; (focus (first | omega | (simp; done) | (simp; omega)))) | (with_reducible refine Ext.then (b := ?_) ?_ ?_; rotate_left; rotate_left; (with_reducible assumption))))⟩
          case measure => simp [intOf]; omega
        · have hzb : (f x y == 0) = false := by simpa using hz
          replace hz := Lib.hid hz
          generalize f x y = z at *
          go_wp2_with fail
          go_ret
          exact ⟨ret_int (hat.out hz.out).symm, hb⟩
      · clear hr hs
        have hd := Lib.hid (hcD.out k HZ.out (by omega))
        go_wp2_with fail
        refine RetV_at (cmpI_c _ _ _) ?_
        intro w2 hb2
        rw [← hd.out]
        generalize cmpL f xs ys = z at *
        go_wp2_with fail
        go_ret
        exact ⟨rfl, (by repeat (first | (with_reducible assumption) | (with_reducible exact Ext.rfl' _) | (with_reducible exact Ext.new _ _) | (with_reducible refine Ext.alloc' ?_ _) | (with_reducible refine Ext.drew' ?_) | (with_reducible refine Ext.drewN' ?_ _) | (with_reducible refine Ext.set' ?_ ?_ _; rotate_left; (focus (first | omega | (simp; done) | (simp; omega)))) | (with_reducible refine Ext.then (b := ?_) ?_ ?_; rotate_left; rotate_left; (with_reducible assumption))))⟩
set_option maxHeartbeats 1000000 in
theorem slicesCompare_c (vs ws : Value) (xs ys : List Int) (w : World) (hr : IntsR (ph w) vs xs) (hs : IntsR (ph w) ws ys) :
    Calls Try.prog 78 #[vs, ws] w (RetV w (.int .i64 (cmpL cmpI xs ys))) := by
  obtain ⟨a, c, rfl, hlen, hr⟩ := hr.form
  obtain ⟨a', c', rfl, hlen', hs⟩ := hs.form
  have hcD := Lib.hid (fun k h => cmpL_done (f := cmpI) (xs := xs) (ys := ys) (k := k) h)
  go_enter Try.func78, Try.ntmps78
  go_wp2_with fail
  go_loopw [11] (fun i wr => ∃ k : Nat, k ≤ xs.length ∧ k ≤ ys.length ∧ i = .int .i64 k ∧ Hid (zeroUpto cmpI xs ys k) ∧ Ext w wr) (fun i _ => xs.length - (intOf i).toNat)
  case atStart => exact ⟨0, Nat.zero_le _, Nat.zero_le _, rfl, Lib.hid (fun j _ _ h => by omega), (by repeat (first | (with_reducible assumption) | (with_reducible exact Ext.rfl' _) | (with_reducible exact Ext.new _ _) | (with_reducible refine Ext.alloc' ?_ _) | (with_reducible refine Ext.drew' ?_) | (with_reducible refine Ext.drewN' ?_ _) | (with_reducible refine Ext.set' ?_ ?_ _; rotate_left; (focus (first | omega | (simp; done) | (simp; omega)))) | (with_reducible refine Ext.then (b := ?_) ?_ ?_; rotate_left; rotate_left; (with_reducible assumption))))⟩
  case round =>
    obtain ⟨k, hk, hk', rfl, HZ, hb⟩ := hrel
    by_cases hx : k < xs.length
    · obtain ⟨b, o, rfl, h0, hi, hbl⟩ := IntsR.at (hr.mono mono_IntR hb.ple) k hx
      by_cases hy : k < ys.length
      · obtain ⟨b', o', rfl, h0', hi', hbl'⟩ := IntsR.at (hs.mono mono_IntR hb.ple) k hy
        have hsucc := Lib.hid (fun h => zeroUpto_succ HZ.out hx hy h)
        have hat := Lib.hid (fun h => cmpL_at hx hy HZ.out h)
        generalize xs[k] = x at *
        generalize ys[k] = y at *
        clear hr hs
        go_wp2_with fail
        refine RetV_at (cmpI_c x y _) ?_
        intro w2 hb2
        by_cases hz : cmpI x y = 0
        · have hzb : (cmpI x y == 0) = true := by simpa using hz
          replace hz := Lib.hid hz
          generalize cmpI x y = z at *
          go_wp2_with fail
          go_roundw
          case rel => exact ⟨k + 1, by omega, by omega, by go_num, Lib.hid (hsucc.out hz.out), (by repeat (first | (with_reducible assumption) | (with_reducible exact Ext.rfl' _) | (with_reducible exact Ext.new _ _) | (with_reducible refine Ext.alloc' ?_ _) | (with_reducible refine Ext.drew' ?_) | (with_reducible refine Ext.drewN' ?_ _) | (with_reducible refine Ext.set' ?_ ?_ _; rotate_left; (focus (first | omega | (simp; done) | (simp; omega)))) | (with_reducible refine Ext.then (b := ?_) ?_ ?_; rotate_left; rotate_left; (with_reducible assumption))))⟩
          case measure => simp [intOf]; omega
        · have hzb : (cmpI x y == 0) = false := by simpa using hz
          replace hz := Lib.hid hz
          generalize cmpI x y = z at *
          go_wp2_with fail
          go_ret
          exact ⟨ret_int (hat.out hz.out).symm, (by repeat (first | (with_reducible assumption) | (with_reducible exact Ext.rfl' _) | (with_reducible exact Ext.new _ _) | (with_reducible refine Ext.alloc' ?_ _) | (with_reducible refine Ext.drew' ?_) | (with_reducible refine Ext.drewN' ?_ _) | (with_reducible refine Ext.set' ?_ ?_ _; rotate_left; (focus (first | omega | (simp; done) | (simp; omega)))) | (with_reducible refine Ext.then (b := ?_) ?_ ?_; rotate_left; rotate_left; (with_reducible assumption))))⟩
      · have hd := Lib.hid (hcD.out k HZ.out (.inr hy))
        have hgt := Lib.hid (cmpI_gt (a := xs.length) (b := ys.length) (by omega))
        clear hr hs
        go_wp2_with fail
        go_ret
        exact ⟨ret_int (by rw [hd.out, hgt.out]), (by repeat (first | (with_reducible assumption) | (with_reducible exact Ext.rfl' _) | (with_reducible exact Ext.new _ _) | (with_reducible refine Ext.alloc' ?_ _) | (with_reducible refine Ext.drew' ?_) | (with_reducible refine Ext.drewN' ?_ _) | (with_reducible refine Ext.set' ?_ ?_ _; rotate_left; (focus (first | omega | (simp; done) | (simp; omega)))) | (with_reducible refine Ext.then (b := ?_) ?_ ?_; rotate_left; rotate_left; (with_reducible assumption))))⟩
    · have hd := Lib.hid (hcD.out k HZ.out (.inl hx))
      clear hr hs
      by_cases hlt : xs.length < ys.length
      · have hgt := Lib.hid (cmpI_lt (a := xs.length) (b := ys.length) (by omega))
        go_wp2_with fail
        go_ret
        exact ⟨ret_int (by rw [hd.out, hgt.out]), (by repeat (first | (with_reducible assumption) | (with_reducible exact Ext.rfl' _) | (with_reducible exact Ext.new _ _) | (with_reducible refine Ext.alloc' ?_ _) | (with_reducible refine Ext.drew' ?_) | (with_reducible refine Ext.drewN' ?_ _) | (with_reducible refine Ext.set' ?_ ?_ _; rotate_left; (focus (first | omega | (simp; done) | (simp; omega)))) | (with_reducible refine Ext.then (b := ?_) ?_ ?_; rotate_left; rotate_left; (with_reducible assumption))))⟩
      · have hgt := Lib.hid (cmpI_eq (a := xs.length) (b := ys.length) (by omega) (by omega))
        go_wp2_with fail
        go_ret
        exact ⟨ret_int (by rw [hd.out, hgt.out]), (by repeat (first | (with_reducible assumption) | (with_reducible exact Ext.rfl' _) | (with_reducible exact Ext.new _ _) | (with_reducible refine Ext.alloc' ?_ _) | (with_reducible refine Ext.drew' ?_) | (with_reducible refine Ext.drewN' ?_ _) | (with_reducible refine Ext.set' ?_ ?_ _; rotate_left; (focus (first | omega | (simp; done) | (simp; omega)))) | (with_reducible refine Ext.then (b := ?_) ?_ ?_; rotate_left; rotate_left; (with_reducible assumption))))⟩
def NewBox (W : World) (c : Array Value) (T : TypeId) : Prop1 := fun v w => ∃ g, v = .pointer (some ⟨g, 0, none⟩) ∧ Own w g c T ∧ W.heap.size ≤ g
theorem stab_NewBox {W : World} (W0 : World) (c : Array Value) (T : TypeId) : Stable W (NewBox W0 c T) := fun v w w' _ ⟨g, h1, h2, h3⟩ e => ⟨g, h1, h2.keep e, h3⟩
theorem sliceArr {α : Type} {E : PH → List Value → α → Prop} {sz : Nat} {w : World} {b n : Nat} {cur : Array Value} {T : TypeId} {xs : List α} (hO : Own w b cur T) (hc : Cells (ph w) E sz cur.toList xs) (hn : n = xs.length) (hm : n ≤ maxLen) :
    SliceRep E sz (ph w) (.slice (some ⟨b, 0, none⟩) n n) xs := by
  subst hn
  refine ⟨_, _, rfl, Nat.le_refl _, hm, .inr ⟨b, 0, rfl, hc.row (fun _ _ h => h) fun j u hu => ?_⟩⟩
  rw [← cell_ph, Nat.zero_add, hO.facts.1]
  simpa using hu
theorem cells3 {h : PH} {a b c : Int} (ha : I64 a) (hb : I64 b) (hc : I64 c) : Cells h IntR 1 [.int .i64 a, .int .i64 b, .int .i64 c] [a, b, c] :=
  ⟨[_], _, rfl, rfl, ⟨rfl, ha⟩, [_], _, rfl, rfl, ⟨rfl, hb⟩, [_], [], rfl, rfl, ⟨rfl, hc⟩, rfl⟩
set_option maxRecDepth 100000 in
set_option maxHeartbeats 1000000 in
theorem compareValues_c (x y : Val) (w : World) (hx : VOk x) (hy : VOk y) : Calls Try.prog 51 #[.agg #[.int .i64 x.attr, .int .i64 x.n.num, .int .i64 x.n.den], .agg #[.int .i64 y.attr, .int .i64 y.n.num, .int .i64 y.n.den]] w (RetV w (.int .i64 (cmpV x y))) := by
  obtain ⟨x1, x2, x3⟩ := hx
  obtain ⟨y1, y2, y3⟩ := hy
  have hcv : Hid (cmpV x y = cmpL cmpI [x.attr, x.n.num, x.n.den] [y.attr, y.n.num, y.n.den]) := rfl
  go_enter Try.func51, Try.ntmps51
  go_wp2_with fail
  refine wp_region_D 6 [5, 6] (by kernel_rfl) (by kernel_rfl) (by kernel_rfl) ?_
  simp only [List.toList_toArray, List.take_succ_cons, List.take_zero, List.drop_succ_cons, List.drop_zero]
  (refine walkI_is (u := ?_) rfl (by simp) rfl ?_ ?_; rotate_left; (focus (intro A w' hS hA K hK; (simp only [List.map_cons, List.map_nil, knows, Is, Op.operands, Call.operands, List.lookup_cons, List.lookup_nil, Nat.reduceBEq, Bool.false_eq_true, if_false, if_true, Act.eval, Array.getD_eq_getD_getElem?, List.getElem?_toArray, List.getElem?_cons_succ, List.getElem?_cons_zero, Option.getD_some, and_true, true_and, List.append_toArray, List.nil_append, List.cons_append, List.toList_toArray, Array.toList_append] at hA); first | fail | (obtain ⟨hSc, hSf, hSs⟩ := hS.cells; go_simp; exact hK _ (by repeat (first | (with_reducible assumption) | (with_reducible exact Ext.rfl' _) | (with_reducible exact Ext.new _ _) | (with_reducible refine Ext.alloc' ?_ _) | (with_reducible refine Ext.drew' ?_) | (with_reducible refine Ext.drewN' ?_ _) | (with_reducible refine Ext.set' ?_ ?_ _; rotate_left; (focus (first | omega | (simp; done) | (simp; omega)))) | (with_reducible refine Ext.then (b := ?_) ?_ ?_; rotate_left; rotate_left; (with_reducible assumption))))))); (try simp only [List.nil_append, List.cons_append]))
  (refine walkI_is (u := ?_) rfl (by simp) rfl ?_ ?_; rotate_left; (focus (intro A w' hS hA K hK; (simp only [List.map_cons, List.map_nil, knows, Is, Op.operands, Call.operands, List.lookup_cons, List.lookup_nil, Nat.reduceBEq, Bool.false_eq_true, if_false, if_true, Act.eval, Array.getD_eq_getD_getElem?, List.getElem?_toArray, List.getElem?_cons_succ, List.getElem?_cons_zero, Option.getD_some, and_true, true_and, List.append_toArray, List.nil_append, List.cons_append, List.toList_toArray, Array.toList_append] at hA); first | (go_simp; refine RetV_at (keyOf_c x _ x1 x2 x3) ?_; intro w'' hbx; exact hK _ hbx) | (obtain ⟨hSc, hSf, hSs⟩ := hS.cells; go_simp; exact hK _ (by repeat (first | (with_reducible assumption) | (with_reducible exact Ext.rfl' _) | (with_reducible exact Ext.new _ _) | (with_reducible refine Ext.alloc' ?_ _) | (with_reducible refine Ext.drew' ?_) | (with_reducible refine Ext.drewN' ?_ _) | (with_reducible refine Ext.set' ?_ ?_ _; rotate_left; (focus (first | omega | (simp; done) | (simp; omega)))) | (with_reducible refine Ext.then (b := ?_) ?_ ?_; rotate_left; rotate_left; (with_reducible assumption))))))); (try simp only [List.nil_append, List.cons_append]))
  (refine walkI_is (u := ?_) rfl (by simp) rfl ?_ ?_; rotate_left; (focus (intro A w' hS hA K hK; (simp only [List.map_cons, List.map_nil, knows, Is, Op.operands, Call.operands, List.lookup_cons, List.lookup_nil, Nat.reduceBEq, Bool.false_eq_true, if_false, if_true, Act.eval, Array.getD_eq_getD_getElem?, List.getElem?_toArray, List.getElem?_cons_succ, List.getElem?_cons_zero, Option.getD_some, and_true, true_and, List.append_toArray, List.nil_append, List.cons_append, List.toList_toArray, Array.toList_append] at hA); first | fail | (obtain ⟨hSc, hSf, hSs⟩ := hS.cells; go_simp; exact hK _ (by repeat (first | (with_reducible assumption) | (with_reducible exact Ext.rfl' _) | (with_reducible exact Ext.new _ _) | (with_reducible refine Ext.alloc' ?_ _) | (with_reducible refine Ext.drew' ?_) | (with_reducible refine Ext.drewN' ?_ _) | (with_reducible refine Ext.set' ?_ ?_ _; rotate_left; (focus (first | omega | (simp; done) | (simp; omega)))) | (with_reducible refine Ext.then (b := ?_) ?_ ?_; rotate_left; rotate_left; (with_reducible assumption))))))); (try simp only [List.nil_append, List.cons_append]))
  (refine walkI_is (u := ?_) rfl (by simp) rfl ?_ ?_; rotate_left; (focus (intro A w' hS hA K hK; (simp only [List.map_cons, List.map_nil, knows, Is, Op.operands, Call.operands, List.lookup_cons, List.lookup_nil, Nat.reduceBEq, Bool.false_eq_true, if_false, if_true, Act.eval, Array.getD_eq_getD_getElem?, List.getElem?_toArray, List.getElem?_cons_succ, List.getElem?_cons_zero, Option.getD_some, and_true, true_and, List.append_toArray, List.nil_append, List.cons_append, List.toList_toArray, Array.toList_append] at hA); first | (go_simp; refine RetV_at (keyOf_c y _ y1 y2 y3) ?_; intro w'' hbx; exact hK _ hbx) | (obtain ⟨hSc, hSf, hSs⟩ := hS.cells; go_simp; exact hK _ (by repeat (first | (with_reducible assumption) | (with_reducible exact Ext.rfl' _) | (with_reducible exact Ext.new _ _) | (with_reducible refine Ext.alloc' ?_ _) | (with_reducible refine Ext.drew' ?_) | (with_reducible refine Ext.drewN' ?_ _) | (with_reducible refine Ext.set' ?_ ?_ _; rotate_left; (focus (first | omega | (simp; done) | (simp; omega)))) | (with_reducible refine Ext.then (b := ?_) ?_ ?_; rotate_left; rotate_left; (with_reducible assumption))))))); (try simp only [List.nil_append, List.cons_append]))
  refine walkI_new (NewBox w #[.int .i64 0, .int .i64 0, .int .i64 0] 108) rfl (by simp) rfl (stab_NewBox _ _ _) ?_ ?_
  · intro A w' hS hA K hK
    go_simp
    have hs := hS.size
    simp at hs
    exact hK _ _ (Ext.new _ _) ⟨_, rfl, Own.new _ _ _, by omega⟩ (fun g e => by cases e; simp)
  simp only [List.nil_append, List.cons_append]
  refine walkI_new (NewBox w #[.int .i64 0, .int .i64 0, .int .i64 0] 108) rfl (by simp) rfl (stab_NewBox _ _ _) ?_ ?_
  · intro A w' hS hA K hK
    go_simp
    have hs := hS.size
    simp at hs
    exact hK _ _ (Ext.new _ _) ⟨_, rfl, Own.new _ _ _, by omega⟩ (fun g e => by cases e; simp)
  (refine walkI_nil ?_; simp only [List.nil_append, List.cons_append, fins, Is, forall_eq, Act.put, List.setIfInBounds_toArray, List.set_cons_zero, List.set_cons_succ])
  rintro w2 hb2 v5 ⟨g5, rfl, ho5, hg5⟩ v6 ⟨g6, rfl, ho6, hg6⟩ hdist
  have hne : g5 ≠ g6 := hdist 5 (by simp) 6 (by simp) (by decide) g5 g6 rfl rfl
  have hb : Ext w w2 := (by repeat (first | (with_reducible assumption) | (with_reducible exact Ext.rfl' _) | (with_reducible exact Ext.new _ _) | (with_reducible refine Ext.alloc' ?_ _) | (with_reducible refine Ext.drew' ?_) | (with_reducible refine Ext.drewN' ?_ _) | (with_reducible refine Ext.set' ?_ ?_ _; rotate_left; (focus (first | omega | (simp; done) | (simp; omega)))) | (with_reducible refine Ext.then (b := ?_) ?_ ?_; rotate_left; rotate_left; (with_reducible assumption))))
  obtain ⟨q1, q2⟩ := ho5.facts
  obtain ⟨r1, r2⟩ := ho6.facts
  have q3 := ho5.lt
  have r3 := ho6.lt
  clear hb2 hdist
  go_upto_region 2 with (fail)
  have h5 : Own _ g5 #[.int .i64 x.attr, .int .i64 x.n.num, .int .i64 x.n.den] 108 := (((((ho5.set 0 (.int .i64 x.attr)).set 1 (.int .i64 x.n.num)).set 2 (.int .i64 x.n.den)).setOther (p := ⟨g6, 0, none⟩) hne (.int .i64 y.attr)).setOther (p := ⟨g6, 1, none⟩) hne (.int .i64 y.n.num)).setOther (p := ⟨g6, 2, none⟩) hne (.int .i64 y.n.den)
  have h6 : Own _ g6 #[.int .i64 y.attr, .int .i64 y.n.num, .int .i64 y.n.den] 108 := (((((ho6.setOther (p := ⟨g5, 0, none⟩) (Ne.symm hne) (.int .i64 x.attr)).setOther (p := ⟨g5, 1, none⟩) (Ne.symm hne) (.int .i64 x.n.num)).setOther (p := ⟨g5, 2, none⟩) (Ne.symm hne) (.int .i64 x.n.den)).set 0 (.int .i64 y.attr)).set 1 (.int .i64 y.n.num)).set 2 (.int .i64 y.n.den)
  have hb' := (((((hb.set' (p := ⟨g5, 0, none⟩) hg5 (.int .i64 x.attr)).set' (p := ⟨g5, 1, none⟩) hg5 (.int .i64 x.n.num)).set' (p := ⟨g5, 2, none⟩) hg5 (.int .i64 x.n.den)).set' (p := ⟨g6, 0, none⟩) hg6 (.int .i64 y.attr)).set' (p := ⟨g6, 1, none⟩) hg6 (.int .i64 y.n.num)).set' (p := ⟨g6, 2, none⟩) hg6 (.int .i64 y.n.den)
  clear ho5 ho6 hb q1 q2 q3 r1 r2 r3
  generalize (((((w2.setCell _ _).setCell _ _).setCell _ _).setCell _ _).setCell _ _).setCell _ _ = W at *
  have e5 : Hid (IntsR (ph W) (.slice (some ⟨g5, 0, none⟩) 3 3) [x.attr, x.n.num, x.n.den]) := sliceArr h5 (cells3 x1 x2 x3) rfl (by simp [maxLen])
  have e6 : Hid (IntsR (ph W) (.slice (some ⟨g6, 0, none⟩) 3 3) [y.attr, y.n.num, y.n.den]) := sliceArr h6 (cells3 y1 y2 y3) rfl (by simp [maxLen])
  clear h5 h6
  (refine wp_region_I 3 (by kernel_rfl) (by kernel_rfl) ?_; simp only [List.toList_toArray, List.take_succ_cons, List.take_zero, List.drop_succ_cons, List.drop_zero])
  (refine walkI_is (u := ?_) rfl (by simp) rfl ?_ ?_; rotate_left; (focus (intro A w' hS hA K hK; (simp only [List.map_cons, List.map_nil, knows, Is, Op.operands, Call.operands, List.lookup_cons, List.lookup_nil, Nat.reduceBEq, Bool.false_eq_true, if_false, if_true, Act.eval, Array.getD_eq_getD_getElem?, List.getElem?_toArray, List.getElem?_cons_succ, List.getElem?_cons_zero, Option.getD_some, and_true, true_and, List.append_toArray, List.nil_append, List.cons_append, List.toList_toArray, Array.toList_append] at hA); first | fail | (obtain ⟨hSc, hSf, hSs⟩ := hS.cells; go_simp; exact hK _ (by repeat (first | (with_reducible assumption) | (with_reducible exact Ext.rfl' _) | (with_reducible exact Ext.new _ _) | (with_reducible refine Ext.alloc' ?_ _) | (with_reducible refine Ext.drew' ?_) | (with_reducible refine Ext.drewN' ?_ _) | (with_reducible refine Ext.set' ?_ ?_ _; rotate_left; (focus (first | omega | (simp; done) | (simp; omega)))) | (with_reducible refine Ext.then (b := ?_) ?_ ?_; rotate_left; rotate_left; (with_reducible assumption))))))); (try simp only [List.nil_append, List.cons_append]))
  (refine walkI_is (u := ?_) rfl (by simp) rfl ?_ ?_; rotate_left; (focus (intro A w' hS hA K hK; (simp only [List.map_cons, List.map_nil, knows, Is, Op.operands, Call.operands, List.lookup_cons, List.lookup_nil, Nat.reduceBEq, Bool.false_eq_true, if_false, if_true, Act.eval, Array.getD_eq_getD_getElem?, List.getElem?_toArray, List.getElem?_cons_succ, List.getElem?_cons_zero, Option.getD_some, and_true, true_and, List.append_toArray, List.nil_append, List.cons_append, List.toList_toArray, Array.toList_append] at hA); first | fail | (obtain ⟨hSc, hSf, hSs⟩ := hS.cells; go_simp; exact hK _ (by repeat (first | (with_reducible assumption) | (with_reducible exact Ext.rfl' _) | (with_reducible exact Ext.new _ _) | (with_reducible refine Ext.alloc' ?_ _) | (with_reducible refine Ext.drew' ?_) | (with_reducible refine Ext.drewN' ?_ _) | (with_reducible refine Ext.set' ?_ ?_ _; rotate_left; (focus (first | omega | (simp; done) | (simp; omega)))) | (with_reducible refine Ext.then (b := ?_) ?_ ?_; rotate_left; rotate_left; (with_reducible assumption))))))); (try simp only [List.nil_append, List.cons_append]))
  (refine walkI_is (u := ?_) rfl (by simp) rfl ?_ ?_; rotate_left; (focus (intro A w' hS hA K hK; (simp only [List.map_cons, List.map_nil, knows, Is, Op.operands, Call.operands, List.lookup_cons, List.lookup_nil, Nat.reduceBEq, Bool.false_eq_true, if_false, if_true, Act.eval, Array.getD_eq_getD_getElem?, List.getElem?_toArray, List.getElem?_cons_succ, List.getElem?_cons_zero, Option.getD_some, and_true, true_and, List.append_toArray, List.nil_append, List.cons_append, List.toList_toArray, Array.toList_append] at hA); first | (go_simp; refine RetV_at (slicesCompare_c _ _ _ _ _ (e5.out.mono mono_IntR hS.ple) (e6.out.mono mono_IntR hS.ple)) ?_; intro w'' hbx; exact hK _ hbx) | (obtain ⟨hSc, hSf, hSs⟩ := hS.cells; go_simp; exact hK _ (by repeat (first | (with_reducible assumption) | (with_reducible exact Ext.rfl' _) | (with_reducible exact Ext.new _ _) | (with_reducible refine Ext.alloc' ?_ _) | (with_reducible refine Ext.drew' ?_) | (with_reducible refine Ext.drewN' ?_ _) | (with_reducible refine Ext.set' ?_ ?_ _; rotate_left; (focus (first | omega | (simp; done) | (simp; omega)))) | (with_reducible refine Ext.then (b := ?_) ?_ ?_; rotate_left; rotate_left; (with_reducible assumption))))))); (try simp only [List.nil_append, List.cons_append]))
  (refine walkI_nil ?_; simp only [List.nil_append, List.cons_append, fins, Is, forall_eq, Act.put, List.setIfInBounds_toArray, List.set_cons_zero, List.set_cons_succ])
  intro w3 hb3
  rw [← hcv.out]
  generalize cmpV x y = z at *
  go_wp2_with fail
  go_ret
  exact ⟨rfl, (by repeat (first | (with_reducible assumption) | (with_reducible exact Ext.rfl' _) | (with_reducible exact Ext.new _ _) | (with_reducible refine Ext.alloc' ?_ _) | (with_reducible refine Ext.drew' ?_) | (with_reducible refine Ext.drewN' ?_ _) | (with_reducible refine Ext.set' ?_ ?_ _; rotate_left; (focus (first | omega | (simp; done) | (simp; omega)))) | (with_reducible refine Ext.then (b := ?_) ?_ ?_; rotate_left; rotate_left; (with_reducible assumption))))⟩
set_option maxHeartbeats 1000000 in
theorem compare_c (t : Thing) : ∀ (s : Thing) (cs ds : List Value) (w : World), ThingR (ph w) cs t → ThingR (ph w) ds s →
    Calls Try.prog 25 #[.agg cs.toArray, .agg ds.toArray] w (RetV w (.int .i64 (cmpT t s))) := by
  induction t using Thing.ind with
  | h t ih =>
    intro s cs ds w hr hs
    obtain ⟨a1, c1, a2, c2, a3, c3, rfl, l1, l2, l3, hc, hv, hp⟩ := hr.form
    obtain ⟨a1', c1', a2', c2', a3', c3', rfl, l1', l2', l3', hc', hv', hp'⟩ := hs.form
    have HI := Lib.hid ih; clear ih
    have hE := Lib.hid (cmpT_eq t s)
    go_enter Try.func25, Try.ntmps25
    go_wp2_with fail
    refine RetV_at (compareLists_int cmpI 49 _ _ t.cls s.cls _ (hc.mono mono_IntR (Ext.ple (by repeat (first | (with_reducible assumption) | (with_reducible exact Ext.rfl' _) | (with_reducible exact Ext.new _ _) | (with_reducible refine Ext.alloc' ?_ _) | (with_reducible refine Ext.drew' ?_) | (with_reducible refine Ext.drewN' ?_ _) | (with_reducible refine Ext.set' ?_ ?_ _; rotate_left; (focus (first | omega | (simp; done) | (simp; omega)))) | (with_reducible refine Ext.then (b := ?_) ?_ ?_; rotate_left; rotate_left; (with_reducible assumption)))))) (hc'.mono mono_IntR (Ext.ple (by repeat (first | (with_reducible assumption) | (with_reducible exact Ext.rfl' _) | (with_reducible exact Ext.new _ _) | (with_reducible refine Ext.alloc' ?_ _) | (with_reducible refine Ext.drew' ?_) | (with_reducible refine Ext.drewN' ?_ _) | (with_reducible refine Ext.set' ?_ ?_ _; rotate_left; (focus (first | omega | (simp; done) | (simp; omega)))) | (with_reducible refine Ext.then (b := ?_) ?_ ?_; rotate_left; rotate_left; (with_reducible assumption)))))) (fun args w => enterFn Try.func49 rfl rfl args w) (fun w' hw' x hx y hy _ _ _ _ => cmpI_c x y w')) ?_
    intro w1 hb1
    have hO : Own w1 w.heap.size #[.slice a1 t.cls.length c1, .slice a2 t.vals.length c2, .slice a3 t.parts.length c3] 29 := Own.keep ((Own.new _ _ _).alloc _) hb1
    have hO' : Own w1 (w.heap.size + 1) #[.slice a1' s.cls.length c1', .slice a2' s.vals.length c2', .slice a3' s.parts.length c3'] 29 := Own.keep (Own.new' _ _ _ (by simp)) hb1
    have hb : Ext w w1 := (by repeat (first | (with_reducible assumption) | (with_reducible exact Ext.rfl' _) | (with_reducible exact Ext.new _ _) | (with_reducible refine Ext.alloc' ?_ _) | (with_reducible refine Ext.drew' ?_) | (with_reducible refine Ext.drewN' ?_ _) | (with_reducible refine Ext.set' ?_ ?_ _; rotate_left; (focus (first | omega | (simp; done) | (simp; omega)))) | (with_reducible refine Ext.then (b := ?_) ?_ ?_; rotate_left; rotate_left; (with_reducible assumption))))
    clear hb1
    obtain ⟨q1, q2⟩ := hO.facts
    have q3 := hO.lt
    obtain ⟨r1, r2⟩ := hO'.facts
    have r3 := hO'.lt
    by_cases h1 : cmpL cmpI t.cls s.cls = 0
    · have h1b : (cmpL cmpI t.cls s.cls == 0) = true := by simpa using h1
      replace h1 := Lib.hid h1
      generalize hz1 : cmpL cmpI t.cls s.cls = z1 at *
      replace hz1 := Lib.hid hz1
      go_wp2_with fail
      refine RetV_at (compareLists_val cmpV 51 _ _ t.vals s.vals _ (hv.mono mono_ValR hb.ple) (hv'.mono mono_ValR hb.ple) (fun args w => enterFn Try.func51 rfl rfl args w) (fun w' hw' x hx y hy cs ds h1 h2 => by rw [h1.1, h2.1]; exact compareValues_c x y w' h1.2 h2.2)) ?_
      intro w2 hb2
      replace hO := hO.keep hb2
      replace hO' := hO'.keep hb2
      replace hb := hb.then hb2
      clear q1 q2 q3 r1 r2 r3 hb2
      obtain ⟨q1, q2⟩ := hO.facts
      have q3 := hO.lt
      obtain ⟨r1, r2⟩ := hO'.facts
      have r3 := hO'.lt
      by_cases h2 : cmpL cmpV t.vals s.vals = 0
      · have h2b : (cmpL cmpV t.vals s.vals == 0) = true := by simpa using h2
        replace h2 := Lib.hid h2
        generalize hz2 : cmpL cmpV t.vals s.vals = z2 at *
        replace hz2 := Lib.hid hz2
        go_wp2_with fail
        refine RetV_at (compareLists_thing cmpT 25 _ _ t.parts s.parts _ (hp.mono mono_ThingR hb.ple) (hp'.mono mono_ThingR hb.ple) (fun args w => enterFn Try.func25 rfl rfl args w) (fun w' hw' x hx y hy cs ds h1 h2 => HI.out x hx y cs ds w' h1 h2)) ?_
        intro w3 hb3
        have hfin : Hid (cmpL cmpT t.parts s.parts = cmpT t s) := by
          show _ = _
          rw [hE.out, thenI, if_pos h1.out, thenI, if_pos h2.out]
        rw [hfin.out]
        generalize cmpT t s = z at *
        go_wp2_with fail
        go_ret
        exact ⟨rfl, (by repeat (first | (with_reducible assumption) | (with_reducible exact Ext.rfl' _) | (with_reducible exact Ext.new _ _) | (with_reducible refine Ext.alloc' ?_ _) | (with_reducible refine Ext.drew' ?_) | (with_reducible refine Ext.drewN' ?_ _) | (with_reducible refine Ext.set' ?_ ?_ _; rotate_left; (focus (first | omega | (simp; done) | (simp; omega)))) | (with_reducible refine Ext.then (b := ?_) ?_ ?_; rotate_left; rotate_left; (with_reducible assumption))))⟩
      · have h2b : (cmpL cmpV t.vals s.vals == 0) = false := by simpa using h2
        have hfin : Hid (cmpL cmpV t.vals s.vals = cmpT t s) := by
          show _ = _
          rw [hE.out, thenI, if_pos h1.out, thenI, if_neg h2]
        replace h2 := Lib.hid h2
        generalize cmpL cmpV t.vals s.vals = z2 at *
        go_wp2_with fail
        go_ret
        exact ⟨ret_int hfin.out, (by repeat (first | (with_reducible assumption) | (with_reducible exact Ext.rfl' _) | (with_reducible exact Ext.new _ _) | (with_reducible refine Ext.alloc' ?_ _) | (with_reducible refine Ext.drew' ?_) | (with_reducible refine Ext.drewN' ?_ _) | (with_reducible refine Ext.set' ?_ ?_ _; rotate_left; (focus (first | omega | (simp; done) | (simp; omega)))) | (with_reducible refine Ext.then (b := ?_) ?_ ?_; rotate_left; rotate_left; (with_reducible assumption))))⟩
    · have h1b : (cmpL cmpI t.cls s.cls == 0) = false := by simpa using h1
      have hfin : Hid (cmpL cmpI t.cls s.cls = cmpT t s) := by
        show _ = _
        rw [hE.out, thenI, if_neg h1]
      replace h1 := Lib.hid h1
      generalize cmpL cmpI t.cls s.cls = z1 at *
      go_wp2_with fail
      go_ret
      exact ⟨ret_int hfin.out, (by repeat (first | (with_reducible assumption) | (with_reducible exact Ext.rfl' _) | (with_reducible exact Ext.new _ _) | (with_reducible refine Ext.alloc' ?_ _) | (with_reducible refine Ext.drew' ?_) | (with_reducible refine Ext.drewN' ?_ _) | (with_reducible refine Ext.set' ?_ ?_ _; rotate_left; (focus (first | omega | (simp; done) | (simp; omega)))) | (with_reducible refine Ext.then (b := ?_) ?_ ?_; rotate_left; rotate_left; (with_reducible assumption))))⟩
end Go.Proofs.Ytebhdjeognpljaa
