/- package law: rulings, value. -/
import Derived.Test.YtcmdekhhclgdcaaGreatDoorLCpt
import Derived.Test.YtcmdekhhclgdcaaGreatDoorLPl
namespace Go.Proofs.YtcmdekhhclgdcaaGreatDoor
open Go.RowKit Go.Shelf
set_option linter.unusedSimpArgs false
set_option linter.unusedVariables false
theorem Mem.addO {α : Type} {E : PH → List Value → α → Prop} {hm : Mono E} {sz : Nat} {T : TypeId} {v : Value} {xs : List α} {w0 W W' : World} {L : List Chunk} (h : Mem w0 noH L noH W) (e : Ext W W') (ho : OwnS W.heap.size noH W' E sz T v xs) : Mem w0 noH (L ++ [own hm sz T v xs]) noH W' :=
  (h.ext e).add (own hm sz T v xs) ho.c (fun k hk => ⟨Nat.le_trans h.ex.size (ho.lt k hk).1, rfl, fun i d hi hd => by
    have := h.lt hi hd; have := (ho.lt k hk).1; omega⟩)
theorem ddP_len : ∀ (l : List Ac) (d : Option Int), (ddP d l).length ≤ l.length
  | [], _ => Nat.le_refl _
  | x :: r, d => by
    rw [ddP]
    have := ddP_len r (some x.day)
    split
    · simp; omega
    · simp; omega
/-- the rulings come back -/
def RgsP (w : World) (o : Int) (p : Nat) (xs : List Ac) (e : Ending) (w' : World) : Prop := ∃ v l, e = .returned v ∧ RulOk o p xs l ∧ l.length ≤ xs.length ∧ Ext w w' ∧ ActsR (ph w') v l
set_option maxRecDepth 100000 in
set_option maxHeartbeats 2000000 in
theorem rulings_c (o : Int) (p : Nat) (hp : p < 19) (va : Value) (xs : List Ac) (w : World) (hA : ActsR (ph w) va xs) (hlen : xs.length ≤ 100000) (hR : VR (ph w)) :
    Calls Tryz.prog 24 #[.int .i64 o, .int .i64 (p : Int), va] w (RgsP w o p xs) := by
  have hM0 := (((Mem.start w noH (noH_le _)).new #[.int .i64 o] 3).new' #[.int .i64 (p : Int)] 3 (n := w.heap.size + 1) (by simp)).new' #[.int .i64 0, .int .i64 131072] 86 (n := w.heap.size + 1 + 1) (by simp)
  simp only [List.nil_append, List.cons_append] at hM0
  have hcl := fun w h => cloneAct_c va xs w h hlen
  replace hcl := Lib.hid hcl
  obtain ⟨xa, xc, rfl, -, -⟩ := id hA.form
  go_enter Tryz.func24, Tryz.ntmps24
  go_wp2_with fail
  generalize ((w.alloc _).alloc _).alloc _ = W at *
  refine (hcl.out _ (hA.mono mono_ActR hM0.ex.ple)).mono ?_
  rintro e w1 ⟨v1, rfl, hx1, ho1⟩
  have hM1 := (hM0.addO (hm := mono_ActR) hx1 ho1).pick [3, 0, 1, 2] (by decide)
  simp only [List.nil_append, List.cons_append, List.map_cons, List.map_nil, List.getElem?_cons_zero, List.getElem?_cons_succ, Option.getD_some] at hM1
  obtain ⟨a1, c1, rfl, -⟩ := hM1.form 0 rfl
  have hdel := delAct_c (fun x => !rulB o p x) 38 #[.pointer (some ⟨w.heap.size, 0, none⟩), .pointer (some ⟨w.heap.size + 1, 0, none⟩), .pointer (some ⟨w.heap.size + 1 + 1, 0, none⟩)] _ xs w w1 _ hM1 (by omega) (enters_of Tryz.func38 (by kernel_rfl) rfl) (rul1_c o p hp w hR _ _ _)
  have hfe : (xs.filter fun x => !(fun x => !rulB o p x) x) = xs.filter (rulB o p) := by congr 1; funext x; simp
  rw [hfe] at hdel
  replace hdel := Lib.hid hdel
  clear hcl ho1 hM0 hM1 hfe hA
  go_wp2_with fail
  refine hdel.out.mono ?_
  rintro e w2 ⟨v2, rfl, hM2⟩
  have hlf : (xs.filter (rulB o p)).length ≤ xs.length := List.length_filter_le _ _
  generalize hfs : xs.filter (rulB o p) = fs at *
  replace hfs := Lib.hid hfs
  obtain ⟨a2, c2, e2, -⟩ := hM2.form 0 rfl
  have hsr := sortAct_c noH v2 fs w2 (hM2.ok 0 _ rfl) (by omega)
  subst e2
  replace hsr := Lib.hid hsr
  clear hdel
  go_wp2_with fail
  refine hsr.out.mono ?_
  rintro e w3 ⟨rfl, ys, hp1, hs1, hO1, hg1⟩
  have hM3 := hM2.put 0 rfl (c' := own mono_ActR 19 67 _ ys) hO1 (fun k hk => .inl hk) (hM2.ex.grown hg1 fun k hk => (hM2.fr 0 _ rfl k hk).1) fun k hk hne => hg1.block k hk (fun e => hne e.symm)
  simp only [List.set_cons_zero] at hM3
  have hyl := hp1.length_eq
  have hcp := compactAct_c _ ys w w3 _ hM3 (by omega)
  replace hcp := Lib.hid hcp
  replace hyl := Lib.hid hyl
  clear hsr hM2 hM3 hg1 hO1
  go_wp2_with fail
  refine hcp.out.mono ?_
  rintro e w4 ⟨v4, rfl, hM4⟩
  obtain ⟨a4, c4, rfl, -⟩ := hM4.form 0 rfl
  have hdl : Hid ((dd ys).length ≤ xs.length) := Lib.hid (by have h9 := ddP_len ys none; have := hyl.out; show (ddP none ys).length ≤ _; omega)
  have hok : Hid (RulOk o p xs (dd ys)) := Lib.hid (rulOk_of (by rw [hfs.out]; exact hp1) hs1)
  clear hcp hyl
  go_wp2_with fail
  go_ret
  exact ⟨_, _, rfl, hok.out, hdl.out, hM4.ex, hM4.rep 0 rfl⟩
set_option maxRecDepth 100000 in
set_option maxHeartbeats 2000000 in
theorem lval_c (base d : Int) (v : Value) (l : List Ac) (w : World) (hA : ActsR (ph w) v l) : Calls Tryz.prog 23 #[.int .i64 base, v, .int .i64 d] w (RetV w (.int .i64 (valF base l d))) := by
  obtain ⟨a, c, rfl, hlen, hA⟩ := hA.form
  go_enter Tryz.func23, Tryz.ntmps23
  go_wp2_with fail
  go_loopw [0, 11] (fun vb vi wr => ∃ (k : Nat) (b : Int), k ≤ l.length ∧ vb = .int .i64 b ∧ vi = .int .i64 k ∧ Hid (valF base l d = valF b (l.drop k) d) ∧ Ext w wr) (fun _ vi _ => l.length - (intOf vi).toNat)
  case atStart => exact ⟨0, base, by omega, rfl, rfl, Lib.hid rfl, Ext.rfl' _⟩
  case round =>
    obtain ⟨k, b, hk, rfl, rfl, hv, hx⟩ := hrel
    by_cases hlt : k < l.length
    · obtain ⟨gb, go, rfl, gc, gl, hI⟩ := ActsR.row (hA.mono mono_ActR hx.ple) k hlt
      have hs : Hid (valF base l d = valF (if l[k].day ≤ d then l[k].amount else b) (l.drop (k + 1)) d) := by show _ = _; rw [hv.out, List.drop_eq_getElem_cons hlt, valF]
      have hja : decide (k < l.length) = true := by simpa using hlt
      generalize l[k] = x at *
      replace gc := Lib.hid gc
      clear hv
      have hx3 := Ext.new wr (.cells (actC x).toArray 67)
      have hO3 := Proofs.YtcmdekhhclgdcaaGreatDoor.Own.new wr (actC x).toArray 67
      have hxd := hx.then hx3
      go_upto_region 3 with (fail)
      go_upto_region 4 with (first | (refine wpList_load_mid rfl 67 _ rfl _ _ rfl (actC _) _ gc.out Tryz.underlying67 rfl (by kernel_rfl) ?_) | (refine wpList_store_new rfl 67 _ _ rfl (actC _).toArray rfl rfl 67 _ (by kernel_rfl) rfl (one_act _) ?_))
      have c1 : _ = some (Value.int .i64 x.day) := hO3.facts.1 1
      have c8 : _ = some (Value.int .i64 x.amount) := hO3.facts.1 8
      have hsz3 := hO3.lt
      clear hO3 hx3
      generalize (actC x).toArray = X at *
      generalize wr.heap.size = b7 at *
      generalize wr.alloc _ = W3 at *
      by_cases hd : x.day ≤ d
      · have hdb : decide (x.day ≤ d) = true := by simpa using hd
        rw [if_pos hd] at hs
        go_wp2_with fail
        go_roundw
        case rel => exact ⟨k + 1, x.amount, by omega, rfl, by go_num, hs, hxd⟩
        case measure => simp [intOf]; omega
      · have hdb : decide (x.day ≤ d) = false := by simpa using hd
        rw [if_neg hd] at hs
        go_wp2_with fail
        go_roundw
        case rel => exact ⟨k + 1, b, by omega, rfl, by go_num, hs, hxd⟩
        case measure => simp [intOf]; omega
    · have hja : decide (k < l.length) = false := by simpa using hlt
      have hs : Hid (valF base l d = b) := by show _ = _; rw [hv.out, List.drop_of_length_le (by omega)]; rfl
      clear hv
      go_wp2_with fail
      go_ret
      exact ⟨ret_int hs.out.symm, hx⟩
end Go.Proofs.YtcmdekhhclgdcaaGreatDoor
