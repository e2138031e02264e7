/- Lemmas for FY, part 6: generators: Spoilt of formula, and more. -/
import Derived.Deep.CutBlock
import Derived.Test.YtnpnjcaomakehaaGreatFY04
set_option linter.unusedSimpArgs false
set_option linter.unusedVariables false
namespace Go.Proofs.YtnpnjcaomakehaaGreat
open Go.RowKit Go.Shelf
def notsF : Nat → Fm → Fm
  | 0, g => g
  | m + 1, g => .mk 6 0 [] [notsF m g]
def spF : Nat → Fm → Int → Int → Int → Fm
  | 0, f, _, _, _ => f
  | n + 1, f, a, h, b =>
    if 0 < f.kids.length ∧ 0 < aroundV a 3 then
      .mk f.op f.n f.inn (f.kids.set (aroundV (a.tdiv 3) f.kids.length).toNat (spF n ((f.kids[(aroundV (a.tdiv 3) f.kids.length).toNat]?).getD noF) (a.tdiv 9) h b))
    else if aroundV h 8 = 0 then .mk ([b, -1, 7, 0, 4, 6].getD (aroundV b 6).toNat 0) f.n f.inn f.kids
    else if aroundV h 8 = 1 then .mk f.op ([b, -1, 0, 31, 32, 63, 64].getD (aroundV b 7).toNat 0) f.inn f.kids
    else if aroundV h 8 = 2 then .mk f.op f.n (f.inn ++ [⟨⟨b, 1⟩, ⟨5, 1⟩, false, false, false, false⟩]) f.kids
    else if aroundV h 8 = 3 then .mk f.op f.n (f.inn ++ f.inn) f.kids
    else if aroundV h 8 = 4 then .mk f.op f.n f.inn (f.kids ++ [noF])
    else if aroundV h 8 = 5 then .mk f.op f.n f.inn []
    else if aroundV h 8 = 6 then .mk 5 0 [] [.mk f.op f.n f.inn f.kids, .mk 4 0 [] (List.replicate (85 + (aroundV b 10).toNat) noF)]
    else notsF (1 + (aroundV b 7).toNat) (.mk f.op f.n f.inn f.kids)
def SpW (f : Fm) (a h b : Int) (g : Fm) : Prop := ∀ n, f.bulk ≤ n → spF n f a h b = g
theorem spW_s {f : Fm} {a h b : Int} {g : Fm} (hh : ∀ n, f.bulk ≤ n + 1 → spF (n + 1) f a h b = g) : SpW f a h b g := by
  intro n hn
  cases n with
  | zero => have := f.bulk_eq; omega
  | succ n => exact hh n hn
theorem spW_kid {f X g : Fm} {a h b : Int} {k : Nat} (h1 : 0 < f.kids.length ∧ 0 < aroundV a 3) (h2 : aroundV (a.tdiv 3) f.kids.length = k) (hk : k < f.kids.length) (hX : f.kids[k] = X) (h3 : SpW X (a.tdiv 9) h b g) :
    SpW f a h b (.mk f.op f.n f.inn (f.kids.set k g)) := by
  refine spW_s fun n hn => ?_
  have hl := sumN_mem Fm.bulk (List.getElem_mem hk)
  have he := f.bulk_eq
  rw [spF, if_pos h1, h2, Int.toNat_natCast, List.getElem?_eq_getElem hk, Option.getD_some, hX, h3 n (by rw [hX] at hl; omega)]
section
variable {f : Fm} {a h b : Int}
theorem spW_0 {j : Nat} {v : Int} (h1 : ¬ (0 < f.kids.length ∧ 0 < aroundV a 3)) (h2 : aroundV h 8 = 0) (hj : aroundV b 6 = j) (hv : v = [b, -1, 7, 0, 4, 6].getD j 0) : SpW f a h b (.mk v f.n f.inn f.kids) :=
  spW_s fun n _ => by rw [spF, if_neg h1, h2, if_pos rfl, hj, Int.toNat_natCast, hv]
theorem spW_1 {j : Nat} {v : Int} (h1 : ¬ (0 < f.kids.length ∧ 0 < aroundV a 3)) (h2 : aroundV h 8 = 1) (hj : aroundV b 7 = j) (hv : v = [b, -1, 0, 31, 32, 63, 64].getD j 0) : SpW f a h b (.mk f.op v f.inn f.kids) :=
  spW_s fun n _ => by rw [spF, if_neg h1, h2, if_neg (by decide), if_pos rfl, hj, Int.toNat_natCast, hv]
theorem spW_2 (h1 : ¬ (0 < f.kids.length ∧ 0 < aroundV a 3)) (h2 : aroundV h 8 = 2) : SpW f a h b (.mk f.op f.n (f.inn ++ [⟨⟨b, 1⟩, ⟨5, 1⟩, false, false, false, false⟩]) f.kids) :=
  spW_s fun n _ => by rw [spF, if_neg h1, h2, if_neg (by decide), if_neg (by decide), if_pos rfl]
theorem spW_3 (h1 : ¬ (0 < f.kids.length ∧ 0 < aroundV a 3)) (h2 : aroundV h 8 = 3) : SpW f a h b (.mk f.op f.n (f.inn ++ f.inn) f.kids) :=
  spW_s fun n _ => by rw [spF, if_neg h1, h2, if_neg (by decide), if_neg (by decide), if_neg (by decide), if_pos rfl]
theorem spW_4 (h1 : ¬ (0 < f.kids.length ∧ 0 < aroundV a 3)) (h2 : aroundV h 8 = 4) : SpW f a h b (.mk f.op f.n f.inn (f.kids ++ [noF])) :=
  spW_s fun n _ => by rw [spF, if_neg h1, h2, if_neg (by decide), if_neg (by decide), if_neg (by decide), if_neg (by decide), if_pos rfl]
theorem spW_5 (h1 : ¬ (0 < f.kids.length ∧ 0 < aroundV a 3)) (h2 : aroundV h 8 = 5) : SpW f a h b (.mk f.op f.n f.inn []) :=
  spW_s fun n _ => by rw [spF, if_neg h1, h2, if_neg (by decide), if_neg (by decide), if_neg (by decide), if_neg (by decide), if_neg (by decide), if_pos rfl]
theorem spW_6 {r : Nat} (h1 : ¬ (0 < f.kids.length ∧ 0 < aroundV a 3)) (h2 : aroundV h 8 = 6) (hr : aroundV b 10 = r) : SpW f a h b (.mk 5 0 [] [.mk f.op f.n f.inn f.kids, .mk 4 0 [] (List.replicate (85 + r) noF)]) :=
  spW_s fun n _ => by rw [spF, if_neg h1, h2, if_neg (by decide), if_neg (by decide), if_neg (by decide), if_neg (by decide), if_neg (by decide), if_neg (by decide), if_pos rfl, hr, Int.toNat_natCast]
theorem spW_7 {r : Nat} (h1 : ¬ (0 < f.kids.length ∧ 0 < aroundV a 3)) (h2 : aroundV h 8 = 7) (hr : aroundV b 7 = r) : SpW f a h b (notsF (1 + r) (.mk f.op f.n f.inn f.kids)) :=
  spW_s fun n _ => by rw [spF, if_neg h1, h2, if_neg (by decide), if_neg (by decide), if_neg (by decide), if_neg (by decide), if_neg (by decide), if_neg (by decide), if_neg (by decide), hr, Int.toNat_natCast]
end
def SpQF (w : World) (H0 : PH) (m : Nat) (f : Fm) (a h b : Int) (e : Ending) (w' : World) : Prop :=
  ∃ g a3 c3 a4 c4, e = .returned (fmV g a3 c3 a4 c4) ∧ FmR (up H0 w w') (fmC g a3 c3 a4 c4) g ∧ g.bulk ≤ m ∧ Ext w w' ∧ SpW f a h b g
def SpS (w : World) (H0 : PH) (m : Nat) (R : Fm → Prop) (wx : World) : Prop :=
  ∃ (op n : Int) (iv kv : Value) (il : List Itv) (kl : List Fm) (H : PH), Mem w H0 [box w.heap.size #[.int .i64 op, .int .i64 n, iv, kv] 50, box (w.heap.size + 1) zeroFa 50] H wx ∧
    I64 op ∧ I64 n ∧ ItvsR H iv il ∧ FmsR H kv kl ∧ 1 + il.length + sumN Fm.bulk kl ≤ m ∧ R (.mk op n il kl)
theorem tdiv_I64 {x k : Int} (hx : I64 x) (hk : k ∈ [(2 : Int), 3, 4, 6, 9]) : I64 (x.tdiv k) := by
  unfold I64 at *
  simp only [List.mem_cons, List.not_mem_nil, or_false] at hk
  by_cases h : 0 ≤ x
  · rw [Int.tdiv_eq_ediv_of_nonneg h]
    rcases hk with rfl | rfl | rfl | rfl | rfl <;> omega
  · have e : x.tdiv k = -((-x).tdiv k) := by rw [Int.neg_tdiv, Int.neg_neg]
    rw [e, Int.tdiv_eq_ediv_of_nonneg (by omega)]
    rcases hk with rfl | rfl | rfl | rfl | rfl <;> omega
theorem wrap_I64 {x : Int} (hx : I64 x) : IntKind.i64.wrap x = x := wrap_id hx.1 hx.2
theorem up_ext {H : PH} {W w w' : World} (e : Ext w w') : PLe (up H W w) (up H W w') := by
  intro k o hk
  unfold up at *
  split at hk
  · rename_i h; rw [if_pos h]; exact hk
  · rename_i h; rw [if_neg h]
    have hlt : k < w.heap.size := (Array.getElem?_eq_some_iff.1 hk).1
    rw [← hk]; exact e.block k hlt
abbrev fmA4 (op n : Int) (iv kv : Value) : Array Value := #[.int .i64 op, .int .i64 n, iv, kv]
theorem SpS.of {w wx : World} {H0 H : PH} {m : Nat} {R : Fm → Prop} {op n : Int} {iv kv : Value} {il : List Itv} {kl : List Fm}
    (hM : Mem w H0 [box w.heap.size (fmA4 op n iv kv) 50, box (w.heap.size + 1) #[.int .i64 0, .int .i64 0, .slice none 0 0, .slice none 0 0] 50, own mono_FmR 4 50 kv kl, own mono_ItvR 8 92 iv il] H wx)
    (ho : I64 op) (hn : I64 n) (hb : 1 + il.length + sumN Fm.bulk kl ≤ m) (hR : R (.mk op n il kl)) : SpS w H0 m R wx := by
  obtain ⟨H1, _, hN1, hK⟩ := hM.freezeS 2 rfl
  obtain ⟨H2, hl2, hN2, hI⟩ := hN1.freezeS 3 rfl
  exact ⟨op, n, iv, kv, il, kl, H2, by simpa using hN2.pick [0, 1] (by decide), ho, hn, hI, hK.mono mono_FmR hl2, hb, hR⟩
theorem sumN_snoc (ks : List Fm) (f : Fm) : sumN Fm.bulk (ks ++ [f]) = sumN Fm.bulk ks + f.bulk := by
  induction ks with
  | nil => simp [sumN]
  | cons x xs ih => simp only [List.cons_append, sumN, ih]; omega
theorem sumN_rep (m : Nat) : sumN Fm.bulk (List.replicate m noF) = m := by
  induction m with
  | zero => rfl
  | succ m ih => rw [List.replicate_succ, sumN, ih]; simp [noF, Fm.bulk, fbulks]; omega
theorem sumN_put : ∀ (ks : List Fm) (k : Nat) (g : Fm) (h : k < ks.length), sumN Fm.bulk (ks.set k g) + ks[k].bulk = sumN Fm.bulk ks + g.bulk
  | [], _, _, h => by simp at h
  | x :: xs, 0, g, _ => by simp [sumN]; omega
  | x :: xs, k + 1, g, h => by
    have := sumN_put xs k g (by simpa using h)
    simp only [List.set_cons_succ, sumN, List.getElem_cons_succ]; omega
set_option maxRecDepth 100000 in
set_option maxHeartbeats 8000000 in
theorem spoilt07F_c {H0 : PH} (f : Fm) : ∀ (cs : List Value) (at' how by' : Int) (w : World), PLe H0 (ph w) → FmR H0 cs f → I64 at' → I64 how → I64 by' → f.bulk ≤ 100000 →
    Calls Tryz.prog 29 #[.agg cs.toArray, .int .i64 at', .int .i64 how, .int .i64 by'] w (SpQF w H0 (2 * f.bulk + 100) f at' how by') := by
  induction f using Fm.ind with
  | h f ih =>
  intro cs at' how by' w hl hr ia ihw ib hb
  obtain ⟨a3, c3, a4, c4, rfl, i1, i2, hil, hkl, hi, hk⟩ := hr.form
  have hbe : 1 + f.inn.length + sumN Fm.bulk f.kids ≤ f.bulk := Nat.le_of_eq f.bulk_eq.symm
  have hkb := f.kids_le
  unfold fmC at *
  replace ih := Lib.hid ih
  have hM0 := ((((Mem.start w H0 hl).new' #[.int .i64 f.op, .int .i64 f.n, .slice a3 f.inn.length c3, .slice a4 f.kids.length c4] 50 (n := w.heap.size) (by simp)).new' zeroFa 50 (n := w.heap.size + 1) (by simp)).new' #[] 50 (n := w.heap.size + 1 + 1) (by simp)).asOwn 2 rfl mono_FmR (sz := 4) (xs := ([] : List Fm)) (n := 0) (by simp) (by simp [maxLen]) rfl rfl
  simp only [List.cons_append, List.nil_append, List.set_cons_zero, List.set_cons_succ, List.length_nil] at hM0
  have hS0 := Src.ofRep hk hM0.ple
  clear hr
  go_enter Tryz.func29, Tryz.ntmps29
  go_wp2_with (first | (at_builtin; refine wpList_append_M 2 rfl _ _ 45 rfl Tryz.underlying45 infoFm rfl rfl rfl hM0 rfl hS0 one_FmR (by simp; omega) (by simp; omega) ?f1))
  case f1 =>
  intro v1 w1 hM1
  try simp only [List.set_cons_zero, List.set_cons_succ, List.nil_append] at hM1
  obtain ⟨ka, kc, rfl, -⟩ := hM1.form 2 rfl
  obtain ⟨uc, uf⟩ := (hM1.box 0 rfl).facts
  have uf3 := uf 3
  have uc3 : _ = some (Value.slice a4 f.kids.length c4) := uc 3
  have ul := (hM1.box 0 rfl).lt
  have hM2 := hM1.set 0 rfl 3 (.slice ka f.kids.length kc)
  simp only [List.set_cons_zero, List.setIfInBounds_toArray, List.set_cons_succ] at hM2
  clear uc uf hM0 hM1 hS0
  go_upto_region 2 with (fail)
  generalize World.setCell _ _ _ = w2 at *
  clear uf3 uc3 ul
  obtain ⟨uc, uf⟩ := (hM2.box 0 rfl).facts
  have uf2 := uf 2
  have uc2 : _ = some (Value.slice a3 f.inn.length c3) := uc 2
  have ul := (hM2.box 0 rfl).lt
  have hM3 := (hM2.new' #[] 92 (n := w2.heap.size) rfl).asOwn 3 rfl mono_ItvR (sz := 8) (xs := ([] : List Itv)) (n := 0) (by simp) (by simp [maxLen]) rfl rfl
  simp only [List.cons_append, List.nil_append, List.set_cons_zero, List.set_cons_succ, List.length_nil] at hM3
  have hS3 := Src.ofRep hi hM3.ple
  clear uc uf
  go_wp2_with (first | (at_builtin; refine wpList_append_M 3 rfl _ _ 48 rfl Tryz.underlying48 infoItv rfl rfl rfl hM3 rfl hS3 one_ItvR (by simp; omega) (by simp; omega) ?f2))
  case f2 =>
  intro v3 w3 hM4
  try simp only [List.set_cons_zero, List.set_cons_succ, List.nil_append] at hM4
  obtain ⟨ja, jc, rfl, -⟩ := hM4.form 3 rfl
  clear uf2 uc2 ul
  obtain ⟨uc, uf⟩ := (hM4.box 0 rfl).facts
  have uf2 := uf 2
  have uc2 : _ = some (Value.slice a3 f.inn.length c3) := uc 2
  have ul := (hM4.box 0 rfl).lt
  have hM5 := hM4.set 0 rfl 2 (.slice ja f.inn.length jc)
  simp only [List.set_cons_zero, List.setIfInBounds_toArray, List.set_cons_succ] at hM5
  clear uc uf hM2 hM3 hM4 hS3
  go_upto_region 3 with (fail)
  generalize World.setCell _ _ _ = w4 at *
  clear uf2 uc2 ul
  obtain ⟨uc, uf⟩ := (hM5.box 0 rfl).facts
  have uc3 : _ = some (Value.slice ka f.kids.length kc) := uc 3
  have ul := (hM5.box 0 rfl).lt
  go_cut [31] (fun v wx => ∃ b : Bool, v = .bool b ∧ Hid (b = decide (0 < f.kids.length ∧ 0 < aroundV at' 3)) ∧ Ext w4 wx)
  case first =>
    by_cases hk0 : 0 < f.kids.length
    · have b0 : decide (0 < f.kids.length) = true := by simpa using hk0
      go_wp2_with fail
      refine RetV_at (around_c at' 3 _ ia (by omega) (by omega)) ?_
      intro w5 hx5
      go_wp2_with fail
      go_meet
      case rel => exact ⟨_, rfl, Lib.hid (by simp [hk0]), hx5⟩
    · have b0 : decide (0 < f.kids.length) = false := by simpa using hk0
      go_wp2_with fail
      go_meet
      case rel => exact ⟨_, rfl, Lib.hid (by simp [hk0]), Ext.rfl' _⟩
  case rest =>
  obtain ⟨b, rfl, hbk, hx5⟩ := hcut
  replace hM5 := hM5.ext hx5
  clear uc uf uc3 ul hx5
  cases b with
  | true =>
    have hcd := Lib.hid (of_decide_eq_true hbk.out.symm)
    have hkp := hcd.out.1
    have i3' : I64 (at'.tdiv 3) := tdiv_I64 ia (by simp)
    have i9' : I64 (at'.tdiv 9) := tdiv_I64 ia (by simp)
    have r3 := wrap_I64 i3'
    have r9 := wrap_I64 i9'
    clear ia hbk
    obtain ⟨uc, uf⟩ := (hM5.box 0 rfl).facts
    have uc3 : _ = some (Value.slice ka f.kids.length kc) := uc 3
    have ul := (hM5.box 0 rfl).lt
    clear uc uf
    go_wp2_with fail
    refine RetV_at (around_c (at'.tdiv 3) f.kids.length _ i3' (by omega) (by omega)) ?_
    intro w6 hx6
    obtain ⟨q0, q1⟩ := aroundV_range i3' (show (0 : Int) < f.kids.length by omega)
    obtain ⟨k, hk6⟩ : ∃ k : Nat, aroundV (at'.tdiv 3) f.kids.length = k := ⟨(aroundV (at'.tdiv 3) f.kids.length).toNat, by omega⟩
    rw [hk6] at q1 ⊢
    have hkn : k < f.kids.length := by omega
    replace hk6 := Lib.hid hk6
    clear q0 q1 uc3 ul
    replace hM5 := hM5.ext hx6
    clear hx6
    obtain ⟨uc, uf⟩ := (hM5.box 0 rfl).facts
    have uc3 : _ = some (Value.slice ka f.kids.length kc) := uc 3
    have ul := (hM5.box 0 rfl).lt
    obtain ⟨gb, gcap, gcs, e1, gl, gc, gR, gbl⟩ := hM5.get 2 rfl k hkn
    cases e1
    have gR0 := Lib.hid gR
    obtain ⟨x3, y3, x4, y4, rfl, -⟩ := gR.form
    have g0 : w6.cell? ⟨gb, k * 4, none⟩ = some (Value.int .i64 f.kids[k].op) := gc 0 (by omega)
    have g1 : _ = some (Value.int .i64 f.kids[k].n) := gc 1 (by omega)
    have g2 : _ = some (Value.slice x3 f.kids[k].inn.length y3) := gc 2 (by omega)
    have g3 : _ = some (Value.slice x4 f.kids[k].kids.length y4) := gc 3 (by omega)
    have hih := Lib.hid (ih.out f.kids[k] (List.getElem_mem hkn))
    have hkbk := Fm.kid_le (List.getElem_mem hkn)
    have hput := fun g => sumN_put f.kids k g hkn
    generalize hX : f.kids[k] = X at *
    replace hX := Lib.hid hX
    clear gR gc uc uf gl
    have hlW := hM5.le.trans hM5.ple
    unfold fmC at gR0
    go_upto_region 5 with (fail)
    (refine wp_region_I 13 (by kernel_rfl) (by kernel_rfl) ?_; simp only [List.toList_toArray, List.take_succ_cons, List.take_zero, List.drop_succ_cons, List.drop_zero])
    iterate 12 (refine wiA rfl (by simp) rfl ?_; (try simp only [List.nil_append, List.cons_append]))
    (refine walkI_step ((fun v wx => ∃ g b3 d3 b4 d4, v = fmV g b3 d3 b4 d4 ∧ FmR (up H0 w6 wx) (fmC g b3 d3 b4 d4) g ∧ g.bulk ≤ 2 * X.bulk + 100 ∧ Hid (SpW X (at'.tdiv 9) how by' g))) rfl (by simp) rfl ((fun v w w' _ ⟨g, b3, d3, b4, d4, e, hr, hb⟩ e' => ⟨g, b3, d3, b4, d4, e, mono_FmR _ _ _ _ (up_ext e') hr, hb⟩)) ?_ ?_; (focus (intro A w' hS hA K hK; (simp only [List.map_cons, List.map_nil, knows, Is, Op.operands, Call.operands, List.lookup_cons, List.lookup_nil, Nat.reduceBEq, Bool.false_eq_true, if_false, if_true, Act.eval, Array.getD_eq_getD_getElem?, List.getElem?_toArray, List.getElem?_cons_succ, List.getElem?_cons_zero, Option.getD_some, and_true, true_and, List.append_toArray, List.nil_append, List.cons_append, List.toList_toArray, Array.toList_append, Option.toArray, List.append_nil] at hA); (go_simp; refine (hih.out _ _ _ _ _ (hlW.trans hS.ple) gR0.out i9' ihw ib (by omega)).mono ?_; rintro e w7 ⟨g, b3, d3, b4, d4, rfl, hF, hgb, hx7, hsw⟩; exact hK _ _ hx7 ⟨g, b3, d3, b4, d4, rfl, mono_FmR _ _ _ _ (up_sub hlW hS) hF, hgb, Lib.hid hsw⟩))); (try simp only [List.nil_append, List.cons_append]))
    (refine walkI_nil ?_; simp only [List.nil_append, List.cons_append, fins, Is, forall_eq, Act.put, List.setIfInBounds_toArray, List.set_cons_zero, List.set_cons_succ])
    intro w7 hx7 vv ⟨g, b3, d3, b4, d4, e, hF, hgb, hsw⟩
    subst e
    replace hM5 := hM5.up hx7
    clear g0 g1 g2 g3 hih gR0 uc3 ul
    go_upto_region 6 with (refine wpList_store_M (xs := f.kids) (n := f.kids.length) (cap := kc) (g := gb) rfl 50 _ _ rfl k rfl (cs := fmC g b3 d3 b4 d4) rfl (x' := g) hM5 2 rfl hkn hF rfl (fun u hu => one_FmR _ _ hF u hu) (by kernel_rfl) ?c5)
    case c5 =>
    intro w8 hM8
    try simp only [List.set_cons_zero, List.set_cons_succ] at hM8
    have hcut : SpS w H0 (2 * f.bulk + 100) (SpW f at' how by') w8 := SpS.of hM8 i1 i2 (by have := hput g; omega) (spW_kid hcd.out hk6.out hkn hX.out hsw.out)
    clear hM5 hx7 hput
    obtain ⟨op, n, iv, kv, il, kl, H, hM, ho, hn, hI, hK, hbd, hRR⟩ := hcut
    replace hRR := Lib.hid hRR
    obtain ⟨ia, ic, rfl, -, hI⟩ := hI.form
    obtain ⟨ka, kc, rfl, -, hK⟩ := hK.form
    obtain ⟨uc, uf⟩ := (hM.box 0 rfl).facts
    have ul := (hM.box 0 rfl).lt
    have q0 : _ = some (Value.int .i64 op) := uc 0
    have q1 : _ = some (Value.int .i64 n) := uc 1
    have q2 : _ = some (Value.slice ia il.length ic) := uc 2
    have q3 : _ = some (Value.slice ka kl.length kc) := uc 3
    obtain ⟨vc, vf⟩ := (hM.box 1 rfl).facts
    have vl := (hM.box 1 rfl).lt
    have p0 : _ = some (Value.int .i64 0) := vc 0
    have p1 : _ = some (Value.int .i64 0) := vc 1
    have p2 : _ = some (Value.slice none 0 0) := vc 2
    have p3 : _ = some (Value.slice none 0 0) := vc 3
    have hM9 := hM.set4 1 rfl (.int .i64 op) (.int .i64 n) (.slice ia il.length ic) (.slice ka kl.length kc)
    simp only [List.set_cons_zero, List.set_cons_succ] at hM9
    clear uc vc hM
    go_wp2_with fail
    generalize ((((World.setCell _ _ _).setCell _ _).setCell _ _).setCell _ _) = w9 at *
    obtain ⟨q, -⟩ := (hM9.box 1 rfl).facts
    have q0 : _ = some (Value.int .i64 op) := q 0
    have q1 : _ = some (Value.int .i64 n) := q 1
    have q2 : _ = some (Value.slice ia il.length ic) := q 2
    have q3 : _ = some (Value.slice ka kl.length kc) := q 3
    refine bodyPost_ret (v := .agg #[.int .i64 op, .int .i64 n, .slice ia il.length ic, .slice ka kl.length kc]) (by simp [results, Tryz.results29, go_sem, q0, q1, q2, q3]) rfl ?_
    exact ⟨.mk op n il kl, ia, ic, ka, kc, rfl, mono_FmR _ _ _ _ hM9.ub (FmR.of ho hn hI hK), by rw [Fm.bulk_eq]; exact hbd, hM9.ex, hRR.out⟩
  | false =>
    have hcd := Lib.hid (of_decide_eq_false hbk.out.symm)
    clear hbk
    go_wp2_with fail
    refine RetV_at (around_c how 8 _ ihw (by omega) (by omega)) ?_
    intro w6 hx6
    obtain ⟨q0, q1⟩ := aroundV_range ihw (show (0 : Int) < 8 by omega)
    replace hM5 := hM5.ext hx6
    generalize hqv : aroundV how 8 = q at *
    replace hqv := Lib.hid hqv
    clear hx6 ihw ih ia
    go_upto_block 0 with (fail)
    obtain ⟨uc, uf⟩ := (hM5.box 0 rfl).facts
    have uf0 := uf 0
    have uf1 := uf 1
    have uf2 := uf 2
    have uf3 := uf 3
    have uc0 : _ = some (Value.int .i64 f.op) := uc 0
    have uc1 : _ = some (Value.int .i64 f.n) := uc 1
    have uc2 : _ = some (Value.slice ja f.inn.length jc) := uc 2
    have uc3 : _ = some (Value.slice ka f.kids.length kc) := uc 3
    have ul := (hM5.box 0 rfl).lt
    clear uc uf
    by_cases h6 : q = 6
    · subst h6
      have hN := (hM5.new' #[.int .i64 4, .int .i64 0, .slice none 0 0, .slice none 0 0] 50 (n := w6.heap.size) rfl).nil mono_FmR 4 50
      simp only [List.cons_append, List.nil_append] at hN
      obtain ⟨j0, j1⟩ := aroundV_range ib (show (0 : Int) < 10 by omega)
      have hard := Lib.hid (fun w => around_c by' 10 w ib (by omega) (by omega))
      generalize hrv : aroundV by' 10 = rr at *
      obtain ⟨r, rfl⟩ : ∃ r : Nat, rr = r := ⟨rr.toNat, by omega⟩
      replace hrv := Lib.hid hrv
      have hw85 : IntKind.i64.wrap (85 + (r : Int)) = 85 + (r : Int) := wrap_id (by omega) (by omega)
      clear hM5 uf0 uf1 uf2 uf3 uc0 uc1 uc2 uc3 ul q0 q1
      go_wp2_with fail
      go_loopw [11] (fun vi wr => ∃ (m : Nat) (gv : Value) (gs : List Fm), m ≤ 85 + r ∧ vi = .int .i64 m ∧ Hid (gs = List.replicate m noF) ∧ gs.length ≤ 1000 ∧ Mem w H0 [box w.heap.size #[.int .i64 f.op, .int .i64 f.n, .slice ja f.inn.length jc, .slice ka f.kids.length kc] 50, box (w.heap.size + 1) #[.int .i64 0, .int .i64 0, .slice none 0 0, .slice none 0 0] 50, own mono_FmR 4 50 (.slice ka f.kids.length kc) f.kids, own mono_ItvR 8 92 (.slice ja f.inn.length jc) f.inn, box w6.heap.size #[.int .i64 4, .int .i64 0, .slice none 0 0, gv] 50, own mono_FmR 4 50 gv gs] H0 wr) (fun vi _ => 85 + r - (intOf vi).toNat)
      case atStart => exact ⟨0, _, [], by omega, rfl, Lib.hid rfl, by simp, hN⟩
      case round =>
        clear hN
        obtain ⟨m, gv, gs, hm, rfl, hgs, hgl, hN⟩ := hrel
        obtain ⟨ga, gc, rfl, -⟩ := hN.form 5 rfl
        by_cases hlt : m < 85 + r
        · have b0 : decide ((m : Int) < 85 + (r : Int)) = true := by simp; omega
          go_wp2_with fail
          refine RetV_at (hard.out _) ?_
          intro w7 hx7
          replace hN := hN.ext hx7
          clear hx7
          obtain ⟨uc, uf⟩ := (hN.box 4 rfl).facts
          have uc3 : _ = some (Value.slice ga gs.length gc) := uc 3
          have ul := (hN.box 4 rfl).lt
          clear uc uf
          have hN2 := hN.ext (Ext.new w7 (.cells #[.int .i64 0, .int .i64 0, .slice none 0 0, .slice none 0 0] 50))
          have hS := Src.lit1 (H := H0) (E := FmR) (sz := 4) (w := w7.alloc (.cells #[.int .i64 0, .int .i64 0, .slice none 0 0, .slice none 0 0] 50)) (b := w7.heap.size) (x := noF) (cs := fmC noF none 0 none 0) (noF_R _) rfl (fun j => by rw [(Proofs.YtnpnjcaomakehaaGreat.Own.new _ _ _).facts.1]; simp [fmC, noF, Fm.op, Fm.n, Fm.inn, Fm.kids])
          go_wp2_with (first | (at_builtin; refine wpList_append_M 5 rfl _ _ 45 rfl Tryz.underlying45 infoFm rfl rfl rfl hN2 rfl hS one_FmR (by simp; omega) (by simp; omega) ?f5))
          case f5 =>
          intro v8 w8 hN3
          try simp only [List.set_cons_zero, List.set_cons_succ] at hN3
          clear hN hN2 hS uc3 ul
          have hgs2 : Hid (gs ++ [noF] = List.replicate (m + 1) noF) := Lib.hid (by rw [hgs.out, List.replicate_succ'])
          have hgl2 : (gs ++ [noF]).length ≤ 1000 := by rw [hgs2.out, List.length_replicate]; omega
          generalize gs ++ [noF] = gs' at *
          obtain ⟨na, nc, rfl, -⟩ := hN3.form 5 rfl
          obtain ⟨uc, uf⟩ := (hN3.box 4 rfl).facts
          have uf3 := uf 3
          have uc3 : _ = some (Value.slice ga gs.length gc) := uc 3
          have ul := (hN3.box 4 rfl).lt
          clear uc uf
          have hN4 := hN3.set 4 rfl 3 (.slice na gs'.length nc)
          simp only [List.set_cons_zero, List.setIfInBounds_toArray, List.set_cons_succ] at hN4
          clear hN3
          go_wp2_with fail
          go_roundw
          case rel => exact ⟨m + 1, _, gs', by omega, by go_num, hgs2, hgl2, hN4⟩
          case measure => simp [intOf]; omega
        · have b0 : decide ((m : Int) < 85 + (r : Int)) = false := by simp; omega
          go_wp2_with fail
          refine RetV_at (hard.out _) ?_
          intro w7 hx7
          replace hN := hN.ext hx7
          clear hx7
          have hgb : sumN Fm.bulk gs = m := by rw [hgs.out]; exact sumN_rep m
          obtain ⟨H1, hl1, hN1, hK⟩ := hN.freezeS 2 rfl
          obtain ⟨H2, hl2, hN2, hI⟩ := hN1.freezeS 3 rfl
          obtain ⟨H3, hl3, hN3, hG⟩ := hN2.freezeS 5 rfl
          replace hN3 := hN3.pick [0, 1, 4] (by decide)
          simp only [List.set_cons_succ, List.set_cons_zero, List.map_cons, List.map_nil, List.getElem?_cons_succ, List.getElem?_cons_zero, Option.getD_some] at hN3
          have hfR : FmR H3 (fmC (.mk f.op f.n f.inn f.kids) ja jc ka kc) (.mk f.op f.n f.inn f.kids) := FmR.of i1 i2 (hI.mono mono_ItvR hl3) (hK.mono mono_FmR (hl2.trans hl3))
          have hgR : FmR H3 (fmC (.mk 4 0 [] gs) none 0 ga gc) (.mk 4 0 [] gs) := FmR.of (by simp [Fm.op, I64]) (by simp [Fm.n, I64]) (SliceRep.nil _ _ _) hG
          obtain ⟨uc, uf⟩ := (hN3.box 0 rfl).facts
          have uc0 : _ = some (Value.int .i64 f.op) := uc 0
          have uc1 : _ = some (Value.int .i64 f.n) := uc 1
          have uc2 : _ = some (Value.slice ja f.inn.length jc) := uc 2
          have uc3 : _ = some (Value.slice ka f.kids.length kc) := uc 3
          have ul := (hN3.box 0 rfl).lt
          obtain ⟨tc, tf⟩ := (hN3.box 2 rfl).facts
          have tc0 : _ = some (Value.int .i64 4) := tc 0
          have tc1 : _ = some (Value.int .i64 0) := tc 1
          have tc2 : _ = some (Value.slice none 0 0) := tc 2
          have tc3 : _ = some (Value.slice ga gs.length gc) := tc 3
          have tl := (hN3.box 2 rfl).lt
          obtain ⟨vc, vf⟩ := (hN3.box 1 rfl).facts
          have vl := (hN3.box 1 rfl).lt
          have p0 : _ = some (Value.int .i64 0) := vc 0
          have p1 : _ = some (Value.int .i64 0) := vc 1
          have p2 : _ = some (Value.slice none 0 0) := vc 2
          have p3 : _ = some (Value.slice none 0 0) := vc 3
          have hN5 := ((hN3.set4 1 rfl (.int .i64 5) (.int .i64 0) (.slice none 0 0) (.slice (some ⟨w7.heap.size, 0, none⟩) 2 2)).new' #[.int .i64 f.op, .int .i64 f.n, .slice ja f.inn.length jc, .slice ka f.kids.length kc, .int .i64 4, .int .i64 0, .slice none 0 0, .slice ga gs.length gc] 50 (n := w7.heap.size) (by simp)).asOwn 3 rfl mono_FmR (sz := 4) (xs := [.mk f.op f.n f.inn f.kids, .mk 4 0 [] gs]) (n := 2) (by simp) (by simp [maxLen]) rfl ⟨_, _, rfl, rfl, hfR, _, [], rfl, rfl, hgR, rfl⟩
          simp only [List.set_cons_zero, List.set_cons_succ, List.cons_append, List.nil_append] at hN5
          obtain ⟨H6, hl6, hN6, hR6⟩ := hN5.freezeS 3 rfl
          simp only [List.set_cons_zero, List.set_cons_succ] at hN6
          clear uc uf tc tf vc hN hN1 hN2 hN3 hN5 hG hI hK hfR hgR
          go_wp2_with fail
          generalize World.alloc _ _ = w9 at *
          obtain ⟨q, -⟩ := (hN6.box 1 rfl).facts
          have q0 : _ = some (Value.int .i64 5) := q 0
          have q1 : _ = some (Value.int .i64 0) := q 1
          have q2 : _ = some (Value.slice none 0 0) := q 2
          have q3 : _ = some (Value.slice (some ⟨w7.heap.size, 0, none⟩) 2 2) := q 3
          refine bodyPost_ret (v := .agg #[.int .i64 5, .int .i64 0, .slice none 0 0, .slice (some ⟨w7.heap.size, 0, none⟩) 2 2]) (by simp [results, Tryz.results29, go_sem, q0, q1, q2, q3]) rfl ?_
          refine ⟨.mk 5 0 [] [.mk f.op f.n f.inn f.kids, .mk 4 0 [] gs], none, 0, some ⟨w7.heap.size, 0, none⟩, 2, rfl, mono_FmR _ _ _ _ hN6.ub (FmR.of (by simp [Fm.op, I64]) (by simp [Fm.n, I64]) (SliceRep.nil _ _ _) hR6), ?_, hN6.ex, by have hmr : m = 85 + r := (by omega); rw [hgs.out, hmr]; exact spW_6 hcd.out hqv.out hrv.out⟩
          have e1 : (Fm.mk f.op f.n f.inn f.kids).bulk = f.bulk := by rw [← Fm.eta]
          have e2 : (Fm.mk 4 0 [] gs).bulk = 1 + m := by rw [Fm.bulk_eq]; simp [Fm.inn, Fm.kids, hgb]
          rw [Fm.bulk_eq]
          show 1 + 0 + ((Fm.mk f.op f.n f.inn f.kids).bulk + ((Fm.mk 4 0 [] gs).bulk + 0)) ≤ _
          rw [e1, e2]
          omega
    go_cut [] (fun wx => SpS w H0 (2 * f.bulk + 100) (SpW f at' how by') wx)
    case first =>
      obtain rfl | rfl | rfl | rfl | rfl | rfl | rfl : q = 0 ∨ q = 1 ∨ q = 2 ∨ q = 3 ∨ q = 4 ∨ q = 5 ∨ q = 7 := by omega
      · have hli := Own.new w6 #[.int .i64 by', .int .i64 (-1), .int .i64 7, .int .i64 0, .int .i64 4, .int .i64 6] 3
        have hM6 := hM5.ext (Ext.new w6 (.cells #[.int .i64 by', .int .i64 (-1), .int .i64 7, .int .i64 0, .int .i64 4, .int .i64 6] 3))
        go_wp2_with fail
        refine RetV_at (around_c by' 6 _ ib (by omega) (by omega)) ?_
        intro w7 hx7
        obtain ⟨j0, j1⟩ := aroundV_range ib (show (0 : Int) < 6 by omega)
        obtain ⟨j, hj⟩ : ∃ j : Nat, aroundV by' 6 = j := ⟨(aroundV by' 6).toNat, by omega⟩
        rw [hj] at j1 ⊢
        replace hj := Lib.hid hj
        clear j0
        have hM7 := hM6.ext hx7
        replace hli := hli.keep hx7
        clear uf0 uf1 uf2 uf3 uc0 uc1 uc2 uc3 ul
        obtain ⟨uc, uf⟩ := (hM7.box 0 rfl).facts
        have uf0 := uf 0
        have uf1 := uf 1
        have uc0 : _ = some (Value.int .i64 f.op) := uc 0
        have uc1 : _ = some (Value.int .i64 f.n) := uc 1
        have ul := (hM7.box 0 rfl).lt
        have hll := hli.lt
        clear uc uf
        have hjm : j < 6 := by omega
        obtain ⟨nv, hnv, hnj, hcn⟩ : ∃ nv : Int, I64 nv ∧ Hid (nv = ([by', -1, 7, 0, 4, 6] : List Int).getD j 0) ∧ w7.cell? ⟨w6.heap.size, j, none⟩ = some (.int .i64 nv) := by
          rw [hli.facts.1 j]
          rcases j with _ | _ | _ | _ | _ | _ | _ | j
          all_goals first | omega | exact ⟨_, ib, Lib.hid rfl, rfl⟩ | (refine ⟨_, ?_, ?_, rfl⟩; (· simp [I64]); (· exact Lib.hid rfl))
        have hM8 := hM7.set 0 rfl 0 (.int .i64 nv)
        simp only [List.set_cons_zero, List.setIfInBounds_toArray, List.set_cons_succ] at hM8
        clear hM5 hM6 hM7 hx7 hli
        go_wp2_with fail
        go_meet
        case rel => exact SpS.of hM8 hnv i2 (by omega) (spW_0 hcd.out hqv.out hj.out hnj.out)
      · have hli := Own.new w6 #[.int .i64 by', .int .i64 (-1), .int .i64 0, .int .i64 31, .int .i64 32, .int .i64 63, .int .i64 64] 3
        have hM6 := hM5.ext (Ext.new w6 (.cells #[.int .i64 by', .int .i64 (-1), .int .i64 0, .int .i64 31, .int .i64 32, .int .i64 63, .int .i64 64] 3))
        go_wp2_with fail
        refine RetV_at (around_c by' 7 _ ib (by omega) (by omega)) ?_
        intro w7 hx7
        obtain ⟨j0, j1⟩ := aroundV_range ib (show (0 : Int) < 7 by omega)
        obtain ⟨j, hj⟩ : ∃ j : Nat, aroundV by' 7 = j := ⟨(aroundV by' 7).toNat, by omega⟩
        rw [hj] at j1 ⊢
        replace hj := Lib.hid hj
        clear j0
        have hM7 := hM6.ext hx7
        replace hli := hli.keep hx7
        clear uf0 uf1 uf2 uf3 uc0 uc1 uc2 uc3 ul
        obtain ⟨uc, uf⟩ := (hM7.box 0 rfl).facts
        have uf0 := uf 0
        have uf1 := uf 1
        have uc0 : _ = some (Value.int .i64 f.op) := uc 0
        have uc1 : _ = some (Value.int .i64 f.n) := uc 1
        have ul := (hM7.box 0 rfl).lt
        have hll := hli.lt
        clear uc uf
        have hjm : j < 7 := by omega
        obtain ⟨nv, hnv, hnj, hcn⟩ : ∃ nv : Int, I64 nv ∧ Hid (nv = ([by', -1, 0, 31, 32, 63, 64] : List Int).getD j 0) ∧ w7.cell? ⟨w6.heap.size, j, none⟩ = some (.int .i64 nv) := by
          rw [hli.facts.1 j]
          rcases j with _ | _ | _ | _ | _ | _ | _ | j
          all_goals first | omega | exact ⟨_, ib, Lib.hid rfl, rfl⟩ | (refine ⟨_, ?_, ?_, rfl⟩; (· simp [I64]); (· exact Lib.hid rfl))
        have hM8 := hM7.set 0 rfl 1 (.int .i64 nv)
        simp only [List.set_cons_zero, List.setIfInBounds_toArray, List.set_cons_succ] at hM8
        clear hM5 hM6 hM7 hx7 hli
        go_wp2_with fail
        go_meet
        case rel => exact SpS.of hM8 i1 hnv (by omega) (spW_1 hcd.out hqv.out hj.out hnj.out)
      · have hM6 := hM5.ext (Ext.new w6 (.cells #[.int .i64 by', .int .i64 1, .int .i64 5, .int .i64 1, .bool false, .bool false, .bool false, .bool false] 92))
        have hS := Src.lit1 (H := H0) (E := ItvR) (sz := 8) (w := w6.alloc (.cells #[.int .i64 by', .int .i64 1, .int .i64 5, .int .i64 1, .bool false, .bool false, .bool false, .bool false] 92)) (b := w6.heap.size) (x := ⟨⟨by', 1⟩, ⟨5, 1⟩, false, false, false, false⟩) (cs := [.int .i64 by', .int .i64 1, .int .i64 5, .int .i64 1, .bool false, .bool false, .bool false, .bool false]) ⟨rfl, ⟨ib, by simp [I64]⟩, by simp [I64], by simp [I64]⟩ rfl (fun j => by rw [(Proofs.YtnpnjcaomakehaaGreat.Own.new _ _ _).facts.1]; simp)
        go_wp2_with (first | (at_builtin; refine wpList_append_M 3 rfl _ _ 48 rfl Tryz.underlying48 infoItv rfl rfl rfl hM6 rfl hS one_ItvR (by simp; omega) (by simp; omega) ?f5))
        case f5 =>
        intro v7 w7 hM7
        try simp only [List.set_cons_zero, List.set_cons_succ] at hM7
        obtain ⟨il2, hil2⟩ : ∃ il2 : List Itv, il2 = f.inn ++ [⟨⟨by', 1⟩, ⟨5, 1⟩, false, false, false, false⟩] := ⟨_, rfl⟩
        have hll2 : il2.length ≤ f.inn.length + 1 := by rw [hil2]; simp
        rw [← hil2] at hM7
        replace hil2 := Lib.hid hil2
        obtain ⟨va, vc, rfl, -⟩ := hM7.form 3 rfl
        clear uf0 uf1 uf2 uf3 uc0 uc1 uc2 uc3 ul
        obtain ⟨uc, uf⟩ := (hM7.box 0 rfl).facts
        have uf2 := uf 2
        have uf3 := uf 3
        have uc2 : _ = some (Value.slice ja f.inn.length jc) := uc 2
        have uc3 : _ = some (Value.slice ka f.kids.length kc) := uc 3
        have ul := (hM7.box 0 rfl).lt
        have hM8 := hM7.set 0 rfl 2 (.slice va il2.length vc)
        simp only [List.set_cons_zero, List.setIfInBounds_toArray, List.set_cons_succ] at hM8
        clear uc uf hM5 hM6 hM7 hS
        go_wp2_with fail
        go_meet
        case rel => exact SpS.of hM8 i1 i2 (by omega) (hil2.out ▸ spW_2 hcd.out hqv.out)
      · have hS := hM5.src 3 rfl
        go_wp2_with (first | (at_builtin; refine wpList_append_M 3 rfl _ _ 48 rfl Tryz.underlying48 infoItv rfl rfl rfl hM5 rfl hS one_ItvR (by omega) (by omega) ?f5))
        case f5 =>
        intro v7 w7 hM7
        try simp only [List.set_cons_zero, List.set_cons_succ] at hM7
        obtain ⟨il2, hil2⟩ : ∃ il2 : List Itv, il2 = f.inn ++ f.inn := ⟨_, rfl⟩
        have hll2 : il2.length ≤ f.inn.length + f.inn.length := by rw [hil2]; simp
        rw [← hil2] at hM7
        replace hil2 := Lib.hid hil2
        have hM6 := hM7
        obtain ⟨va, vc, rfl, -⟩ := hM7.form 3 rfl
        clear uf0 uf1 uf2 uf3 uc0 uc1 uc2 uc3 ul
        obtain ⟨uc, uf⟩ := (hM7.box 0 rfl).facts
        have uf2 := uf 2
        have uf3 := uf 3
        have uc2 : _ = some (Value.slice ja f.inn.length jc) := uc 2
        have uc3 : _ = some (Value.slice ka f.kids.length kc) := uc 3
        have ul := (hM7.box 0 rfl).lt
        have hM8 := hM7.set 0 rfl 2 (.slice va il2.length vc)
        simp only [List.set_cons_zero, List.setIfInBounds_toArray, List.set_cons_succ] at hM8
        clear uc uf hM5 hM6 hM7 hS
        go_wp2_with fail
        go_meet
        case rel => exact SpS.of hM8 i1 i2 (by omega) (hil2.out ▸ spW_3 hcd.out hqv.out)
      · have hM6 := hM5.ext (Ext.new w6 (.cells #[.int .i64 0, .int .i64 0, .slice none 0 0, .slice none 0 0] 50))
        have hS := Src.lit1 (H := H0) (E := FmR) (sz := 4) (w := w6.alloc (.cells #[.int .i64 0, .int .i64 0, .slice none 0 0, .slice none 0 0] 50)) (b := w6.heap.size) (x := noF) (cs := fmC noF none 0 none 0) (noF_R _) rfl (fun j => by rw [(Proofs.YtnpnjcaomakehaaGreat.Own.new _ _ _).facts.1]; simp [fmC, noF, Fm.op, Fm.n, Fm.inn, Fm.kids])
        go_wp2_with (first | (at_builtin; refine wpList_append_M 2 rfl _ _ 45 rfl Tryz.underlying45 infoFm rfl rfl rfl hM6 rfl hS one_FmR (by simp; omega) (by simp; omega) ?f5))
        case f5 =>
        intro v7 w7 hM7
        try simp only [List.set_cons_zero, List.set_cons_succ] at hM7
        obtain ⟨kl2, hkl2⟩ : ∃ kl2 : List Fm, kl2 = f.kids ++ [noF] := ⟨_, rfl⟩
        have hll2 : sumN Fm.bulk kl2 ≤ sumN Fm.bulk f.kids + 1 := by rw [hkl2, sumN_snoc]; simp [noF, Fm.bulk, fbulks]
        rw [← hkl2] at hM7
        replace hkl2 := Lib.hid hkl2
        obtain ⟨va, vc, rfl, -⟩ := hM7.form 2 rfl
        clear uf0 uf1 uf2 uf3 uc0 uc1 uc2 uc3 ul
        obtain ⟨uc, uf⟩ := (hM7.box 0 rfl).facts
        have uf2 := uf 2
        have uf3 := uf 3
        have uc2 : _ = some (Value.slice ja f.inn.length jc) := uc 2
        have uc3 : _ = some (Value.slice ka f.kids.length kc) := uc 3
        have ul := (hM7.box 0 rfl).lt
        have hM8 := hM7.set 0 rfl 3 (.slice va kl2.length vc)
        simp only [List.set_cons_zero, List.setIfInBounds_toArray, List.set_cons_succ] at hM8
        clear uc uf hM5 hM6 hM7 hS
        go_wp2_with fail
        go_meet
        case rel => exact SpS.of hM8 i1 i2 (by omega) (hkl2.out ▸ spW_4 hcd.out hqv.out)
      · have hM8 := ((hM5.set 0 rfl 3 (.slice none 0 0)).nil mono_FmR 4 50).pick [0, 1, 4, 3] (by decide)
        simp only [List.set_cons_zero, List.setIfInBounds_toArray, List.set_cons_succ, List.cons_append, List.nil_append, List.map_cons, List.map_nil, List.getElem?_cons_succ, List.getElem?_cons_zero, Option.getD_some] at hM8
        clear hM5
        go_wp2_with fail
        go_meet
        case rel => exact SpS.of hM8 i1 i2 (by simp [sumN]; omega) (spW_5 hcd.out hqv.out)
      · obtain ⟨j0, j1⟩ := aroundV_range ib (show (0 : Int) < 7 by omega)
        have hard := Lib.hid (fun w => around_c by' 7 w ib (by omega) (by omega))
        generalize hrv : aroundV by' 7 = rr at *
        obtain ⟨r, rfl⟩ : ∃ r : Nat, rr = r := ⟨rr.toNat, by omega⟩
        replace hrv := Lib.hid hrv
        have hw1 : IntKind.i64.wrap (1 + (r : Int)) = 1 + (r : Int) := wrap_id (by omega) (by omega)
        obtain ⟨H1, hl1, hN1, hK⟩ := hM5.freezeS 2 rfl
        obtain ⟨H2, hl2, hN2, hI⟩ := hN1.freezeS 3 rfl
        replace hN2 := hN2.pick [0, 1] (by decide)
        simp only [List.set_cons_succ, List.set_cons_zero, List.map_cons, List.map_nil, List.getElem?_cons_succ, List.getElem?_cons_zero, Option.getD_some] at hN2
        have hfR : FmR H2 (fmC (.mk f.op f.n f.inn f.kids) ja jc ka kc) (.mk f.op f.n f.inn f.kids) := FmR.of i1 i2 hI (hK.mono mono_FmR hl2)
        clear hM5 hN1 hK hI uf0 uf1 uf2 uf3 uc0 uc1 uc2 uc3 ul q0 q1
        go_wp2_with fail
        go_loopw [12] (fun vi wr => ∃ (m : Nat) (g : Fm) (b3 : Option Addr) (d3 : Nat) (b4 : Option Addr) (d4 : Nat) (H : PH), m ≤ 1 + r ∧ vi = .int .i64 m ∧ Mem w H0 [box w.heap.size #[.int .i64 g.op, .int .i64 g.n, .slice b3 g.inn.length d3, .slice b4 g.kids.length d4] 50, box (w.heap.size + 1) #[.int .i64 0, .int .i64 0, .slice none 0 0, .slice none 0 0] 50] H wr ∧ FmR H (fmC g b3 d3 b4 d4) g ∧ g.bulk ≤ f.bulk + m ∧ Hid (g = notsF m (.mk f.op f.n f.inn f.kids))) (fun vi _ => 1 + r - (intOf vi).toNat)
        case atStart => exact ⟨0, .mk f.op f.n f.inn f.kids, _, _, _, _, H2, by omega, rfl, hN2, hfR, by rw [← Fm.eta]; omega, Lib.hid rfl⟩
        case round =>
          clear hN2 hfR
          obtain ⟨m, g, b3, d3, b4, d4, H, hm, rfl, hN, hF, hgb, hgn⟩ := hrel
          by_cases hlt : m < 1 + r
          · have b0 : decide ((m : Int) < 1 + (r : Int)) = true := by simp; omega
            go_wp2_with fail
            refine RetV_at (hard.out _) ?_
            intro w7 hx7
            replace hN := hN.ext hx7
            clear hx7
            obtain ⟨uc, uf⟩ := (hN.box 0 rfl).facts
            have uc0 : _ = some (Value.int .i64 g.op) := uc 0
            have uc1 : _ = some (Value.int .i64 g.n) := uc 1
            have uc2 : _ = some (Value.slice b3 g.inn.length d3) := uc 2
            have uc3 : _ = some (Value.slice b4 g.kids.length d4) := uc 3
            have ul := (hN.box 0 rfl).lt
            clear uc uf
            go_wp2_with fail
            refine (not7_c g b3 d3 b4 d4 w7 hN.ple hF).mono ?_
            rintro e w8 ⟨b, rfl, hx8, hF8⟩
            replace hN := hN.up hx8
            clear hx8 uc0 uc1 uc2 uc3 ul
            obtain ⟨uc, uf⟩ := (hN.box 0 rfl).facts
            have uc0 : _ = some (Value.int .i64 g.op) := uc 0
            have uc1 : _ = some (Value.int .i64 g.n) := uc 1
            have uc2 : _ = some (Value.slice b3 g.inn.length d3) := uc 2
            have uc3 : _ = some (Value.slice b4 g.kids.length d4) := uc 3
            have ul := (hN.box 0 rfl).lt
            replace hN := hN.set4 0 rfl (.int .i64 6) (.int .i64 0) (.slice none 0 0) (.slice (some ⟨b, 0, none⟩) 1 1)
            simp only [List.set_cons_zero, List.set_cons_succ] at hN
            clear uc
            go_wp2_with fail
            go_roundw
            case rel => exact ⟨m + 1, .mk 6 0 [] [g], none, 0, some ⟨b, 0, none⟩, 1, _, by omega, by go_num, hN, hF8, by rw [Fm.bulk_eq]; simp [Fm.inn, Fm.kids, sumN]; omega, Lib.hid (by rw [hgn.out]; rfl)⟩
            case measure => simp [intOf]; omega
          · have b0 : decide ((m : Int) < 1 + (r : Int)) = false := by simp; omega
            go_wp2_with fail
            refine RetV_at (hard.out _) ?_
            intro w7 hx7
            replace hN := hN.ext hx7
            clear hx7
            go_wp2_with fail
            go_meet
            case rel =>
              rw [fmR_iff] at hF
              obtain ⟨v3, v4, e1, g1, g2, g3, g4⟩ := hF
              cases e1
              exact ⟨g.op, g.n, _, _, g.inn, g.kids, H, hN, g1, g2, g3, g4, by rw [Fm.bulk_eq] at hgb; omega, by have hmr : m = 1 + r := (by omega); rw [← Fm.eta, hgn.out, hmr]; exact spW_7 hcd.out hqv.out hrv.out⟩
    case rest =>
      obtain ⟨op, n, iv, kv, il, kl, H, hM, ho, hn, hI, hK, hbd, hRR⟩ := hcut
      replace hRR := Lib.hid hRR
      obtain ⟨ia, ic, rfl, -, hI⟩ := hI.form
      obtain ⟨ka, kc, rfl, -, hK⟩ := hK.form
      obtain ⟨uc, uf⟩ := (hM.box 0 rfl).facts
      have ul := (hM.box 0 rfl).lt
      have q0 : _ = some (Value.int .i64 op) := uc 0
      have q1 : _ = some (Value.int .i64 n) := uc 1
      have q2 : _ = some (Value.slice ia il.length ic) := uc 2
      have q3 : _ = some (Value.slice ka kl.length kc) := uc 3
      obtain ⟨vc, vf⟩ := (hM.box 1 rfl).facts
      have vl := (hM.box 1 rfl).lt
      have p0 : _ = some (Value.int .i64 0) := vc 0
      have p1 : _ = some (Value.int .i64 0) := vc 1
      have p2 : _ = some (Value.slice none 0 0) := vc 2
      have p3 : _ = some (Value.slice none 0 0) := vc 3
      have hM9 := hM.set4 1 rfl (.int .i64 op) (.int .i64 n) (.slice ia il.length ic) (.slice ka kl.length kc)
      simp only [List.set_cons_zero, List.set_cons_succ] at hM9
      clear uc vc hM
      go_wp2_with fail
      generalize ((((World.setCell _ _ _).setCell _ _).setCell _ _).setCell _ _) = w9 at *
      obtain ⟨q, -⟩ := (hM9.box 1 rfl).facts
      have q0 : _ = some (Value.int .i64 op) := q 0
      have q1 : _ = some (Value.int .i64 n) := q 1
      have q2 : _ = some (Value.slice ia il.length ic) := q 2
      have q3 : _ = some (Value.slice ka kl.length kc) := q 3
      refine bodyPost_ret (v := .agg #[.int .i64 op, .int .i64 n, .slice ia il.length ic, .slice ka kl.length kc]) (by simp [results, Tryz.results29, go_sem, q0, q1, q2, q3]) rfl ?_
      exact ⟨.mk op n il kl, ia, ic, ka, kc, rfl, mono_FmR _ _ _ _ hM9.ub (FmR.of ho hn hI hK), by rw [Fm.bulk_eq]; exact hbd, hM9.ex, hRR.out⟩
def SzP (lf : Int) (s : Nat) : Prop := 1 ≤ s ∧ (s : Int) ≤ 1 + 3 * (max (lf - 3) 0 - max (lf - s - 3) 0)
theorem szP_1 (lf : Int) : SzP lf 1 := by unfold SzP; omega
def KsP (lf : Int) (m : Nat) (sm : Nat) : Prop := (sm : Int) ≤ m + 3 * (max (lf - 1 - 3) 0 - max (lf - 1 - sm - 3) 0)
theorem ksP_step {lf : Int} {m sm s : Nat} (h : KsP lf m sm) (h2 : SzP (lf - 1 - sm) s) : KsP lf (m + 1) (sm + s) := by unfold KsP SzP at *; omega
theorem szP_of {lf : Int} {m sm : Nat} (h : KsP lf m sm) (hm : m ≤ 3) (hl : 3 ≤ lf - 1) : SzP lf (1 + sm) := by unfold KsP SzP at *; omega
theorem ksP_bd {lf : Int} {m sm : Nat} (h : KsP lf m sm) (hm : m ≤ 3) (hl : lf ≤ 100) : (sm : Int) ≤ 300 := by unfold KsP at h; omega
theorem deep_leaf {f : Fm} (h : f.kids = []) : f.deep = 1 := by rw [Fm.deep_eq, h]; rfl
theorem size_leaf' {f : Fm} (h : f.kids = []) : f.size = 1 := by rw [Fm.size_eq, h]; rfl
theorem size_mk (o n : Int) (i : List Itv) (k : List Fm) : (Fm.mk o n i k).size = 1 + sumN Fm.size k := Fm.size_eq _
theorem deep_mk (o n : Int) (i : List Itv) (k : List Fm) : (Fm.mk o n i k).deep = 1 + maxN Fm.deep k := Fm.deep_eq _
def kidsG (T : Int → Int → Fm × Int) (lf a : Int) : Nat → List Fm × Int
  | 0 => ([], a)
  | m + 1 => ((kidsG T lf a m).1 ++ [(T (kidsG T lf a m).2 (lf - (sumN Fm.size (kidsG T lf a m).1 : Nat))).1], (T (kidsG T lf a m).2 (lf - (sumN Fm.size (kidsG T lf a m).1 : Nat))).2)
def treeF (l : List Int) (cl : Int) : Nat → Int → Int → Fm × Int
  | 0, a, _ => leafF l cl (a + 1)
  | d + 1, a, lf =>
    if lf - 1 < 3 ∨ (l.length : Int) < a + 1 ∨ pickV l a 14 < 3 then leafF l cl (a + 1)
    else if pickV l a 14 < 5 then (.mk 3 0 [] [(treeF l cl d (a + 1) (lf - 1)).1], (treeF l cl d (a + 1) (lf - 1)).2)
    else if pickV l a 14 < 7 then (.mk 6 0 [] [(treeF l cl d (a + 1) (lf - 1)).1], (treeF l cl d (a + 1) (lf - 1)).2)
    else (.mk (4 + pickV l a 14 % 2) 0 [] (kidsG (treeF l cl d) (lf - 1) (a + 1 + 1) ([2, 2, 2, 3, 1, 0].getD (pickV l (a + 1) 6).toNat 0)).1, (kidsG (treeF l cl d) (lf - 1) (a + 1 + 1) ([2, 2, 2, 3, 1, 0].getD (pickV l (a + 1) 6).toNat 0)).2)
theorem treeF_leaf {l : List Int} {cl : Int} {d : Nat} {a lf : Int} (h : d = 0 ∨ lf - 1 < 3 ∨ (l.length : Int) < a + 1 ∨ pickV l a 14 < 3) : treeF l cl d a lf = leafF l cl (a + 1) := by
  cases d with
  | zero => rfl
  | succ d => rw [treeF, if_pos (h.resolve_left (by omega))]
theorem treeF_3 {l : List Int} {cl : Int} {d : Nat} {a lf k a2 : Int} {f : Fm} (hk : k = pickV l a 14) (h1 : ¬ lf - 1 < 3) (h2 : ¬ (l.length : Int) < a + 1) (h3 : ¬ k < 3) (h4 : k < 5) (h : treeF l cl d (a + 1) (lf - 1) = (f, a2)) :
    treeF l cl (d + 1) a lf = (.mk 3 0 [] [f], a2) := by
  subst hk; rw [treeF, if_neg (by omega), if_pos h4, h]
theorem treeF_6 {l : List Int} {cl : Int} {d : Nat} {a lf k a2 : Int} {f : Fm} (hk : k = pickV l a 14) (h1 : ¬ lf - 1 < 3) (h2 : ¬ (l.length : Int) < a + 1) (h3 : ¬ k < 3) (h4 : ¬ k < 5) (h5 : k < 7) (h : treeF l cl d (a + 1) (lf - 1) = (f, a2)) :
    treeF l cl (d + 1) a lf = (.mk 6 0 [] [f], a2) := by
  subst hk; rw [treeF, if_neg (by omega), if_neg h4, if_pos h5, h]
theorem treeF_n {l : List Int} {cl : Int} {d nv j : Nat} {a lf k a2 : Int} {ks : List Fm} (hk : k = pickV l a 14) (h1 : ¬ lf - 1 < 3) (h2 : ¬ (l.length : Int) < a + 1) (h3 : ¬ k < 3) (h5 : ¬ k < 7) (hj : (j : Int) = pickV l (a + 1) 6) (hn : nv = [2, 2, 2, 3, 1, 0].getD j 0)
    (h : kidsG (treeF l cl d) (lf - 1) (a + 1 + 1) nv = (ks, a2)) : treeF l cl (d + 1) a lf = (.mk (4 + k % 2) 0 [] ks, a2) := by
  subst hk hn; rw [treeF, if_neg (by omega), if_neg (by omega), if_neg h5, ← hj, Int.toNat_natCast, h]
theorem kidsG_step {T : Int → Int → Fm × Int} {lf a at1 at2 : Int} {m : Nat} {ks : List Fm} {f : Fm} (h : kidsG T lf a m = (ks, at1)) (h2 : T at1 (lf - (sumN Fm.size ks : Nat)) = (f, at2)) : kidsG T lf a (m + 1) = (ks ++ [f], at2) := by
  rw [kidsG, h]; simp only []; rw [h2]
abbrev TreeQ (w : World) (g : Nat) (l : List Int) (vl : Value) (at' cl lf : Int) (d : Nat) : Ending → World → Prop := TreeP w g vl at' cl lf fun f a2 => (SzP lf f.size ∧ f.deep ≤ max 1 (d + 1)) ∧ Hid (treeF l cl d at' lf = (f, a2))
theorem sumN_app (ks : List Fm) (f : Fm) : sumN Fm.size (ks ++ [f]) = sumN Fm.size ks + f.size := by
  induction ks with
  | nil => simp [sumN]
  | cons x xs ih => simp only [List.cons_append, sumN, ih]; omega
theorem whole_ao {cl op : Int} {ks : List Fm} (h : 4 ≤ op ∧ op ≤ 5) (hk : ∀ x ∈ ks, wholeN cl x = true) : wholeN cl (.mk op 0 [] ks) = true := by
  have hf : formed1 (.mk op 0 [] ks) = true := by
    rcases (show op = 4 ∨ op = 5 by omega) with rfl | rfl <;> simp [formed1, Fm.op, Fm.n, Fm.inn, Fm.kids]
  rw [wholeN_eq, hf, Bool.true_and]
  have h1 : ¬ op = 1 := by omega
  simpa [Fm.kids, Fm.op, h1] using hk
set_option maxRecDepth 100000 in
set_option maxHeartbeats 8000000 in
theorem tree_c {Hl : PH} (l : List Int) (vl : Value) (g : Nat) (cl : Int) (hr : IntsR Hl vl l) (hg : Hl g = none) (hc0 : 0 < cl) (hc1 : cl ≤ 64) (d : Nat) : d ≤ 7 → ∀ (at' lf : Int) (w : World), PLe Hl (ph w) → Own w g (mkA vl at' cl lf) 115 → 0 ≤ at' → at' + 4 * lf ≤ 400000 → -1000 ≤ lf → lf ≤ 100 →
    Calls Tryz.prog 68 #[.pointer (some ⟨g, 0, none⟩), .int .i64 ((d : Int) + 1)] w (TreeQ w g l vl at' cl lf d) := by
  obtain ⟨xa, xc, rfl, hll, hr⟩ := hr.form
  induction d using Nat.strongRecOn with
  | ind d ih =>
    intro hd at' lf w hl ho h0 h1 h2 h3
    obtain ⟨kc, kf⟩ := ho.facts
    have k3 : _ = some (Value.int .i64 lf) := kc 3
    have f3 := kf 3
    have hgl := ho.lt
    have hG0 := ((MemG.start ho).set 3 (.int .i64 (lf - 1))).step (fun w0 _ m => m.new' zeroFa 50 (n := w.heap.size) (by simp))
    simp only [List.setIfInBounds_toArray, List.set_cons_succ, List.set_cons_zero, List.nil_append] at hG0
    have hgg : w.grownBy (w.setCell ⟨g, 3, none⟩ (.int .i64 (lf - 1))) (some g) := ⟨rfl, rfl, rfl, by simp, fun k hk hn => Below.heap_setCell _ _ _ _ (fun e => hn (by rw [e]))⟩
    have hl0 := (hl.grownG hgg hg).trans (Ext.ple (Ext.new _ (.cells zeroFa 50)))
    clear kc kf hgg
    go_enter Tryz.func68, Tryz.ntmps68
    go_wp2_with fail
    generalize (w.setCell _ _).alloc _ = W at *
    clear k3 f3 hgl
    refine (mnext_c l _ g at' cl (lf - 1) 14 W hl0 hr hg hG0.own h0 (by omega) (by omega) (by omega)).mono ?_
    rintro e w1 ⟨k, rfl, hkv, hk0, hk1, hgr, ho1⟩
    replace hkv := Lib.hid hkv
    have hG1 := hG0.call hgr ho1
    have hl1 := hl0.grownG hgr hg
    clear hG0 hl0 hgr
    obtain ⟨kc, -⟩ := ho1.facts
    have k0 : _ = some (Value.slice xa l.length xc) := kc 0
    have k1 : _ = some (Value.int .i64 (at' + 1)) := kc 1
    have k3 : _ = some (Value.int .i64 (lf - 1)) := kc 3
    have hgl := ho1.lt
    clear kc
    generalize up noH W w1 = H1 at hG1
    replace ih := Lib.hid ih
    by_cases d1 : d = 0
    · have hdj : Hid (treeF l cl d at' lf = leafF l cl (at' + 1)) := Lib.hid (treeF_leaf (Or.inl d1))
      subst d1
      skip
      go_wp2_with fail
      (refine wp_region_I 25 (by kernel_rfl) (by kernel_rfl) ?_; simp only [List.toList_toArray, List.take_succ_cons, List.take_zero, List.drop_succ_cons, List.drop_zero])
      (repeat (first | (refine walkI_no rfl (by simp) rfl rfl rfl ?_ ?_; (focus (simp [undef]; done)); (try simp only [List.nil_append, List.cons_append])) | (refine wiA rfl (by simp) rfl ?_; (try simp only [List.nil_append, List.cons_append])) | (refine wyA rfl (by simp) rfl rfl rfl ?_; (try simp only [List.nil_append, List.cons_append]))))
      (refine walkI_nil ?_; simp only [List.nil_append, List.cons_append, fins, Is, forall_eq, Act.put, List.setIfInBounds_toArray, List.set_cons_zero, List.set_cons_succ])
      intro w2 hx2
      have hG2 := hG1.step (fun w0 _ m => m.ext hx2)
      have ho2 := ho1.keep hx2
      go_wp2_with fail
      refine (leaf_c l _ g (at' + 1) cl (lf - 1) w2 (hl1.trans hx2.ple) hr hg ho2 (by omega) (by omega) hc0 hc1).mono ?_
      rintro e w3 ⟨f, a3, c3, at2, rfl, hF, hwf, hkd, hgr, ho3, g1, g2, g3⟩
      replace g3 := Lib.hid g3
      have hG3 := hG2.call hgr ho3
      have hF3 := mono_FmR _ _ _ _ (up_mono (noH_le H1)) hF
      have ob := hG3.box 0 rfl
      obtain ⟨uc, uf⟩ := ob.facts
      have ul := ob.lt
      have q0' : _ = some (Value.int .i64 0) := uc 0
      have q1' : _ = some (Value.int .i64 0) := uc 1
      have q2' : _ = some (Value.slice none 0 0) := uc 2
      have q3' : _ = some (Value.slice none 0 0) := uc 3
      have hG4 := hG3.set4 0 rfl (.int .i64 f.op) (.int .i64 f.n) (.slice a3 f.inn.length c3) (.slice none 0 0)
      simp only [List.set_cons_zero] at hG4
      have hkl : f.kids.length = 0 := by rw [hkd]; rfl
      have hsz := size_leaf' hkd
      have hdp := deep_leaf hkd
      clear uc hG1 hG2 hG3
      go_wp2_with fail
      generalize ((((w3.setCell _ _).setCell _ _).setCell _ _).setCell _ _) = w9 at *
      obtain ⟨q, -⟩ := (hG4.box 0 rfl).facts
      have q0 : _ = some (Value.int .i64 f.op) := q 0
      have q1 : _ = some (Value.int .i64 f.n) := q 1
      have q2 : _ = some (Value.slice a3 f.inn.length c3) := q 2
      have q3 : _ = some (Value.slice none 0 0) := q 3
      refine bodyPost_ret (v := .agg #[.int .i64 f.op, .int .i64 f.n, .slice a3 f.inn.length c3, .slice none 0 0]) (by simp [results, Tryz.results68, go_sem, q0, q1, q2, q3]) rfl ?_
      exact ⟨f, a3, c3, none, 0, at2, by rw [fmV, hkl], mono_FmR _ _ _ _ hG4.ub (by have h := hF3; unfold fmC at h ⊢; rw [hkl] at h ⊢; exact h), hwf, ⟨⟨by rw [hsz]; exact szP_1 _, by omega⟩, Lib.hid (by rw [hdj.out]; exact g3.out)⟩, hG4.grown, by rw [hsz]; exact hG4.own, by omega, by omega⟩
    have b1 : decide ((d : Int) + 1 ≤ 1) = false := by simp; omega
    by_cases c2 : lf - 1 < 3
    · have hdj : Hid (treeF l cl d at' lf = leafF l cl (at' + 1)) := Lib.hid (treeF_leaf (Or.inr (Or.inl c2)))
      have b2 : decide (lf - 1 < 3) = true := by simpa using c2
      skip
      go_wp2_with fail
      (refine wp_region_I 25 (by kernel_rfl) (by kernel_rfl) ?_; simp only [List.toList_toArray, List.take_succ_cons, List.take_zero, List.drop_succ_cons, List.drop_zero])
      (repeat (first | (refine walkI_no rfl (by simp) rfl rfl rfl ?_ ?_; (focus (simp [undef]; done)); (try simp only [List.nil_append, List.cons_append])) | (refine wiA rfl (by simp) rfl ?_; (try simp only [List.nil_append, List.cons_append])) | (refine wyA rfl (by simp) rfl rfl rfl ?_; (try simp only [List.nil_append, List.cons_append]))))
      (refine walkI_nil ?_; simp only [List.nil_append, List.cons_append, fins, Is, forall_eq, Act.put, List.setIfInBounds_toArray, List.set_cons_zero, List.set_cons_succ])
      intro w2 hx2
      have hG2 := hG1.step (fun w0 _ m => m.ext hx2)
      have ho2 := ho1.keep hx2
      go_wp2_with fail
      refine (leaf_c l _ g (at' + 1) cl (lf - 1) w2 (hl1.trans hx2.ple) hr hg ho2 (by omega) (by omega) hc0 hc1).mono ?_
      rintro e w3 ⟨f, a3, c3, at2, rfl, hF, hwf, hkd, hgr, ho3, g1, g2, g3⟩
      replace g3 := Lib.hid g3
      have hG3 := hG2.call hgr ho3
      have hF3 := mono_FmR _ _ _ _ (up_mono (noH_le H1)) hF
      have ob := hG3.box 0 rfl
      obtain ⟨uc, uf⟩ := ob.facts
      have ul := ob.lt
      have q0' : _ = some (Value.int .i64 0) := uc 0
      have q1' : _ = some (Value.int .i64 0) := uc 1
      have q2' : _ = some (Value.slice none 0 0) := uc 2
      have q3' : _ = some (Value.slice none 0 0) := uc 3
      have hG4 := hG3.set4 0 rfl (.int .i64 f.op) (.int .i64 f.n) (.slice a3 f.inn.length c3) (.slice none 0 0)
      simp only [List.set_cons_zero] at hG4
      have hkl : f.kids.length = 0 := by rw [hkd]; rfl
      have hsz := size_leaf' hkd
      have hdp := deep_leaf hkd
      clear uc hG1 hG2 hG3
      go_wp2_with fail
      generalize ((((w3.setCell _ _).setCell _ _).setCell _ _).setCell _ _) = w9 at *
      obtain ⟨q, -⟩ := (hG4.box 0 rfl).facts
      have q0 : _ = some (Value.int .i64 f.op) := q 0
      have q1 : _ = some (Value.int .i64 f.n) := q 1
      have q2 : _ = some (Value.slice a3 f.inn.length c3) := q 2
      have q3 : _ = some (Value.slice none 0 0) := q 3
      refine bodyPost_ret (v := .agg #[.int .i64 f.op, .int .i64 f.n, .slice a3 f.inn.length c3, .slice none 0 0]) (by simp [results, Tryz.results68, go_sem, q0, q1, q2, q3]) rfl ?_
      exact ⟨f, a3, c3, none, 0, at2, by rw [fmV, hkl], mono_FmR _ _ _ _ hG4.ub (by have h := hF3; unfold fmC at h ⊢; rw [hkl] at h ⊢; exact h), hwf, ⟨⟨by rw [hsz]; exact szP_1 _, by omega⟩, Lib.hid (by rw [hdj.out]; exact g3.out)⟩, hG4.grown, by rw [hsz]; exact hG4.own, by omega, by omega⟩
    have b2 : decide (lf - 1 < 3) = false := by simpa using c2
    by_cases c3 : (l.length : Int) < at' + 1
    · have hdj : Hid (treeF l cl d at' lf = leafF l cl (at' + 1)) := Lib.hid (treeF_leaf (Or.inr (Or.inr (Or.inl c3))))
      have b3 : decide ((l.length : Int) < at' + 1) = true := by simpa using c3
      skip
      go_wp2_with fail
      (refine wp_region_I 25 (by kernel_rfl) (by kernel_rfl) ?_; simp only [List.toList_toArray, List.take_succ_cons, List.take_zero, List.drop_succ_cons, List.drop_zero])
      (repeat (first | (refine walkI_no rfl (by simp) rfl rfl rfl ?_ ?_; (focus (simp [undef]; done)); (try simp only [List.nil_append, List.cons_append])) | (refine wiA rfl (by simp) rfl ?_; (try simp only [List.nil_append, List.cons_append])) | (refine wyA rfl (by simp) rfl rfl rfl ?_; (try simp only [List.nil_append, List.cons_append]))))
      (refine walkI_nil ?_; simp only [List.nil_append, List.cons_append, fins, Is, forall_eq, Act.put, List.setIfInBounds_toArray, List.set_cons_zero, List.set_cons_succ])
      intro w2 hx2
      have hG2 := hG1.step (fun w0 _ m => m.ext hx2)
      have ho2 := ho1.keep hx2
      go_wp2_with fail
      refine (leaf_c l _ g (at' + 1) cl (lf - 1) w2 (hl1.trans hx2.ple) hr hg ho2 (by omega) (by omega) hc0 hc1).mono ?_
      rintro e w3 ⟨f, a3, c3, at2, rfl, hF, hwf, hkd, hgr, ho3, g1, g2, g3⟩
      replace g3 := Lib.hid g3
      have hG3 := hG2.call hgr ho3
      have hF3 := mono_FmR _ _ _ _ (up_mono (noH_le H1)) hF
      have ob := hG3.box 0 rfl
      obtain ⟨uc, uf⟩ := ob.facts
      have ul := ob.lt
      have q0' : _ = some (Value.int .i64 0) := uc 0
      have q1' : _ = some (Value.int .i64 0) := uc 1
      have q2' : _ = some (Value.slice none 0 0) := uc 2
      have q3' : _ = some (Value.slice none 0 0) := uc 3
      have hG4 := hG3.set4 0 rfl (.int .i64 f.op) (.int .i64 f.n) (.slice a3 f.inn.length c3) (.slice none 0 0)
      simp only [List.set_cons_zero] at hG4
      have hkl : f.kids.length = 0 := by rw [hkd]; rfl
      have hsz := size_leaf' hkd
      have hdp := deep_leaf hkd
      clear uc hG1 hG2 hG3
      go_wp2_with fail
      generalize ((((w3.setCell _ _).setCell _ _).setCell _ _).setCell _ _) = w9 at *
      obtain ⟨q, -⟩ := (hG4.box 0 rfl).facts
      have q0 : _ = some (Value.int .i64 f.op) := q 0
      have q1 : _ = some (Value.int .i64 f.n) := q 1
      have q2 : _ = some (Value.slice a3 f.inn.length c3) := q 2
      have q3 : _ = some (Value.slice none 0 0) := q 3
      refine bodyPost_ret (v := .agg #[.int .i64 f.op, .int .i64 f.n, .slice a3 f.inn.length c3, .slice none 0 0]) (by simp [results, Tryz.results68, go_sem, q0, q1, q2, q3]) rfl ?_
      exact ⟨f, a3, c3, none, 0, at2, by rw [fmV, hkl], mono_FmR _ _ _ _ hG4.ub (by have h := hF3; unfold fmC at h ⊢; rw [hkl] at h ⊢; exact h), hwf, ⟨⟨by rw [hsz]; exact szP_1 _, by omega⟩, Lib.hid (by rw [hdj.out]; exact g3.out)⟩, hG4.grown, by rw [hsz]; exact hG4.own, by omega, by omega⟩
    have b3 : decide ((l.length : Int) < at' + 1) = false := by simpa using c3
    by_cases c4 : k < 3
    · have hdj : Hid (treeF l cl d at' lf = leafF l cl (at' + 1)) := Lib.hid (treeF_leaf (Or.inr (Or.inr (Or.inr (by rw [← hkv.out]; exact c4)))))
      have b4 : decide (k < 3) = true := by simpa using c4
      skip
      go_wp2_with fail
      (refine wp_region_I 25 (by kernel_rfl) (by kernel_rfl) ?_; simp only [List.toList_toArray, List.take_succ_cons, List.take_zero, List.drop_succ_cons, List.drop_zero])
      (repeat (first | (refine walkI_no rfl (by simp) rfl rfl rfl ?_ ?_; (focus (simp [undef]; done)); (try simp only [List.nil_append, List.cons_append])) | (refine wiA rfl (by simp) rfl ?_; (try simp only [List.nil_append, List.cons_append])) | (refine wyA rfl (by simp) rfl rfl rfl ?_; (try simp only [List.nil_append, List.cons_append]))))
      (refine walkI_nil ?_; simp only [List.nil_append, List.cons_append, fins, Is, forall_eq, Act.put, List.setIfInBounds_toArray, List.set_cons_zero, List.set_cons_succ])
      intro w2 hx2
      have hG2 := hG1.step (fun w0 _ m => m.ext hx2)
      have ho2 := ho1.keep hx2
      go_wp2_with fail
      refine (leaf_c l _ g (at' + 1) cl (lf - 1) w2 (hl1.trans hx2.ple) hr hg ho2 (by omega) (by omega) hc0 hc1).mono ?_
      rintro e w3 ⟨f, a3, c3, at2, rfl, hF, hwf, hkd, hgr, ho3, g1, g2, g3⟩
      replace g3 := Lib.hid g3
      have hG3 := hG2.call hgr ho3
      have hF3 := mono_FmR _ _ _ _ (up_mono (noH_le H1)) hF
      have ob := hG3.box 0 rfl
      obtain ⟨uc, uf⟩ := ob.facts
      have ul := ob.lt
      have q0' : _ = some (Value.int .i64 0) := uc 0
      have q1' : _ = some (Value.int .i64 0) := uc 1
      have q2' : _ = some (Value.slice none 0 0) := uc 2
      have q3' : _ = some (Value.slice none 0 0) := uc 3
      have hG4 := hG3.set4 0 rfl (.int .i64 f.op) (.int .i64 f.n) (.slice a3 f.inn.length c3) (.slice none 0 0)
      simp only [List.set_cons_zero] at hG4
      have hkl : f.kids.length = 0 := by rw [hkd]; rfl
      have hsz := size_leaf' hkd
      have hdp := deep_leaf hkd
      clear uc hG1 hG2 hG3
      go_wp2_with fail
      generalize ((((w3.setCell _ _).setCell _ _).setCell _ _).setCell _ _) = w9 at *
      obtain ⟨q, -⟩ := (hG4.box 0 rfl).facts
      have q0 : _ = some (Value.int .i64 f.op) := q 0
      have q1 : _ = some (Value.int .i64 f.n) := q 1
      have q2 : _ = some (Value.slice a3 f.inn.length c3) := q 2
      have q3 : _ = some (Value.slice none 0 0) := q 3
      refine bodyPost_ret (v := .agg #[.int .i64 f.op, .int .i64 f.n, .slice a3 f.inn.length c3, .slice none 0 0]) (by simp [results, Tryz.results68, go_sem, q0, q1, q2, q3]) rfl ?_
      exact ⟨f, a3, c3, none, 0, at2, by rw [fmV, hkl], mono_FmR _ _ _ _ hG4.ub (by have h := hF3; unfold fmC at h ⊢; rw [hkl] at h ⊢; exact h), hwf, ⟨⟨by rw [hsz]; exact szP_1 _, by omega⟩, Lib.hid (by rw [hdj.out]; exact g3.out)⟩, hG4.grown, by rw [hsz]; exact hG4.own, by omega, by omega⟩
    have b4 : decide (k < 3) = false := by simpa using c4
    go_wp2_with fail
    (refine wp_region_I 25 (by kernel_rfl) (by kernel_rfl) ?_; simp only [List.toList_toArray, List.take_succ_cons, List.take_zero, List.drop_succ_cons, List.drop_zero])
    (repeat (first | (refine walkI_no rfl (by simp) rfl rfl rfl ?_ ?_; (focus (simp [undef]; done)); (try simp only [List.nil_append, List.cons_append])) | (refine wiA rfl (by simp) rfl ?_; (try simp only [List.nil_append, List.cons_append])) | (refine wyA rfl (by simp) rfl rfl rfl ?_; (try simp only [List.nil_append, List.cons_append]))))
    (refine walkI_nil ?_; simp only [List.nil_append, List.cons_append, fins, Is, forall_eq, Act.put, List.setIfInBounds_toArray, List.set_cons_zero, List.set_cons_succ])
    intro w2 hx2
    have hG2 := hG1.step (fun w0 _ m => m.ext hx2)
    have ho2 := ho1.keep hx2
    have hl2 := hl1.trans hx2.ple
    clear hG1 ho1 hl1 k0 k1 k3 hgl b1 b2 b3 b4 hx2
    obtain ⟨e, rfl⟩ : ∃ e, d = e + 1 := ⟨d - 1, by omega⟩
    by_cases k5 : k < 5
    · have b5 : decide (k < 5) = true := by simpa using k5
      go_wp2_with fail
      refine (ih.out e (by omega) (by omega) (at' + 1) (lf - 1) w2 hl2 ho2 (by omega) (by omega) (by omega) (by omega)).mono ?_
      rintro e' w3 ⟨f, a3, c3, a4, c4, at2, rfl, hF, hwf, ⟨⟨hs, hdp⟩, htr⟩, hgr, ho3, g1, g2⟩
      have hG3 := hG2.call hgr ho3
      have hF3 := mono_FmR _ _ _ _ (up_mono (noH_le H1)) hF
      generalize up H1 w2 w3 = H3 at *
      have ob := hG3.box 0 rfl
      obtain ⟨uc, uf⟩ := ob.facts
      have ul := ob.lt
      have q0' : _ = some (Value.int .i64 0) := uc 0
      have q1' : _ = some (Value.int .i64 0) := uc 1
      have q2' : _ = some (Value.slice none 0 0) := uc 2
      have q3' : _ = some (Value.slice none 0 0) := uc 3
      clear uc
      have hG4 := (hG3.set4 0 rfl (.int .i64 3) (.int .i64 0) (.slice none 0 0) (.slice (some ⟨w3.heap.size, 0, none⟩) 1 1)).step (fun w0 _ m => m.new' #[.int .i64 f.op, .int .i64 f.n, .slice a3 f.inn.length c3, .slice a4 f.kids.length c4] 50 (n := w3.heap.size) (by simp))
      simp only [List.set_cons_zero, List.cons_append, List.nil_append] at hG4
      have hG5 := hG4.step (fun w0 _ m => m.asOwn 1 rfl mono_FmR (sz := 4) (xs := [f]) (n := 1) (by simp) (by simp [maxLen]) rfl ⟨_, [], rfl, rfl, hF3, rfl⟩)
      simp only [List.set_cons_zero, List.set_cons_succ] at hG5
      obtain ⟨H6, hl6, hG6, hR6⟩ := hG5.freezeS 1 rfl
      simp only [List.set_cons_zero, List.set_cons_succ] at hG6
      clear hG3 hG4 hG5
      go_wp2_with fail
      generalize World.alloc _ _ = w9 at *
      obtain ⟨q, -⟩ := (hG6.box 0 rfl).facts
      have q0 : _ = some (Value.int .i64 3) := q 0
      have q1 : _ = some (Value.int .i64 0) := q 1
      have q2 : _ = some (Value.slice none 0 0) := q 2
      have q3 : _ = some (Value.slice (some ⟨w3.heap.size, 0, none⟩) 1 1) := q 3
      refine bodyPost_ret (v := .agg #[.int .i64 3, .int .i64 0, .slice none 0 0, .slice (some ⟨w3.heap.size, 0, none⟩) 1 1]) (by simp [results, Tryz.results68, go_sem, q0, q1, q2, q3]) rfl ?_
      refine ⟨.mk 3 0 [] [f], none, 0, some ⟨w3.heap.size, 0, none⟩, 1, at2, rfl, mono_FmR _ _ _ _ hG6.ub (FmR.of (by simp [Fm.op, I64]) (by simp [Fm.n, I64]) (SliceRep.nil _ _ _) hR6), by rw [wholeN_eq]; simp [Fm.kids, Fm.op, hwf, formed1_mk], ⟨⟨?_, ?_⟩, Lib.hid (treeF_3 hkv.out (by omega) (by omega) (by omega) (by omega) htr.out)⟩, hG6.grown, ?_, by omega, ?_⟩
      · rw [size_mk]; simp only [sumN]; unfold SzP at *; omega
      · rw [deep_mk]; simp only [maxN]; omega
      · rw [size_mk]; simp only [sumN]; have h := hG6.own; rwa [show lf - ((1 + (f.size + 0) : Nat) : Int) = lf - 1 - f.size by omega]
      · rw [size_mk]; simp only [sumN]; omega
    have b5 : decide (k < 5) = false := by simpa using k5
    by_cases k7 : k < 7
    · have b7 : decide (k < 7) = true := by simpa using k7
      go_wp2_with fail
      refine (ih.out e (by omega) (by omega) (at' + 1) (lf - 1) w2 hl2 ho2 (by omega) (by omega) (by omega) (by omega)).mono ?_
      rintro e' w3 ⟨f, a3, c3, a4, c4, at2, rfl, hF, hwf, ⟨⟨hs, hdp⟩, htr⟩, hgr, ho3, g1, g2⟩
      have hG3 := hG2.call hgr ho3
      have hF3 := mono_FmR _ _ _ _ (up_mono (noH_le H1)) hF
      generalize up H1 w2 w3 = H3 at *
      go_wp2_with fail
      refine (not7_c f a3 c3 a4 c4 w3 hG3.ple hF3).mono ?_
      rintro e' w4 ⟨bb, rfl, hx4, hF4⟩
      replace hG3 := hG3.step (fun w0 _ m => m.up hx4)
      have ob := hG3.box 0 rfl
      obtain ⟨uc, uf⟩ := ob.facts
      have ul := ob.lt
      have q0' : _ = some (Value.int .i64 0) := uc 0
      have q1' : _ = some (Value.int .i64 0) := uc 1
      have q2' : _ = some (Value.slice none 0 0) := uc 2
      have q3' : _ = some (Value.slice none 0 0) := uc 3
      clear uc
      have hG6 := hG3.set4 0 rfl (.int .i64 6) (.int .i64 0) (.slice none 0 0) (.slice (some ⟨bb, 0, none⟩) 1 1)
      simp only [List.set_cons_zero] at hG6
      clear hG3
      go_wp2_with fail
      generalize World.setCell _ _ _ = w9 at *
      obtain ⟨q, -⟩ := (hG6.box 0 rfl).facts
      have q0 : _ = some (Value.int .i64 6) := q 0
      have q1 : _ = some (Value.int .i64 0) := q 1
      have q2 : _ = some (Value.slice none 0 0) := q 2
      have q3 : _ = some (Value.slice (some ⟨bb, 0, none⟩) 1 1) := q 3
      refine bodyPost_ret (v := .agg #[.int .i64 6, .int .i64 0, .slice none 0 0, .slice (some ⟨bb, 0, none⟩) 1 1]) (by simp [results, Tryz.results68, go_sem, q0, q1, q2, q3]) rfl ?_
      refine ⟨.mk 6 0 [] [f], none, 0, some ⟨bb, 0, none⟩, 1, at2, rfl, mono_FmR _ _ _ _ hG6.ub hF4, by rw [wholeN_eq]; simp [Fm.kids, Fm.op, hwf, formed1_mk], ⟨⟨?_, ?_⟩, Lib.hid (treeF_6 hkv.out (by omega) (by omega) (by omega) (by omega) (by omega) htr.out)⟩, hG6.grown, ?_, by omega, ?_⟩
      · rw [size_mk]; simp only [sumN]; unfold SzP at *; omega
      · rw [deep_mk]; simp only [maxN]; omega
      · rw [size_mk]; simp only [sumN]; have h := hG6.own; rwa [show lf - ((1 + (f.size + 0) : Nat) : Int) = lf - 1 - f.size by omega]
      · rw [size_mk]; simp only [sumN]; omega
    have b7 : decide (k < 7) = false := by simpa using k7
    have hop : 4 ≤ 4 + k % 2 ∧ 4 + k % 2 ≤ 5 := by omega
    have hG3 := ((hG2.step (fun w0 _ m => (m.new #[.int .i64 (4 + k % 2), .int .i64 0, .slice none 0 0, .slice none 0 0] 50))).step (fun w0 _ m => m.nil mono_FmR 4 50)).step (fun w0 _ m => m.ext (Ext.new _ (.cells #[.int .i64 2, .int .i64 2, .int .i64 2, .int .i64 3, .int .i64 1, .int .i64 0] 3)))
    simp only [List.cons_append, List.nil_append] at hG3
    have hli : Own ((w2.alloc (.cells #[.int .i64 (4 + k % 2), .int .i64 0, .slice none 0 0, .slice none 0 0] 50)).alloc (.cells #[.int .i64 2, .int .i64 2, .int .i64 2, .int .i64 3, .int .i64 1, .int .i64 0] 3)) (w2.heap.size + 1) #[.int .i64 2, .int .i64 2, .int .i64 2, .int .i64 3, .int .i64 1, .int .i64 0] 3 := oE
    have hl3 := hl2.trans (Ext.ple (show Ext w2 ((w2.alloc (.cells #[.int .i64 (4 + k % 2), .int .i64 0, .slice none 0 0, .slice none 0 0] 50)).alloc (.cells #[.int .i64 2, .int .i64 2, .int .i64 2, .int .i64 3, .int .i64 1, .int .i64 0] 3)) from xE))
    have hgw := hG2.lt
    have hgw2 := hG2.size
    clear hG2 ho2 hl2
    go_wp2_with fail
    generalize hB : w2.heap.size = B at *
    generalize World.alloc _ _ = W3 at *
    refine (mnext_c l _ g (at' + 1) cl (lf - 1) 6 W3 hl3 hr hg hG3.own (by omega) (by omega) (by omega) (by omega)).mono ?_
    rintro e' w5 ⟨qq, rfl, hqv, hq0, hq1, hgr, ho5⟩
    replace hqv := Lib.hid hqv
    have hG5 := hG3.call hgr ho5
    have hl5 := hl3.grownG hgr hg
    replace hli := hli.grown hgr (by intro hh; cases hh; omega)
    clear hG3 hl3 hgr ho5
    obtain ⟨j, rfl⟩ : ∃ j : Nat, qq = j := ⟨qq.toNat, by omega⟩
    obtain ⟨nv, hnv, hnj, hcn⟩ : ∃ nv : Nat, nv ≤ 3 ∧ Hid (nv = [2, 2, 2, 3, 1, 0].getD j 0) ∧ w5.cell? ⟨B + 1, j, none⟩ = some (.int .i64 nv) := by
      rw [hli.facts.1 j]
      match j, hq1 with
      | 0, _ => exact ⟨2, by omega, Lib.hid rfl, rfl⟩
      | 1, _ => exact ⟨2, by omega, Lib.hid rfl, rfl⟩
      | 2, _ => exact ⟨2, by omega, Lib.hid rfl, rfl⟩
      | 3, _ => exact ⟨3, by omega, Lib.hid rfl, rfl⟩
      | 4, _ => exact ⟨1, by omega, Lib.hid rfl, rfl⟩
      | 5, _ => exact ⟨0, by omega, Lib.hid rfl, rfl⟩
    have hcl := cell_lt hcn
    have hj6 : j < 6 := by omega
    clear hli hq0 hq1
    go_wp2_with fail
    go_loopw [8] (fun i wr => ∃ (m : Nat) (kv : Value) (H : PH) (ks : List Fm) (atm : Int), m ≤ nv ∧ i = .int .i64 m ∧ ks.length = m ∧ MemG w g (mkA (.slice xa l.length xc) atm cl (lf - 1 - (sumN Fm.size ks : Nat))) 115 [box w.heap.size zeroFa 50, box B #[.int .i64 (4 + k % 2), .int .i64 0, .slice none 0 0, kv] 50, own mono_FmR 4 50 kv ks] H wr ∧
      KsP lf m (sumN Fm.size ks) ∧ (∀ f ∈ ks, wholeN cl f = true ∧ f.deep ≤ max 1 (e + 1)) ∧ at' + 1 + 1 ≤ atm ∧ atm ≤ at' + 1 + 1 + 4 * (sumN Fm.size ks : Nat) ∧ PLe Hl (ph wr) ∧ Hid (kidsG (treeF l cl e) (lf - 1) (at' + 1 + 1) m = (ks, atm))) (fun i _ => nv - (intOf i).toNat)
    case atStart => exact ⟨0, _, _, [], at' + 1 + 1, Nat.zero_le _, rfl, rfl, by simpa [sumN] using hG5, by unfold KsP; simp [sumN], by simp, by omega, by simp [sumN], hl5, Lib.hid rfl⟩
    case round =>
      obtain ⟨m, kv, H, ks, atm, hm, rfl, hkl, hGm, hKs, hall, ha0, ha1, hlm, hkg⟩ := hrel
      replace hkl := Lib.hid hkl
      obtain ⟨ka, kk, rfl, -⟩ := hGm.form 2 rfl
      have hb := ksP_bd hKs (by omega) h3
      by_cases hlt : m < nv
      · obtain ⟨kc, kf⟩ := (hGm.box 1 rfl).facts
        have k3 : _ = some (Value.slice ka ks.length kk) := kc 3
        have f3 := kf 3
        have hgl := (hGm.box 1 rfl).lt
        clear kc kf hG5 hcn
        go_wp2_with fail
        refine wp_region_any (by kernel_rfl) ?_
        change wpAny _ _ _ _ _ _ _ (World.drew _)
        replace hGm := hGm.step (fun w0 _ m => m.ext (Ext.rfl' wr).drew')
        replace hlm : PLe Hl (ph wr.drew) := hlm
        have hwe : IntKind.i64.wrap ((e : Int) + 1) = (e : Int) + 1 := by rw [IntKind.wrap_i64]; omega
        (refine wpAny_take (i := 0) (v := ?_) rfl (by kernel_rfl) (by kernel_rfl) (by kernel_rfl) (fun _ _ _ h => h) (Or.inl ⟨by rfl, ?_⟩) ?_; rotate_left; (focus ((intro w; go_simp); try (with_reducible rfl))); (try simp only [Act.put, List.setIfInBounds_toArray, List.set_cons_zero, List.set_cons_succ]))
        (refine wpAny_take (i := 2) (v := ?_) rfl (by kernel_rfl) (by kernel_rfl) (by kernel_rfl) (fun _ _ _ h => h) (Or.inl ⟨by rfl, ?_⟩) ?_; rotate_left; (focus ((intro w; go_simp); try (with_reducible rfl))); (try simp only [Act.put, List.setIfInBounds_toArray, List.set_cons_zero, List.set_cons_succ]))
        (refine wpAny_take (i := 3) (v := ?_) rfl (by kernel_rfl) (by kernel_rfl) (by kernel_rfl) (fun _ _ _ h => h) (Or.inl ⟨by rfl, ?_⟩) ?_; rotate_left; (focus ((intro w; go_simp); try (with_reducible rfl))); (try simp only [Act.put, List.setIfInBounds_toArray, List.set_cons_zero, List.set_cons_succ]))
        (refine wpAny_take (i := 4) (v := ?_) rfl (by kernel_rfl) (by kernel_rfl) (by kernel_rfl) (fun _ _ _ h => h) (Or.inl ⟨by rfl, ?_⟩) ?_; rotate_left; (focus ((intro w; go_simp); try (with_reducible rfl))); (try simp only [Act.put, List.setIfInBounds_toArray, List.set_cons_zero, List.set_cons_succ]))
        refine wpAny_ready (rs := [1, 5]) (by kernel_rfl) (by simp) ?_
        refine AllReady.cons rfl (fun K hK => ?_) (AllReady.cons rfl (fun K hK => ?_) AllReady.nil)
        · go_simp
          refine hK _ _ ?_
          clear hK K
          refine wpAny_ready (rs := [5]) (by kernel_rfl) (by simp) ?_; refine AllReady.cons rfl (fun K hK => ?_) AllReady.nil
          go_simp
          refine (ih.out e (by omega) (by omega) atm (lf - 1 - (sumN Fm.size ks : Nat)) _ hlm hGm.own (by omega) (by omega) (by omega) (by omega)).mono ?_
          rintro e' w4 ⟨f, a3, c3, a4, c4, at2, rfl, hF, hwf, ⟨⟨hs, hdp⟩, htr⟩, hgr, ho4, g1, g2⟩
          refine hK _ _ ?_
          clear hK K
          replace hlm := hlm.grownG hgr hg
          replace hGm := hGm.call hgr ho4
          have hF4 := mono_FmR _ _ _ _ (up_mono (noH_le H)) hF
          generalize up H _ w4 = H4 at hGm hF4
          obtain ⟨kc, kf⟩ := (hGm.box 1 rfl).facts
          have k3 : _ = some (Value.slice ka ks.length kk) := kc 3
          have f3 := kf 3
          have hgl := (hGm.box 1 rfl).lt
          clear kc kf hgr ho4 hF
          (refine wpAny_ready (rs := [6]) (by kernel_rfl) (by simp) ?_; refine AllReady.cons rfl (fun K hK => ?_) AllReady.nil; go_simp; refine hK _ _ ?_; clear hK K)
          have hGa := hGm.step (fun w0 _ m => m.ext (Ext.new w4 (.cells #[.int .i64 f.op, .int .i64 f.n, .slice a3 f.inn.length c3, .slice a4 f.kids.length c4] 50)))
          have hS := Src.lit1 (E := FmR) (H := H4) (w := w4.alloc (.cells #[.int .i64 f.op, .int .i64 f.n, .slice a3 f.inn.length c3, .slice a4 f.kids.length c4] 50)) (b := w4.heap.size) (sz := 4) hF4 rfl (fun j => by rw [(Own.new w4 #[.int .i64 f.op, .int .i64 f.n, .slice a3 f.inn.length c3, .slice a4 f.kids.length c4] 50).facts.1 j]; simp [fmC])
          obtain ⟨w0, z1, z2, z3, z4, z5⟩ := hGa
          refine wpAny_ready (rs := [7]) (by kernel_rfl) (by simp) ?_; refine AllReady.cons rfl (fun K hK => ?_) AllReady.nil
          refine oper_append_M (hm := mono_FmR) (v := .slice ka ks.length kk) (xs := ks) (ys := [f]) 2 _ _ 45 rfl Tryz.underlying45 infoFm rfl rfl rfl z4 rfl hS one_FmR (by have := hkl.out; simp; omega) (by have := hkl.out; simp; omega) ?_
          intro v' w6 hM6 hgr6
          refine hK _ _ ?_
          clear hK K
          have hG6 := MemG.re z1 z2 z3 z4 z5 hM6
          try simp only [List.set_cons_succ, List.set_cons_zero] at hG6 hM6
          obtain ⟨na, nc, rfl, -⟩ := hM6.form 2 rfl
          clear z1 z3 z4 z5 hM6 hS hGm
          obtain ⟨uc, uf⟩ := (hG6.box 1 rfl).facts
          have uf3 := uf 3
          have uc3 : _ = some (Value.slice ka ks.length kk) := uc 3
          have ul := (hG6.box 1 rfl).lt
          have hG7 := hG6.step (fun w0 _ m => m.set 1 rfl 3 (.slice na (ks ++ [f]).length nc))
          simp only [List.set_cons_succ, List.set_cons_zero, List.setIfInBounds_toArray] at hG7
          have hl7 := hl.grownG hG7.grown hg
          rw [show (ks ++ [f]).length = ks.length + 1 by simp] at hG7 hl7
          clear uc uf hG6
          (refine wpAny_take (i := 8) (v := ?_) rfl (by kernel_rfl) (by kernel_rfl) (by kernel_rfl) (fun _ _ _ h => h) (Or.inl ⟨by rfl, ?_⟩) ?_; rotate_left; (focus ((intro w; go_simp); try (with_reducible rfl))); (try simp only [Act.put, List.setIfInBounds_toArray, List.set_cons_zero, List.set_cons_succ]))
          (refine wpAny_ready (rs := [9]) (by kernel_rfl) (by simp) ?_; refine AllReady.cons rfl (fun K hK => ?_) AllReady.nil; go_simp; refine hK _ _ ?_; clear hK K)
          refine wpAny_done (by kernel_rfl) ?_ _
          try simp only [List.getElem_toArray, List.getElem_cons_succ, List.getElem_cons_zero, Act.put, List.setIfInBounds_toArray, List.set_cons_zero, List.set_cons_succ]
          go_wp2_with fail
          go_roundw
          case rel =>
            have hsum : sumN Fm.size (ks ++ [f]) = sumN Fm.size ks + f.size := sumN_app ks f
            refine ⟨m + 1, .slice na (ks.length + 1) nc, H4, ks ++ [f], at2, by omega, by go_num, by simp [hkl.out], ?_, ?_, ?_, by omega, by omega, hl7, Lib.hid (kidsG_step hkg.out htr.out)⟩
            · rw [hsum]
              rwa [show lf - 1 - ((sumN Fm.size ks + f.size : Nat) : Int) = lf - 1 - (sumN Fm.size ks : Nat) - f.size by omega]
            · rw [hsum]; exact ksP_step hKs hs
            · intro x hx
              rcases List.mem_append.1 hx with hx | hx
              · exact hall x hx
              · rw [List.mem_singleton.1 hx]; exact ⟨hwf, hdp⟩
          case measure => simp [intOf]; omega
        · skip
          go_simp
          refine (ih.out e (by omega) (by omega) atm (lf - 1 - (sumN Fm.size ks : Nat)) _ hlm hGm.own (by omega) (by omega) (by omega) (by omega)).mono ?_
          rintro e' w4 ⟨f, a3, c3, a4, c4, at2, rfl, hF, hwf, ⟨⟨hs, hdp⟩, htr⟩, hgr, ho4, g1, g2⟩
          refine hK _ _ ?_
          clear hK K
          replace hlm := hlm.grownG hgr hg
          replace hGm := hGm.call hgr ho4
          have hF4 := mono_FmR _ _ _ _ (up_mono (noH_le H)) hF
          generalize up H _ w4 = H4 at hGm hF4
          obtain ⟨kc, kf⟩ := (hGm.box 1 rfl).facts
          have k3 : _ = some (Value.slice ka ks.length kk) := kc 3
          have f3 := kf 3
          have hgl := (hGm.box 1 rfl).lt
          clear kc kf hgr ho4 hF
          refine wpAny_ready (rs := [1, 6]) (by kernel_rfl) (by simp) ?_
          refine AllReady.cons rfl (fun K hK => ?_) (AllReady.cons rfl (fun K hK => ?_) AllReady.nil)
          · go_simp
            refine hK _ _ ?_
            clear hK K
            (refine wpAny_ready (rs := [6]) (by kernel_rfl) (by simp) ?_; refine AllReady.cons rfl (fun K hK => ?_) AllReady.nil; go_simp; refine hK _ _ ?_; clear hK K)
            have hGa := hGm.step (fun w0 _ m => m.ext (Ext.new w4 (.cells #[.int .i64 f.op, .int .i64 f.n, .slice a3 f.inn.length c3, .slice a4 f.kids.length c4] 50)))
            have hS := Src.lit1 (E := FmR) (H := H4) (w := w4.alloc (.cells #[.int .i64 f.op, .int .i64 f.n, .slice a3 f.inn.length c3, .slice a4 f.kids.length c4] 50)) (b := w4.heap.size) (sz := 4) hF4 rfl (fun j => by rw [(Own.new w4 #[.int .i64 f.op, .int .i64 f.n, .slice a3 f.inn.length c3, .slice a4 f.kids.length c4] 50).facts.1 j]; simp [fmC])
            obtain ⟨w0, z1, z2, z3, z4, z5⟩ := hGa
            refine wpAny_ready (rs := [7]) (by kernel_rfl) (by simp) ?_; refine AllReady.cons rfl (fun K hK => ?_) AllReady.nil
            refine oper_append_M (hm := mono_FmR) (v := .slice ka ks.length kk) (xs := ks) (ys := [f]) 2 _ _ 45 rfl Tryz.underlying45 infoFm rfl rfl rfl z4 rfl hS one_FmR (by have := hkl.out; simp; omega) (by have := hkl.out; simp; omega) ?_
            intro v' w6 hM6 hgr6
            refine hK _ _ ?_
            clear hK K
            have hG6 := MemG.re z1 z2 z3 z4 z5 hM6
            try simp only [List.set_cons_succ, List.set_cons_zero] at hG6 hM6
            obtain ⟨na, nc, rfl, -⟩ := hM6.form 2 rfl
            clear z1 z3 z4 z5 hM6 hS hGm
            obtain ⟨uc, uf⟩ := (hG6.box 1 rfl).facts
            have uf3 := uf 3
            have uc3 : _ = some (Value.slice ka ks.length kk) := uc 3
            have ul := (hG6.box 1 rfl).lt
            have hG7 := hG6.step (fun w0 _ m => m.set 1 rfl 3 (.slice na (ks ++ [f]).length nc))
            simp only [List.set_cons_succ, List.set_cons_zero, List.setIfInBounds_toArray] at hG7
            have hl7 := hl.grownG hG7.grown hg
            rw [show (ks ++ [f]).length = ks.length + 1 by simp] at hG7 hl7
            clear uc uf hG6
            (refine wpAny_take (i := 8) (v := ?_) rfl (by kernel_rfl) (by kernel_rfl) (by kernel_rfl) (fun _ _ _ h => h) (Or.inl ⟨by rfl, ?_⟩) ?_; rotate_left; (focus ((intro w; go_simp); try (with_reducible rfl))); (try simp only [Act.put, List.setIfInBounds_toArray, List.set_cons_zero, List.set_cons_succ]))
            (refine wpAny_ready (rs := [9]) (by kernel_rfl) (by simp) ?_; refine AllReady.cons rfl (fun K hK => ?_) AllReady.nil; go_simp; refine hK _ _ ?_; clear hK K)
            refine wpAny_done (by kernel_rfl) ?_ _
            try simp only [List.getElem_toArray, List.getElem_cons_succ, List.getElem_cons_zero, Act.put, List.setIfInBounds_toArray, List.set_cons_zero, List.set_cons_succ]
            go_wp2_with fail
            go_roundw
            case rel =>
              have hsum : sumN Fm.size (ks ++ [f]) = sumN Fm.size ks + f.size := sumN_app ks f
              refine ⟨m + 1, .slice na (ks.length + 1) nc, H4, ks ++ [f], at2, by omega, by go_num, by simp [hkl.out], ?_, ?_, ?_, by omega, by omega, hl7, Lib.hid (kidsG_step hkg.out htr.out)⟩
              · rw [hsum]
                rwa [show lf - 1 - ((sumN Fm.size ks + f.size : Nat) : Int) = lf - 1 - (sumN Fm.size ks : Nat) - f.size by omega]
              · rw [hsum]; exact ksP_step hKs hs
              · intro x hx
                rcases List.mem_append.1 hx with hx | hx
                · exact hall x hx
                · rw [List.mem_singleton.1 hx]; exact ⟨hwf, hdp⟩
            case measure => simp [intOf]; omega
          · go_simp
            refine hK _ _ ?_
            clear hK K
            (refine wpAny_ready (rs := [1]) (by kernel_rfl) (by simp) ?_; refine AllReady.cons rfl (fun K hK => ?_) AllReady.nil; go_simp; refine hK _ _ ?_; clear hK K)
            have hGa := hGm.step (fun w0 _ m => m.ext (Ext.new w4 (.cells #[.int .i64 f.op, .int .i64 f.n, .slice a3 f.inn.length c3, .slice a4 f.kids.length c4] 50)))
            have hS := Src.lit1 (E := FmR) (H := H4) (w := w4.alloc (.cells #[.int .i64 f.op, .int .i64 f.n, .slice a3 f.inn.length c3, .slice a4 f.kids.length c4] 50)) (b := w4.heap.size) (sz := 4) hF4 rfl (fun j => by rw [(Own.new w4 #[.int .i64 f.op, .int .i64 f.n, .slice a3 f.inn.length c3, .slice a4 f.kids.length c4] 50).facts.1 j]; simp [fmC])
            obtain ⟨w0, z1, z2, z3, z4, z5⟩ := hGa
            refine wpAny_ready (rs := [7]) (by kernel_rfl) (by simp) ?_; refine AllReady.cons rfl (fun K hK => ?_) AllReady.nil
            refine oper_append_M (hm := mono_FmR) (v := .slice ka ks.length kk) (xs := ks) (ys := [f]) 2 _ _ 45 rfl Tryz.underlying45 infoFm rfl rfl rfl z4 rfl hS one_FmR (by have := hkl.out; simp; omega) (by have := hkl.out; simp; omega) ?_
            intro v' w6 hM6 hgr6
            refine hK _ _ ?_
            clear hK K
            have hG6 := MemG.re z1 z2 z3 z4 z5 hM6
            try simp only [List.set_cons_succ, List.set_cons_zero] at hG6 hM6
            obtain ⟨na, nc, rfl, -⟩ := hM6.form 2 rfl
            clear z1 z3 z4 z5 hM6 hS hGm
            obtain ⟨uc, uf⟩ := (hG6.box 1 rfl).facts
            have uf3 := uf 3
            have uc3 : _ = some (Value.slice ka ks.length kk) := uc 3
            have ul := (hG6.box 1 rfl).lt
            have hG7 := hG6.step (fun w0 _ m => m.set 1 rfl 3 (.slice na (ks ++ [f]).length nc))
            simp only [List.set_cons_succ, List.set_cons_zero, List.setIfInBounds_toArray] at hG7
            have hl7 := hl.grownG hG7.grown hg
            rw [show (ks ++ [f]).length = ks.length + 1 by simp] at hG7 hl7
            clear uc uf hG6
            (refine wpAny_take (i := 8) (v := ?_) rfl (by kernel_rfl) (by kernel_rfl) (by kernel_rfl) (fun _ _ _ h => h) (Or.inl ⟨by rfl, ?_⟩) ?_; rotate_left; (focus ((intro w; go_simp); try (with_reducible rfl))); (try simp only [Act.put, List.setIfInBounds_toArray, List.set_cons_zero, List.set_cons_succ]))
            (refine wpAny_ready (rs := [9]) (by kernel_rfl) (by simp) ?_; refine AllReady.cons rfl (fun K hK => ?_) AllReady.nil; go_simp; refine hK _ _ ?_; clear hK K)
            refine wpAny_done (by kernel_rfl) ?_ _
            try simp only [List.getElem_toArray, List.getElem_cons_succ, List.getElem_cons_zero, Act.put, List.setIfInBounds_toArray, List.set_cons_zero, List.set_cons_succ]
            go_wp2_with fail
            go_roundw
            case rel =>
              have hsum : sumN Fm.size (ks ++ [f]) = sumN Fm.size ks + f.size := sumN_app ks f
              refine ⟨m + 1, .slice na (ks.length + 1) nc, H4, ks ++ [f], at2, by omega, by go_num, by simp [hkl.out], ?_, ?_, ?_, by omega, by omega, hl7, Lib.hid (kidsG_step hkg.out htr.out)⟩
              · rw [hsum]
                rwa [show lf - 1 - ((sumN Fm.size ks + f.size : Nat) : Int) = lf - 1 - (sumN Fm.size ks : Nat) - f.size by omega]
              · rw [hsum]; exact ksP_step hKs hs
              · intro x hx
                rcases List.mem_append.1 hx with hx | hx
                · exact hall x hx
                · rw [List.mem_singleton.1 hx]; exact ⟨hwf, hdp⟩
            case measure => simp [intOf]; omega
      · have hmn : m = nv := by omega
        obtain ⟨kc, kf⟩ := (hGm.box 1 rfl).facts
        have q0' : _ = some (Value.int .i64 (4 + k % 2)) := kc 0
        have q1' : _ = some (Value.int .i64 0) := kc 1
        have q2' : _ = some (Value.slice none 0 0) := kc 2
        have q3' : _ = some (Value.slice ka ks.length kk) := kc 3
        have hgl := (hGm.box 1 rfl).lt
        obtain ⟨uc, uf⟩ := (hGm.box 0 rfl).facts
        have u0' : _ = some (Value.int .i64 0) := uc 0
        have u1' : _ = some (Value.int .i64 0) := uc 1
        have u2' : _ = some (Value.slice none 0 0) := uc 2
        have u3' : _ = some (Value.slice none 0 0) := uc 3
        have ul := (hGm.box 0 rfl).lt
        clear kc kf uc hG5 hcn
        have hG8 := hGm.set4 0 rfl (.int .i64 (4 + k % 2)) (.int .i64 0) (.slice none 0 0) (.slice ka ks.length kk)
        simp only [List.set_cons_zero] at hG8
        obtain ⟨H9, hp9, hG9, hks⟩ := hG8.freezeS 2 rfl
        clear hG8
        go_wp2_with fail
        generalize ((((wr.setCell _ _).setCell _ _).setCell _ _).setCell _ _) = w9 at *
        obtain ⟨q, -⟩ := (hG9.box 0 rfl).facts
        have q0 : _ = some (Value.int .i64 (4 + k % 2)) := q 0
        have q1 : _ = some (Value.int .i64 0) := q 1
        have q2 : _ = some (Value.slice none 0 0) := q 2
        have q3 : _ = some (Value.slice ka ks.length kk) := q 3
        refine bodyPost_ret (v := .agg #[.int .i64 (4 + k % 2), .int .i64 0, .slice none 0 0, .slice ka ks.length kk]) (by simp [results, Tryz.results68, go_sem, q0, q1, q2, q3]) rfl ?_
        have hsz := size_mk (4 + k % 2) 0 [] ks
        have hdp := deep_mk (4 + k % 2) 0 [] ks
        have hmx : maxN Fm.deep ks ≤ max 1 (e + 1) := maxN_le fun x hx => (hall x hx).2
        exact ⟨.mk (4 + k % 2) 0 [] ks, none, 0, ka, kk, atm, rfl, mono_FmR _ _ _ _ hG9.ub (FmR.of (by simp [Fm.op, I64]; omega) (by simp [Fm.n, I64]) (SliceRep.nil _ _ _) hks), whole_ao hop (fun x hx => (hall x hx).1), ⟨⟨by rw [hsz]; exact szP_of hKs (by omega) (by omega), by omega⟩, Lib.hid (treeF_n hkv.out (by omega) (by omega) (by omega) (by omega) hqv.out hnj.out (hmn ▸ hkg.out))⟩, hG9.grown, by rw [hsz]; have h := hG9.own; rwa [show lf - 1 - ((sumN Fm.size ks : Nat) : Int) = lf - ((1 + sumN Fm.size ks : Nat) : Int) by omega] at h, by omega, by omega⟩
end Go.Proofs.YtnpnjcaomakehaaGreat
