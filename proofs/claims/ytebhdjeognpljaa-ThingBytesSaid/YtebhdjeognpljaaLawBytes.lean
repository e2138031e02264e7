/- ThingBytes: the walk of the law. -/
import Derived.Test.YtebhdjeognpljaaAnyB
import Derived.Test.YtebhdjeognpljaaThings
import Derived.Test.YtebhdjeognpljaaLives
namespace Go.Proofs.Ytebhdjeognpljaa
open Go.RowKit
set_option linter.unusedSimpArgs false
set_option linter.unusedVariables false
theorem ThingsR.base {h : PH} {a : Option Addr} {n cap : Nat} {xs : List Thing} (hr : ThingsR h (.slice a n cap) xs) (h0 : 0 < xs.length) : ∃ b o, a = some ⟨b, o, none⟩ := by
  obtain ⟨b, o, cs, h1, -⟩ := hr.get 0 h0
  exact ⟨b, o, h1⟩
theorem ThingsR.at' {w : World} {b o n cap : Nat} {xs : List Thing} (hr : ThingsR (ph w) (.slice (some ⟨b, o, none⟩) n cap) xs) (k : Nat) (hk : k < xs.length) :
    ∃ a1 c1 a2 c2 a3 c3, w.cell? ⟨b, o + k * 3, none⟩ = some (.slice a1 xs[k].cls.length c1) ∧ w.cell? ⟨b, o + k * 3 + 1, none⟩ = some (.slice a2 xs[k].vals.length c2) ∧
      w.cell? ⟨b, o + k * 3 + 2, none⟩ = some (.slice a3 xs[k].parts.length c3) ∧ ThingR (ph w) [.slice a1 xs[k].cls.length c1, .slice a2 xs[k].vals.length c2, .slice a3 xs[k].parts.length c3] xs[k] ∧ b < w.heap.size := by
  obtain ⟨b', o', a1, c1, a2, c2, a3, c3, e, h⟩ := ThingsR.at hr k hk
  simp only [Option.some.injEq, Addr.mk.injEq, and_true] at e
  obtain ⟨rfl, rfl⟩ := e
  exact ⟨a1, c1, a2, c2, a3, c3, h⟩
def byteSys (W : World) : Ph.Sys where
  G := fun _ w => Ext W w
  L := fun w w' => Lb W.heap.size w w'
  ch := []
  ext := fun h => Lb.ofExt h
  gext := fun h e => h.then e
  size := fun h => h.size
theorem Ph.walkI_stepL {P : Program} {ops : Array Oper} {D : List Tmp} {S : Ph.Sys} {a : Act} {K : Act → World → Prop} {o : Oper} {rest : List Oper} {E : Env} {d : Tmp} (R : Prop1) (hd : o.dst = some d) (hl : d < a.tmps.size) (hg : o.guard = none) (hs : Ph.Stable S R)
    (hr : ∀ A w c, S.G c w → knows A a w E o.op.operands.toList → ∀ K : Act → World → Prop, (∀ v w', S.L w w' → S.G c w' → R v w' → K (A.put (some d) v) w') → o.wp P A w K (fun _ _ _ => False))
    (h : Ph.walkI P ops D S a K rest (E ++ [(d, R)])) (hn : d ∉ D := by simp) (hi : E.length ∉ S.ch := by simp) : Ph.walkI P ops D S a K (o :: rest) E :=
  ⟨d, R, hd, hl, hs, .inl ⟨hg, by
    unfold Ph.RunsI; rw [hd]
    exact fun A w c h1 _ h2 K hK => hr A w c h1 h2 K fun v w' h3 h4 h5 => hK v w' h3 (by rw [if_neg hi]; exact h4) h5 fun e he hde => by cases hde; exact absurd he hn⟩, h⟩
theorem oper_append_any {P : Program} {o : Oper} {A : Act} {K : Act → World → Prop} {Q : Exit → Act → World → Prop} (s x : Operand) (t : TypeId) (ho : o.op = .call { callee := .builtin .append, args := #[s, x], argTypes := #[t, t] })
    {base : Nat} {w : World} (i : TypeInfo) (ht : P.underlying t = some (.slice 5)) (hi : P.info? 5 = some i) (hz : i.zero = some (.int .u8 0)) (hsz : i.size = 1) (hby : i.bytes = 1)
    {v vx : Value} {n : Nat} {ys : List UInt8} (hs : A.eval s = v) (hx : A.eval x = vx) (hown : AnyB base n v w) (hsrc : Src w noH ByteR 1 vx ys) (hb : base ≤ w.heap.size) (hcnt : n + ys.length ≤ 1000000000)
    (h : ∀ v' w', AnyB base (n + ys.length) v' w' → Lb base w w' → K (A.put o.dst v') w') : o.wp P A w K Q := by
  obtain ⟨v', w', hr, h2, h3⟩ := run_append_any (P := P) t o.type i ht hi hz hsz hby hown hsrc hb hcnt
  unfold Oper.wp execOp
  simp only [ho, resolve, invoke, builtin, Sem.run_bind, Sem.run_pure, Result.andThen_ok, List.map_toArray, List.map_cons, List.map_nil, hs, hx, hr]
  exact h v' w' h2 h3
theorem fits_ok (n : Nat) : ∀ t, Fits n t → t.ok := by
  induction n with
  | zero => intro t h; exact h.elim
  | succ n ih =>
    intro t h
    obtain ⟨c1, c2, c3, c4, c5, c6⟩ := h
    rw [Thing.ok_iff]
    exact ⟨c1, c3, i64_nat (by omega), i64_nat (by omega), fun p hp => ih p (c6 p hp)⟩
theorem bulk_of_formed (t : Thing) : t.formed → t.bulk ≤ 97 * t.size := by
  induction t using Thing.ind with
  | h t ih =>
    intro hf
    rw [Thing.bulk_eq, Thing.size_eq]
    obtain ⟨c, v, p⟩ := t
    simp only [Thing.formed, formeds_iff] at hf
    simp only [Thing.cls, Thing.vals, Thing.parts] at *
    obtain ⟨f1, f2, f3, f4⟩ := hf
    have l1 := inc_len f2 (by omega)
    have l2 := inc_len f3 (by omega)
    rw [List.length_map] at l2
    have h : sumN Thing.bulk p ≤ 97 * sumN Thing.size p := by
      clear f3 l2 l1 f2 f1
      induction p with
      | nil => simp [sumN]
      | cons x p ih2 =>
        have h1 := ih x (by simp) (f4 x (by simp))
        have h2 := ih2 (fun q hq => ih q (by simp [hq])) (fun q hq => f4 q (by simp [hq]))
        simp only [sumN]; omega
    omega
theorem bulk_of_valid {t : Thing} (h : validV t = 0) : t.bulk ≤ 9312 := by
  unfold validV at h
  split at h
  · rename_i h1
    have hf : t.formed := by
      unfold ErrIf at h
      split at h
      · assumption
      · omega
    have := bulk_of_formed t hf
    omega
  · omega
theorem MB.empty (w : World) : MB w [] noH (.slice (some ⟨w.heap.size, 0, none⟩) 0 0) [] (w.alloc (.cells #[] 5)) :=
  ⟨noH, PLe.refl _, ((Mem.start w noH (noH_le _)).new #[] 5).asOwn 0 (xs := ([] : List UInt8)) (n := 0) (sz := 1) rfl mono_ByteR (Nat.le_refl _) (by simp [maxLen]) rfl rfl⟩
set_option maxRecDepth 100000 in
set_option maxHeartbeats 4000000 in
theorem bytesLaw_c (vl vm vr : Value) (l m : List Int) (at_ how by_ : Int) (x : UInt8) (raw : List UInt8) (w : World) (hl : IntsR (ph w) vl l) (hm : IntsR (ph w) vm m) (hraw : BytesR (ph w) vr raw) (hll : l.length ≤ 140737488355328) (hml : m.length ≤ 140737488355328) (hrl : raw.length ≤ 140737488355328) (hat : I64 at_) (hhow : I64 how) (hby : I64 by_) :
    Calls Try.prog 7 #[vl, vm, .int .i64 at_, .int .i64 how, .int .i64 by_, .int .u8 x.toNat, vr] w (RetV w (.bool true)) := by
  obtain ⟨ra, rc, rfl, hrl2, hraw⟩ := hraw.form
  go_enter Try.func7, Try.ntmps7
  go_wp2_with fail
  refine (things_c _ _ l m at_ how by_ _ (hl.mono mono_IntR (Ext.ple (by repeat (first | (with_reducible assumption) | (with_reducible exact Ext.rfl' _) | (with_reducible exact Ext.new _ _) | (with_reducible refine Ext.alloc' ?_ _) | (with_reducible refine Ext.drew' ?_) | (with_reducible refine Ext.drewN' ?_ _) | (with_reducible refine Ext.set' ?_ ?_ _; rotate_left; (focus (first | omega | (simp; done) | (simp; omega)))) | (with_reducible refine Ext.then (b := ?_) ?_ ?_; rotate_left; rotate_left; (with_reducible assumption)))))) (hm.mono mono_IntR (Ext.ple (by repeat (first | (with_reducible assumption) | (with_reducible exact Ext.rfl' _) | (with_reducible exact Ext.new _ _) | (with_reducible refine Ext.alloc' ?_ _) | (with_reducible refine Ext.drew' ?_) | (with_reducible refine Ext.drewN' ?_ _) | (with_reducible refine Ext.set' ?_ ?_ _; rotate_left; (focus (first | omega | (simp; done) | (simp; omega)))) | (with_reducible refine Ext.then (b := ?_) ?_ ?_; rotate_left; rotate_left; (with_reducible assumption)))))) hll hml hat hhow hby).mono ?_
  rintro e w1 ⟨H', v, xs, rfl, hO, hub, hxl, hbk, hb1⟩
  obtain ⟨H2, -, -, hM⟩ := (Mem.start w noH (noH_le _)).take hb1 hO mono_ThingR hub
  rw [List.nil_append] at hM
  have hR := hM.rep 0 rfl
  have hraw1 := hraw.mono mono_ByteR hb1.ple
  clear hO hub hl hm hM
  obtain ⟨a, c, rfl, hlen, hR⟩ := hR.form
  obtain ⟨ab, ao, rfl⟩ := ThingsR.base hR (by omega)
  replace hxl := Lib.hid hxl
  go_wp2_with fail
  go_loopw [16] (fun i wr => ∃ k : Nat, k ≤ xs.length ∧ i = .int .i64 k ∧ Ext w1 wr) (fun i _ => xs.length - (intOf i).toNat)
  case atStart => exact ⟨0, by omega, rfl, (by repeat (first | (with_reducible assumption) | (with_reducible exact Ext.rfl' _) | (with_reducible exact Ext.new _ _) | (with_reducible refine Ext.alloc' ?_ _) | (with_reducible refine Ext.drew' ?_) | (with_reducible refine Ext.drewN' ?_ _) | (with_reducible refine Ext.set' ?_ ?_ _; rotate_left; (focus (first | omega | (simp; done) | (simp; omega)))) | (with_reducible refine Ext.then (b := ?_) ?_ ?_; rotate_left; rotate_left; (with_reducible assumption))))⟩
  case round =>
    obtain ⟨k, hk, rfl, hwr⟩ := hrel
    by_cases hkl : k < xs.length
    · obtain ⟨p1, s1, p2, s2, p3, s3, x0, x1, x2, hE, hbl⟩ := ThingsR.at' hR k hkl
      have hB := hbk _ (List.getElem_mem hkl)
      generalize xs[k] = t at *
      have hok := hE.ok
      have hel := enc_len t hE
      replace hE := Lib.hid hE
      obtain ⟨gc, gf, gs⟩ := hwr.cells
      go_wp2_with fail
      refine (encode_c t [_, _, _] _ (mono_ThingR _ _ _ _ hwr.ple hE.out) (by omega)).mono ?_
      rintro e w5 ⟨vx, rfl, hO5, hb5⟩
      have hBX := hO5.rep mono_ByteR (noH_le _)
      have hx5 : Ext w1 w5 := (by repeat (first | (with_reducible assumption) | (with_reducible exact Ext.rfl' _) | (with_reducible exact Ext.new _ _) | (with_reducible refine Ext.alloc' ?_ _) | (with_reducible refine Ext.drew' ?_) | (with_reducible refine Ext.drewN' ?_ _) | (with_reducible refine Ext.set' ?_ ?_ _; rotate_left; (focus (first | omega | (simp; done) | (simp; omega)))) | (with_reducible refine Ext.then (b := ?_) ?_ ?_; rotate_left; rotate_left; (with_reducible assumption))))
      have henc : encOf t = if validV t = 0 then enc t else [] := rfl
      obtain ⟨ex, fx, rfl, -⟩ := hO5.form
      clear gc gf gs hO5 hb5
      obtain ⟨gc, gf, gs⟩ := hx5.cells
      by_cases hv : validV t = 0
      · rw [hv, if_pos rfl] at henc
        rw [henc] at hBX ⊢
        rw [hv]
        go_wp2_with fail
        refine RetV_at (valid_r t [_, _, _] _ (mono_ThingR _ _ _ _ hx5.ple hE.out) (by omega)) ?_
        intro w6 hb6
        rw [hv]
        have hx6 : Ext w1 w6 := (by repeat (first | (with_reducible assumption) | (with_reducible exact Ext.rfl' _) | (with_reducible exact Ext.new _ _) | (with_reducible refine Ext.alloc' ?_ _) | (with_reducible refine Ext.drew' ?_) | (with_reducible refine Ext.drewN' ?_ _) | (with_reducible refine Ext.set' ?_ ?_ _; rotate_left; (focus (first | omega | (simp; done) | (simp; omega)))) | (with_reducible refine Ext.then (b := ?_) ?_ ?_; rotate_left; rotate_left; (with_reducible assumption))))
        replace hBX := hBX.mono mono_ByteR hb6.ple
        clear gc gf gs hx5 hb6
        obtain ⟨gc, gf, gs⟩ := hx6.cells
        have hbl6 : ab < w6.heap.size := by omega
        go_wp2_with fail
        refine (refEnc_c t [_, _, _] _ (mono_ThingR _ _ _ _ (Ext.ple (by repeat (first | (with_reducible assumption) | (with_reducible exact Ext.rfl' _) | (with_reducible exact Ext.new _ _) | (with_reducible refine Ext.alloc' ?_ _) | (with_reducible refine Ext.drew' ?_) | (with_reducible refine Ext.drewN' ?_ _) | (with_reducible refine Ext.set' ?_ ?_ _; rotate_left; (focus (first | omega | (simp; done) | (simp; omega)))) | (with_reducible refine Ext.then (b := ?_) ?_ ?_; rotate_left; rotate_left; (with_reducible assumption))))) hE.out) (by omega)).mono ?_
        rintro e w7 ⟨v7, rfl, ho7, hb7⟩
        have hW := (Wr.fresh w6).keep hb7
        have hBR := ho7.rep mono_ByteR (noH_le _)
        have hx7 : Ext w6 w7 := (by repeat (first | (with_reducible assumption) | (with_reducible exact Ext.rfl' _) | (with_reducible exact Ext.new _ _) | (with_reducible refine Ext.alloc' ?_ _) | (with_reducible refine Ext.drew' ?_) | (with_reducible refine Ext.drewN' ?_ _) | (with_reducible refine Ext.set' ?_ ?_ _; rotate_left; (focus (first | omega | (simp; done) | (simp; omega)))) | (with_reducible refine Ext.then (b := ?_) ?_ ?_; rotate_left; rotate_left; (with_reducible assumption))))
        obtain ⟨y7, z7, rfl, -⟩ := ho7.form
        clear gc gf gs hb7 ho7
        go_wp2_with fail
        refine (wraw_c w6.heap.size w6.heap.size none [] (enc t) _ _ hW hBR (by simp only [List.length_nil]; omega)).mono ?_
        rintro e w8 ⟨rfl, row, hW8, hX8, -⟩
        have hx8 : Ext w6 w8 := hX8.toExt hx7 (Nat.le_refl _) (fun i hi => by cases hi)
        have hul : (uvar (enc t).length).length ≤ 10 := uvar_len10 (by omega)
        have hst : [] ++ uvar (enc t).length ++ enc t = uvar (enc t).length ++ (enc t ++ []) := by simp
        rw [hst] at hW8
        have hsl : (uvar (enc t).length ++ (enc t ++ [])).length ≤ 4000000 := by simp only [List.length_append, List.length_nil]; omega
        have hlB := listB_some (enc t) [] (by omega)
        generalize uvar (enc t).length ++ (enc t ++ []) = st at *
        clear hX8 hW hBR hst hul
        go_wp2_with fail
        refine (done_c w6.heap.size w6.heap.size row _ _ hW8 (by omega)).mono ?_
        rintro e w9 ⟨v9, rfl, ho9, hb9⟩
        have hB9 := ho9.rep mono_ByteR (noH_le _)
        obtain ⟨y9, z9, rfl, -⟩ := ho9.form
        clear ho9 hW8
        go_wp2_with fail
        refine (rread_c _ _ _ hB9 (by omega)).mono ?_
        rintro e w10 ⟨HR, g, rfl, hg, hR10, hb10⟩
        have hsz10 : w6.heap.size ≤ w9.heap.size := by have h1 := hx8.size; have h2 := hb9.size; omega
        go_wp2_with fail
        refine (rraw_c g _ _ hR10 (by intro l hl; cases hl; omega)).mono ?_
        rintro e w11 ⟨v11, rfl, ho11, -, hX11⟩
        have hx10 : Ext w6 w10 := (by repeat (first | (with_reducible assumption) | (with_reducible exact Ext.rfl' _) | (with_reducible exact Ext.new _ _) | (with_reducible refine Ext.alloc' ?_ _) | (with_reducible refine Ext.drew' ?_) | (with_reducible refine Ext.drewN' ?_ _) | (with_reducible refine Ext.set' ?_ ?_ _; rotate_left; (focus (first | omega | (simp; done) | (simp; omega)))) | (with_reducible refine Ext.then (b := ?_) ?_ ?_; rotate_left; rotate_left; (with_reducible assumption))))
        have hx11 : Ext w1 w11 := hX11.toExt (hx6.then hx10) (by have := hx6.size; omega) (fun i hi => by cases hi)
        have hx611 : Ext w6 w11 := hX11.toExt hx10 (by omega) (fun i hi => by cases hi)
        rw [hlB] at ho11
        have hB11 : BytesR (ph w11) v11 (enc t) := ho11.rep mono_ByteR (noH_le _)
        obtain ⟨y11, z11, rfl, -⟩ : ∃ a cap, v11 = .slice a (enc t).length cap ∧ (enc t).length ≤ 9223372036854775807 := ho11.form
        replace hBX := hBX.mono mono_ByteR hx611.ple
        clear hlB hR10 hX11 ho11 hB9 hb10 hb9 hx8 hx7 hx6 hx10 hg hsz10 hx611 hsl
        go_wp2_with fail
        refine (decode_c _ (enc t) _ hB11 (by omega) (fun t' h1 h2 => by have e := (enc_inj hok (fits_ok 8 t' h2)).1 h1; rw [← e]; omega)).mono ?_
        rintro e w12 ⟨H12, cs, t', er, rfl, hT, hU, hb12, hcase⟩
        obtain ⟨rfl, rfl⟩ : er = 0 ∧ t = t' := by
          rcases hcase with ⟨q1, q2, q3, q4⟩ | ⟨-, -, hno⟩
          · exact ⟨q1, (enc_inj hok hT.ok).1 q2⟩
          · exact absurd hv (hno t rfl (fits_of_valid hok hv))
        clear hcase
        obtain ⟨b1, d1, b2, d2, b3, d3, rfl, -⟩ := hT.form
        have hT12 := mono_ThingR _ _ _ _ (hU.trans (up_ple (noH_le _) hb12)) hT
        have hbox := Own.new w12 #[.slice b1 t.cls.length d1, .slice b2 t.vals.length d2, .slice b3 t.parts.length d3] 29
        have hn1 := Ext.new w12 (.cells #[.slice b1 t.cls.length d1, .slice b2 t.vals.length d2, .slice b3 t.parts.length d3] 29)
        have hxW : Ext w1 (w12.alloc (.cells #[.slice b1 t.cls.length d1, .slice b2 t.vals.length d2, .slice b3 t.parts.length d3] 29)) := (by repeat (first | (with_reducible assumption) | (with_reducible exact Ext.rfl' _) | (with_reducible exact Ext.new _ _) | (with_reducible refine Ext.alloc' ?_ _) | (with_reducible refine Ext.drew' ?_) | (with_reducible refine Ext.drewN' ?_ _) | (with_reducible refine Ext.set' ?_ ?_ _; rotate_left; (focus (first | omega | (simp; done) | (simp; omega)))) | (with_reducible refine Ext.then (b := ?_) ?_ ?_; rotate_left; rotate_left; (with_reducible assumption))))
        replace hT12 := mono_ThingR _ _ _ _ hn1.ple hT12
        replace hB11 := hB11.mono mono_ByteR (hb12.then hn1).ple
        replace hBX := hBX.mono mono_ByteR (hb12.then hn1).ple
        clear hU hT hx11 hb12 hn1
        have hpos : ((enc t).length : Int) ≠ 0 := by have h1 := bulk_le_enc t; have h2 := t.bulk_pos; omega
        have hposb : (((enc t).length : Int) == 0) = false := by simpa using hpos
        have hB' := bulk_of_valid hv
        replace hv := Lib.hid hv
        go_wp2_with fail
        generalize w12.alloc _ = W at *
        replace hE := Lib.hid (mono_ThingR _ _ _ _ hxW.ple hE.out)
        have y0 := hxW.cell1 x0
        have y1 := hxW.cell1 x1
        have y2 := hxW.cell1 x2
        obtain ⟨hoc, hof⟩ := hbox.facts
        have hblW := hbox.lt
        have hblA : ab < W.heap.size := by have := hxW.size; omega
        replace hT12 := Lib.hid hT12
        (refine wp_region_I 22 (by kernel_rfl) (by kernel_rfl) ?_; simp only [List.toList_toArray, List.take_succ_cons, List.take_zero, List.drop_succ_cons, List.drop_zero])
        (repeat (first | (refine walkI_no rfl (by simp) rfl rfl rfl ?_ ?_; (focus (simp [undef]; done)); (try simp only [List.nil_append, List.cons_append])) | (refine walkI_is (u := ?_) rfl (by simp) rfl ?_ ?_; rotate_left; (focus (intro A w' hS hA K hK; (simp only [List.map_cons, List.map_nil, knows, Is, Op.operands, Call.operands, List.lookup_cons, List.lookup_nil, Nat.reduceBEq, Bool.false_eq_true, if_false, if_true, Act.eval, Array.getD_eq_getD_getElem?, List.getElem?_toArray, List.getElem?_cons_succ, List.getElem?_cons_zero, Option.getD_some, and_true, true_and, List.append_toArray, List.nil_append, List.cons_append, List.toList_toArray, Array.toList_append, Option.toArray, List.append_nil] at hA); first | fail | (obtain ⟨hSc, hSf, hSs⟩ := hS.cells; go_simp; exact hK _ (by repeat (first | (with_reducible assumption) | (with_reducible exact Ext.rfl' _) | (with_reducible exact Ext.new _ _) | (with_reducible refine Ext.alloc' ?_ _) | (with_reducible refine Ext.drew' ?_) | (with_reducible refine Ext.drewN' ?_ _) | (with_reducible refine Ext.set' ?_ ?_ _; rotate_left; (focus (first | omega | (simp; done) | (simp; omega)))) | (with_reducible refine Ext.then (b := ?_) ?_ ?_; rotate_left; rotate_left; (with_reducible assumption))))))); (try simp only [List.nil_append, List.cons_append])) | (refine walkI_yesis (u := ?_) rfl (by simp) rfl rfl rfl ?_ ?_; rotate_left; (focus (intro A w' hS hA K hK; (simp only [List.map_cons, List.map_nil, knows, Is, Op.operands, Call.operands, List.lookup_cons, List.lookup_nil, Nat.reduceBEq, Bool.false_eq_true, if_false, if_true, Act.eval, Array.getD_eq_getD_getElem?, List.getElem?_toArray, List.getElem?_cons_succ, List.getElem?_cons_zero, Option.getD_some, and_true, true_and, List.append_toArray, List.nil_append, List.cons_append, List.toList_toArray, Array.toList_append, Option.toArray, List.append_nil] at hA); first | fail | (obtain ⟨hSc, hSf, hSs⟩ := hS.cells; go_simp; exact hK _ (by repeat (first | (with_reducible assumption) | (with_reducible exact Ext.rfl' _) | (with_reducible exact Ext.new _ _) | (with_reducible refine Ext.alloc' ?_ _) | (with_reducible refine Ext.drew' ?_) | (with_reducible refine Ext.drewN' ?_ _) | (with_reducible refine Ext.set' ?_ ?_ _; rotate_left; (focus (first | omega | (simp; done) | (simp; omega)))) | (with_reducible refine Ext.then (b := ?_) ?_ ?_; rotate_left; rotate_left; (with_reducible assumption))))))); (try simp only [List.nil_append, List.cons_append]))))
        (refine walkI_yesis (u := ?_) rfl (by simp) rfl rfl rfl ?_ ?_; rotate_left; (focus (intro A w' hS hA K hK; (simp only [List.map_cons, List.map_nil, knows, Is, Op.operands, Call.operands, List.lookup_cons, List.lookup_nil, Nat.reduceBEq, Bool.false_eq_true, if_false, if_true, Act.eval, Array.getD_eq_getD_getElem?, List.getElem?_toArray, List.getElem?_cons_succ, List.getElem?_cons_zero, Option.getD_some, and_true, true_and, List.append_toArray, List.nil_append, List.cons_append, List.toList_toArray, Array.toList_append, Option.toArray, List.append_nil] at hA); first | (obtain ⟨hSc, hSf, hSs⟩ := hS.cells; go_simp; refine RetV_at (sameBytes_c _ _ (enc t) (enc t) _ (hBX.mono mono_ByteR hS.ple) (hB11.mono mono_ByteR hS.ple)) ?_; intro w'' hbx; rw [B_t rfl]; exact hK _ hbx) | (obtain ⟨hSc, hSf, hSs⟩ := hS.cells; go_simp; exact hK _ (by repeat (first | (with_reducible assumption) | (with_reducible exact Ext.rfl' _) | (with_reducible exact Ext.new _ _) | (with_reducible refine Ext.alloc' ?_ _) | (with_reducible refine Ext.drew' ?_) | (with_reducible refine Ext.drewN' ?_ _) | (with_reducible refine Ext.set' ?_ ?_ _; rotate_left; (focus (first | omega | (simp; done) | (simp; omega)))) | (with_reducible refine Ext.then (b := ?_) ?_ ?_; rotate_left; rotate_left; (with_reducible assumption))))))); (try simp only [List.nil_append, List.cons_append]))
        (repeat (first | (refine walkI_no rfl (by simp) rfl rfl rfl ?_ ?_; (focus (simp [undef]; done)); (try simp only [List.nil_append, List.cons_append])) | (refine walkI_is (u := ?_) rfl (by simp) rfl ?_ ?_; rotate_left; (focus (intro A w' hS hA K hK; (simp only [List.map_cons, List.map_nil, knows, Is, Op.operands, Call.operands, List.lookup_cons, List.lookup_nil, Nat.reduceBEq, Bool.false_eq_true, if_false, if_true, Act.eval, Array.getD_eq_getD_getElem?, List.getElem?_toArray, List.getElem?_cons_succ, List.getElem?_cons_zero, Option.getD_some, and_true, true_and, List.append_toArray, List.nil_append, List.cons_append, List.toList_toArray, Array.toList_append, Option.toArray, List.append_nil] at hA); first | fail | (obtain ⟨hSc, hSf, hSs⟩ := hS.cells; go_simp; exact hK _ (by repeat (first | (with_reducible assumption) | (with_reducible exact Ext.rfl' _) | (with_reducible exact Ext.new _ _) | (with_reducible refine Ext.alloc' ?_ _) | (with_reducible refine Ext.drew' ?_) | (with_reducible refine Ext.drewN' ?_ _) | (with_reducible refine Ext.set' ?_ ?_ _; rotate_left; (focus (first | omega | (simp; done) | (simp; omega)))) | (with_reducible refine Ext.then (b := ?_) ?_ ?_; rotate_left; rotate_left; (with_reducible assumption))))))); (try simp only [List.nil_append, List.cons_append])) | (refine walkI_yesis (u := ?_) rfl (by simp) rfl rfl rfl ?_ ?_; rotate_left; (focus (intro A w' hS hA K hK; (simp only [List.map_cons, List.map_nil, knows, Is, Op.operands, Call.operands, List.lookup_cons, List.lookup_nil, Nat.reduceBEq, Bool.false_eq_true, if_false, if_true, Act.eval, Array.getD_eq_getD_getElem?, List.getElem?_toArray, List.getElem?_cons_succ, List.getElem?_cons_zero, Option.getD_some, and_true, true_and, List.append_toArray, List.nil_append, List.cons_append, List.toList_toArray, Array.toList_append, Option.toArray, List.append_nil] at hA); first | fail | (obtain ⟨hSc, hSf, hSs⟩ := hS.cells; go_simp; exact hK _ (by repeat (first | (with_reducible assumption) | (with_reducible exact Ext.rfl' _) | (with_reducible exact Ext.new _ _) | (with_reducible refine Ext.alloc' ?_ _) | (with_reducible refine Ext.drew' ?_) | (with_reducible refine Ext.drewN' ?_ _) | (with_reducible refine Ext.set' ?_ ?_ _; rotate_left; (focus (first | omega | (simp; done) | (simp; omega)))) | (with_reducible refine Ext.then (b := ?_) ?_ ?_; rotate_left; rotate_left; (with_reducible assumption))))))); (try simp only [List.nil_append, List.cons_append]))))
        (refine walkI_yesis (u := ?_) rfl (by simp) rfl rfl rfl ?_ ?_; rotate_left; (focus (intro A w' hS hA K hK; (simp only [List.map_cons, List.map_nil, knows, Is, Op.operands, Call.operands, List.lookup_cons, List.lookup_nil, Nat.reduceBEq, Bool.false_eq_true, if_false, if_true, Act.eval, Array.getD_eq_getD_getElem?, List.getElem?_toArray, List.getElem?_cons_succ, List.getElem?_cons_zero, Option.getD_some, and_true, true_and, List.append_toArray, List.nil_append, List.cons_append, List.toList_toArray, Array.toList_append, Option.toArray, List.append_nil] at hA); first | (obtain ⟨hSc, hSf, hSs⟩ := hS.cells; go_simp; refine RetV_at (same_c t t [_, _, _] [_, _, _] _ (mono_ThingR _ _ _ _ hS.ple hT12.out) (mono_ThingR _ _ _ _ hS.ple hE.out) (by omega) (by omega)) ?_; intro w'' hbx; rw [B_t rfl]; exact hK _ hbx) | (obtain ⟨hSc, hSf, hSs⟩ := hS.cells; go_simp; exact hK _ (by repeat (first | (with_reducible assumption) | (with_reducible exact Ext.rfl' _) | (with_reducible exact Ext.new _ _) | (with_reducible refine Ext.alloc' ?_ _) | (with_reducible refine Ext.drew' ?_) | (with_reducible refine Ext.drewN' ?_ _) | (with_reducible refine Ext.set' ?_ ?_ _; rotate_left; (focus (first | omega | (simp; done) | (simp; omega)))) | (with_reducible refine Ext.then (b := ?_) ?_ ?_; rotate_left; rotate_left; (with_reducible assumption))))))); (try simp only [List.nil_append, List.cons_append]))
        (repeat (first | (refine walkI_no rfl (by simp) rfl rfl rfl ?_ ?_; (focus (simp [undef]; done)); (try simp only [List.nil_append, List.cons_append])) | (refine walkI_is (u := ?_) rfl (by simp) rfl ?_ ?_; rotate_left; (focus (intro A w' hS hA K hK; (simp only [List.map_cons, List.map_nil, knows, Is, Op.operands, Call.operands, List.lookup_cons, List.lookup_nil, Nat.reduceBEq, Bool.false_eq_true, if_false, if_true, Act.eval, Array.getD_eq_getD_getElem?, List.getElem?_toArray, List.getElem?_cons_succ, List.getElem?_cons_zero, Option.getD_some, and_true, true_and, List.append_toArray, List.nil_append, List.cons_append, List.toList_toArray, Array.toList_append, Option.toArray, List.append_nil] at hA); first | fail | (obtain ⟨hSc, hSf, hSs⟩ := hS.cells; go_simp; exact hK _ (by repeat (first | (with_reducible assumption) | (with_reducible exact Ext.rfl' _) | (with_reducible exact Ext.new _ _) | (with_reducible refine Ext.alloc' ?_ _) | (with_reducible refine Ext.drew' ?_) | (with_reducible refine Ext.drewN' ?_ _) | (with_reducible refine Ext.set' ?_ ?_ _; rotate_left; (focus (first | omega | (simp; done) | (simp; omega)))) | (with_reducible refine Ext.then (b := ?_) ?_ ?_; rotate_left; rotate_left; (with_reducible assumption))))))); (try simp only [List.nil_append, List.cons_append])) | (refine walkI_yesis (u := ?_) rfl (by simp) rfl rfl rfl ?_ ?_; rotate_left; (focus (intro A w' hS hA K hK; (simp only [List.map_cons, List.map_nil, knows, Is, Op.operands, Call.operands, List.lookup_cons, List.lookup_nil, Nat.reduceBEq, Bool.false_eq_true, if_false, if_true, Act.eval, Array.getD_eq_getD_getElem?, List.getElem?_toArray, List.getElem?_cons_succ, List.getElem?_cons_zero, Option.getD_some, and_true, true_and, List.append_toArray, List.nil_append, List.cons_append, List.toList_toArray, Array.toList_append, Option.toArray, List.append_nil] at hA); first | fail | (obtain ⟨hSc, hSf, hSs⟩ := hS.cells; go_simp; exact hK _ (by repeat (first | (with_reducible assumption) | (with_reducible exact Ext.rfl' _) | (with_reducible exact Ext.new _ _) | (with_reducible refine Ext.alloc' ?_ _) | (with_reducible refine Ext.drew' ?_) | (with_reducible refine Ext.drewN' ?_ _) | (with_reducible refine Ext.set' ?_ ?_ _; rotate_left; (focus (first | omega | (simp; done) | (simp; omega)))) | (with_reducible refine Ext.then (b := ?_) ?_ ?_; rotate_left; rotate_left; (with_reducible assumption))))))); (try simp only [List.nil_append, List.cons_append]))))
        (refine walkI_nil ?_; simp only [List.nil_append, List.cons_append, fins, Is, forall_eq, Act.put, List.setIfInBounds_toArray, List.set_cons_zero, List.set_cons_succ])
        intro w14 hb14
        have hx14 : Ext w1 w14 := (by repeat (first | (with_reducible assumption) | (with_reducible exact Ext.rfl' _) | (with_reducible exact Ext.new _ _) | (with_reducible refine Ext.alloc' ?_ _) | (with_reducible refine Ext.drew' ?_) | (with_reducible refine Ext.drewN' ?_ _) | (with_reducible refine Ext.set' ?_ ?_ _; rotate_left; (focus (first | omega | (simp; done) | (simp; omega)))) | (with_reducible refine Ext.then (b := ?_) ?_ ?_; rotate_left; rotate_left; (with_reducible assumption))))
        replace hBX := hBX.mono mono_ByteR hb14.ple
        have hraw14 := hraw1.mono mono_ByteR hx14.ple
        clear hoc hof hT12 hbox hB11 y0 y1 y2 hE hxW hb14 hblA
        obtain ⟨hn0, hn1⟩ := aroundV_range (n := at_) (m := ((enc t).length : Int)) hat (by omega)
        go_wp2_with fail
        refine RetV_at (around_c at_ (enc t).length _ hat (by omega) (by omega)) ?_
        intro w15 hb15
        have hx15 : Ext w1 w15 := (by repeat (first | (with_reducible assumption) | (with_reducible exact Ext.rfl' _) | (with_reducible exact Ext.new _ _) | (with_reducible refine Ext.alloc' ?_ _) | (with_reducible refine Ext.drew' ?_) | (with_reducible refine Ext.drewN' ?_ _) | (with_reducible refine Ext.set' ?_ ?_ _; rotate_left; (focus (first | omega | (simp; done) | (simp; omega)))) | (with_reducible refine Ext.then (b := ?_) ?_ ?_; rotate_left; rotate_left; (with_reducible assumption))))
        replace hBX := hBX.mono mono_ByteR hb15.ple
        replace hraw14 := hraw14.mono mono_ByteR hb15.ple
        clear hx14 hb15
        obtain ⟨q, hq⟩ : ∃ q : Nat, aroundV at_ ((enc t).length : Int) = q := ⟨_, (Int.toNat_of_nonneg hn0).symm⟩
        rw [hq] at hn0 hn1 ⊢
        clear hq
        have hME := MB.empty w15
        have hsB := (Src.ofRep hBX (PLe.refl _)).noB
        go_wp2_with (at_builtin; refine wpList_append_B rfl _ _ 46 rfl Try.underlying46 infoByte rfl rfl rfl rfl (hME.keep (by repeat (first | (with_reducible assumption) | (with_reducible exact Ext.rfl' _) | (with_reducible exact Ext.new _ _) | (with_reducible refine Ext.alloc' ?_ _) | (with_reducible refine Ext.drew' ?_) | (with_reducible refine Ext.drewN' ?_ _) | (with_reducible refine Ext.set' ?_ ?_ _; rotate_left; (focus (first | omega | (simp; done) | (simp; omega)))) | (with_reducible refine Ext.then (b := ?_) ?_ ?_; rotate_left; rotate_left; (with_reducible assumption))))) (hsB.keep (by repeat (first | (with_reducible assumption) | (with_reducible exact Ext.rfl' _) | (with_reducible exact Ext.new _ _) | (with_reducible refine Ext.alloc' ?_ _) | (with_reducible refine Ext.drew' ?_) | (with_reducible refine Ext.drewN' ?_ _) | (with_reducible refine Ext.set' ?_ ?_ _; rotate_left; (focus (first | omega | (simp; done) | (simp; omega)))) | (with_reducible refine Ext.then (b := ?_) ?_ ?_; rotate_left; rotate_left; (with_reducible assumption))))) ?c1 ?c2)
        case c1 => simp only [List.length_nil]; omega
        case c2 =>
        intro v16 w16 hM16
        have hA16 := AnyB.ofOwn hM16.own
        have hx16 : Ext w15 w16 := hM16.ex
        clear hME hsB hM16
        obtain ⟨a16, c16, rfl⟩ := hA16.form
        obtain ⟨g16, rfl, hg1, hg2, ⟨u16, hu16⟩, hf16, hA17⟩ := hA16.set q (by omega) x
        have hxW2 : Ext w15 (w16.setCell ⟨g16, q, none⟩ (byteV x)) := hx16.set' hg1 _
        clear hA16
        unfold byteV at hA17 hxW2
        go_wp2_with fail
        generalize w16.setCell _ _ = W2 at *
        replace hBX := hBX.mono mono_ByteR hxW2.ple
        replace hraw14 := hraw14.mono mono_ByteR hxW2.ple
        have hx17 : Ext w1 W2 := hx15.then hxW2
        clear hu16 hf16 hg2 hx16
        obtain ⟨i0, hi0, hz0, hz1, hz2⟩ := infoB'
        have hcl : (enc t).length ≤ fx := by obtain ⟨_, _, e, h1, -⟩ := hBX; cases e; exact h1
        have hqf : q ≤ fx := by omega
        have hfew := fun w hs => few_c (.slice ra raw.length rc) raw 30 w hs (by omega)
        replace hfew := Lib.hid hfew
        (refine Ph.wp_region_I 12 (S := byteSys W2) ?h0 (by kernel_rfl) (by kernel_rfl) (by kernel_rfl) ?_; (case h0 => (exact Ext.drew' (Ext.rfl' _))); simp only [List.toList_toArray, List.take_succ_cons, List.take_zero, List.drop_succ_cons, List.drop_zero])
        (refine Ph.walkI_is (u := ?_) rfl (by simp) rfl ?_ ?_ (by simp) (by simp [byteSys]); rotate_left; (focus (intro A w' cc hG hA K hK; (simp only [List.map_cons, List.map_nil, knows, Is, Op.operands, Call.operands, List.lookup_cons, List.lookup_nil, Nat.reduceBEq, Bool.false_eq_true, if_false, if_true, Act.eval, Array.getD_eq_getD_getElem?, List.getElem?_toArray, List.getElem?_cons_succ, List.getElem?_cons_zero, Option.getD_some, and_true, true_and, List.append_toArray, List.nil_append, List.cons_append, List.toList_toArray, Array.toList_append, Option.toArray, List.append_nil] at hA); first | fail | (go_simp; exact hK _ (by repeat (first | (with_reducible assumption) | (with_reducible exact Ext.rfl' _) | (with_reducible exact Ext.new _ _) | (with_reducible refine Ext.alloc' ?_ _) | (with_reducible refine Ext.drew' ?_) | (with_reducible refine Ext.drewN' ?_ _) | (with_reducible refine Ext.set' ?_ ?_ _; rotate_left; (focus (first | omega | (simp; done) | (simp; omega)))) | (with_reducible refine Ext.then (b := ?_) ?_ ?_; rotate_left; rotate_left; (with_reducible assumption))))))); (try simp only [List.nil_append, List.cons_append]))
        (refine Ph.walkI_is (u := ?_) rfl (by simp) rfl ?_ ?_ (by simp) (by simp [byteSys]); rotate_left; (focus (intro A w' cc hG hA K hK; (simp only [List.map_cons, List.map_nil, knows, Is, Op.operands, Call.operands, List.lookup_cons, List.lookup_nil, Nat.reduceBEq, Bool.false_eq_true, if_false, if_true, Act.eval, Array.getD_eq_getD_getElem?, List.getElem?_toArray, List.getElem?_cons_succ, List.getElem?_cons_zero, Option.getD_some, and_true, true_and, List.append_toArray, List.nil_append, List.cons_append, List.toList_toArray, Array.toList_append, Option.toArray, List.append_nil] at hA); first | fail | (go_simp; exact hK _ (by repeat (first | (with_reducible assumption) | (with_reducible exact Ext.rfl' _) | (with_reducible exact Ext.new _ _) | (with_reducible refine Ext.alloc' ?_ _) | (with_reducible refine Ext.drew' ?_) | (with_reducible refine Ext.drewN' ?_ _) | (with_reducible refine Ext.set' ?_ ?_ _; rotate_left; (focus (first | omega | (simp; done) | (simp; omega)))) | (with_reducible refine Ext.then (b := ?_) ?_ ?_; rotate_left; rotate_left; (with_reducible assumption))))))); (try simp only [List.nil_append, List.cons_append]))
        (refine Ph.walkI_is (u := ?_) rfl (by simp) rfl ?_ ?_ (by simp) (by simp [byteSys]); rotate_left; (focus (intro A w' cc hG hA K hK; (simp only [List.map_cons, List.map_nil, knows, Is, Op.operands, Call.operands, List.lookup_cons, List.lookup_nil, Nat.reduceBEq, Bool.false_eq_true, if_false, if_true, Act.eval, Array.getD_eq_getD_getElem?, List.getElem?_toArray, List.getElem?_cons_succ, List.getElem?_cons_zero, Option.getD_some, and_true, true_and, List.append_toArray, List.nil_append, List.cons_append, List.toList_toArray, Array.toList_append, Option.toArray, List.append_nil] at hA); first | fail | (go_simp; exact hK _ (by repeat (first | (with_reducible assumption) | (with_reducible exact Ext.rfl' _) | (with_reducible exact Ext.new _ _) | (with_reducible refine Ext.alloc' ?_ _) | (with_reducible refine Ext.drew' ?_) | (with_reducible refine Ext.drewN' ?_ _) | (with_reducible refine Ext.set' ?_ ?_ _; rotate_left; (focus (first | omega | (simp; done) | (simp; omega)))) | (with_reducible refine Ext.then (b := ?_) ?_ ?_; rotate_left; rotate_left; (with_reducible assumption))))))); (try simp only [List.nil_append, List.cons_append]))
        (refine Ph.walkI_is (u := ?_) rfl (by simp) rfl ?_ ?_ (by simp) (by simp [byteSys]); rotate_left; (focus (intro A w' cc hG hA K hK; (simp only [List.map_cons, List.map_nil, knows, Is, Op.operands, Call.operands, List.lookup_cons, List.lookup_nil, Nat.reduceBEq, Bool.false_eq_true, if_false, if_true, Act.eval, Array.getD_eq_getD_getElem?, List.getElem?_toArray, List.getElem?_cons_succ, List.getElem?_cons_zero, Option.getD_some, and_true, true_and, List.append_toArray, List.nil_append, List.cons_append, List.toList_toArray, Array.toList_append, Option.toArray, List.append_nil] at hA); first | fail | (go_simp; exact hK _ (by repeat (first | (with_reducible assumption) | (with_reducible exact Ext.rfl' _) | (with_reducible exact Ext.new _ _) | (with_reducible refine Ext.alloc' ?_ _) | (with_reducible refine Ext.drew' ?_) | (with_reducible refine Ext.drewN' ?_ _) | (with_reducible refine Ext.set' ?_ ?_ _; rotate_left; (focus (first | omega | (simp; done) | (simp; omega)))) | (with_reducible refine Ext.then (b := ?_) ?_ ?_; rotate_left; rotate_left; (with_reducible assumption))))))); (try simp only [List.nil_append, List.cons_append]))
        (refine Ph.walkI_is (u := ?_) rfl (by simp) rfl ?_ ?_ (by simp) (by simp [byteSys]); rotate_left; (focus (intro A w' cc hG hA K hK; (simp only [List.map_cons, List.map_nil, knows, Is, Op.operands, Call.operands, List.lookup_cons, List.lookup_nil, Nat.reduceBEq, Bool.false_eq_true, if_false, if_true, Act.eval, Array.getD_eq_getD_getElem?, List.getElem?_toArray, List.getElem?_cons_succ, List.getElem?_cons_zero, Option.getD_some, and_true, true_and, List.append_toArray, List.nil_append, List.cons_append, List.toList_toArray, Array.toList_append, Option.toArray, List.append_nil] at hA); first | fail | (go_simp; exact hK _ (by repeat (first | (with_reducible assumption) | (with_reducible exact Ext.rfl' _) | (with_reducible exact Ext.new _ _) | (with_reducible refine Ext.alloc' ?_ _) | (with_reducible refine Ext.drew' ?_) | (with_reducible refine Ext.drewN' ?_ _) | (with_reducible refine Ext.set' ?_ ?_ _; rotate_left; (focus (first | omega | (simp; done) | (simp; omega)))) | (with_reducible refine Ext.then (b := ?_) ?_ ?_; rotate_left; rotate_left; (with_reducible assumption))))))); (try simp only [List.nil_append, List.cons_append]))
        (refine Ph.walkI_step (fun v w' => ∃ n, n ≤ 30 ∧ AnyB W2.heap.size n v w') rfl (by simp) rfl (fun c v a b _ ⟨n, q1, q2⟩ hL => ⟨n, q1, q2.keep hL⟩) ?_ ?_ (by simp) (by simp [byteSys]); (focus (intro A w' cc hG hA K hK; (simp only [List.map_cons, List.map_nil, knows, Is, Op.operands, Call.operands, List.lookup_cons, List.lookup_nil, Nat.reduceBEq, Bool.false_eq_true, if_false, if_true, Act.eval, Array.getD_eq_getD_getElem?, List.getElem?_toArray, List.getElem?_cons_succ, List.getElem?_cons_zero, Option.getD_some, and_true, true_and, List.append_toArray, List.nil_append, List.cons_append, List.toList_toArray, Array.toList_append, Option.toArray, List.append_nil] at hA); (have hG' : Ext W2 w' := hG; go_simp; refine (hfew.out _ (hraw14.mono mono_ByteR hG'.ple)).mono ?_; rintro e w'' ⟨v, rfl, ho, hbx⟩; exact hK _ _ hbx ⟨_, by simp only [List.length_take]; omega, AnyB.ofOwn (ho.base hG'.size)⟩))); (try simp only [List.nil_append, List.cons_append]))
        (refine Ph.walkI_step (fun v w' => ∃ g, v = .slice (some ⟨g, 0, none⟩) 0 0 ∧ AnyB W2.heap.size 0 v w') rfl (by simp) rfl (fun c v a b _ ⟨g, q1, q2⟩ hL => ⟨g, q1, q2.keep hL⟩) ?_ ?_ (by simp) (by simp [byteSys]); (focus (intro A w' cc hG hA K hK; (simp only [List.map_cons, List.map_nil, knows, Is, Op.operands, Call.operands, List.lookup_cons, List.lookup_nil, Nat.reduceBEq, Bool.false_eq_true, if_false, if_true, Act.eval, Array.getD_eq_getD_getElem?, List.getElem?_toArray, List.getElem?_cons_succ, List.getElem?_cons_zero, Option.getD_some, and_true, true_and, List.append_toArray, List.nil_append, List.cons_append, List.toList_toArray, Array.toList_append, Option.toArray, List.append_nil] at hA); (have hG' : Ext W2 w' := hG; go_simp; exact hK _ _ (Ext.new _ _) ⟨_, rfl, .inr ⟨_, 0, #[], rfl, hG'.size, Own.new _ _ _, by omega, by simp [maxLen], rfl, by omega⟩⟩))); (try simp only [List.nil_append, List.cons_append]))
        (refine Ph.walkI_is (u := ?_) rfl (by simp) rfl ?_ ?_ (by simp) (by simp [byteSys]); rotate_left; (focus (intro A w' cc hG hA K hK; (simp only [List.map_cons, List.map_nil, knows, Is, Op.operands, Call.operands, List.lookup_cons, List.lookup_nil, Nat.reduceBEq, Bool.false_eq_true, if_false, if_true, Act.eval, Array.getD_eq_getD_getElem?, List.getElem?_toArray, List.getElem?_cons_succ, List.getElem?_cons_zero, Option.getD_some, and_true, true_and, List.append_toArray, List.nil_append, List.cons_append, List.toList_toArray, Array.toList_append, Option.toArray, List.append_nil] at hA); first | fail | (go_simp; exact hK _ (by repeat (first | (with_reducible assumption) | (with_reducible exact Ext.rfl' _) | (with_reducible exact Ext.new _ _) | (with_reducible refine Ext.alloc' ?_ _) | (with_reducible refine Ext.drew' ?_) | (with_reducible refine Ext.drewN' ?_ _) | (with_reducible refine Ext.set' ?_ ?_ _; rotate_left; (focus (first | omega | (simp; done) | (simp; omega)))) | (with_reducible refine Ext.then (b := ?_) ?_ ?_; rotate_left; rotate_left; (with_reducible assumption))))))); (try simp only [List.nil_append, List.cons_append]))
        (refine Ph.walkI_stepL (fun v w' => AnyB W2.heap.size (enc t).length v w') rfl (by simp) rfl (fun c v a b _ q1 hL => q1.keep hL) ?_ ?_ (by simp) (by simp [byteSys]); (focus (intro A w' cc hG hA K hK; (simp only [List.map_cons, List.map_nil, knows, Is, Op.operands, Call.operands, List.lookup_cons, List.lookup_nil, Nat.reduceBEq, Bool.false_eq_true, if_false, if_true, Act.eval, Array.getD_eq_getD_getElem?, List.getElem?_toArray, List.getElem?_cons_succ, List.getElem?_cons_zero, Option.getD_some, and_true, true_and, List.append_toArray, List.nil_append, List.cons_append, List.toList_toArray, Array.toList_append, Option.toArray, List.append_nil] at hA); (have hG' : Ext W2 w' := hG; obtain ⟨⟨g', hA1, hA2⟩, hA3⟩ := hA; rw [hA1] at hA2; refine oper_append_any (.tmp 134) (.tmp 135) 46 rfl i0 Try.underlying46 hi0 hz0 hz1 hz2 (v := .slice (some ⟨g', 0, none⟩) 0 0) (n := 0) (ys := enc t) (by simpa [Act.eval] using hA1) (by simpa [Act.eval] using hA3) hA2 ((Src.ofRep (hBX.mono mono_ByteR hG'.ple) (PLe.refl _)).noB) hG'.size (by omega) ?_; intro v' w'' h1 h2; exact hK _ _ h2 (Lb.ext hG' h2) (by simpa using h1)))); (try simp only [List.nil_append, List.cons_append]))
        (refine Ph.walkI_is (u := ?_) rfl (by simp) rfl ?_ ?_ (by simp) (by simp [byteSys]); rotate_left; (focus (intro A w' cc hG hA K hK; (simp only [List.map_cons, List.map_nil, knows, Is, Op.operands, Call.operands, List.lookup_cons, List.lookup_nil, Nat.reduceBEq, Bool.false_eq_true, if_false, if_true, Act.eval, Array.getD_eq_getD_getElem?, List.getElem?_toArray, List.getElem?_cons_succ, List.getElem?_cons_zero, Option.getD_some, and_true, true_and, List.append_toArray, List.nil_append, List.cons_append, List.toList_toArray, Array.toList_append, Option.toArray, List.append_nil] at hA); first | fail | (go_simp; exact hK _ (by repeat (first | (with_reducible assumption) | (with_reducible exact Ext.rfl' _) | (with_reducible exact Ext.new _ _) | (with_reducible refine Ext.alloc' ?_ _) | (with_reducible refine Ext.drew' ?_) | (with_reducible refine Ext.drewN' ?_ _) | (with_reducible refine Ext.set' ?_ ?_ _; rotate_left; (focus (first | omega | (simp; done) | (simp; omega)))) | (with_reducible refine Ext.then (b := ?_) ?_ ?_; rotate_left; rotate_left; (with_reducible assumption))))))); (try simp only [List.nil_append, List.cons_append]))
        (refine Ph.walkI_step (fun v w' => ∃ g, v = .slice (some ⟨g, 0, none⟩) 1 1 ∧ AnyB W2.heap.size 1 v w') rfl (by simp) rfl (fun c v a b _ ⟨g, q1, q2⟩ hL => ⟨g, q1, q2.keep hL⟩) ?_ ?_ (by simp) (by simp [byteSys]); (focus (intro A w' cc hG hA K hK; (simp only [List.map_cons, List.map_nil, knows, Is, Op.operands, Call.operands, List.lookup_cons, List.lookup_nil, Nat.reduceBEq, Bool.false_eq_true, if_false, if_true, Act.eval, Array.getD_eq_getD_getElem?, List.getElem?_toArray, List.getElem?_cons_succ, List.getElem?_cons_zero, Option.getD_some, and_true, true_and, List.append_toArray, List.nil_append, List.cons_append, List.toList_toArray, Array.toList_append, Option.toArray, List.append_nil] at hA); (have hG' : Ext W2 w' := hG; go_simp; exact hK _ _ (Ext.new _ _) ⟨_, rfl, .inr ⟨_, 1, #[.int .u8 x.toNat], rfl, hG'.size, Own.new _ _ _, by omega, by simp [maxLen], rfl, fun j hj => ⟨x, by obtain rfl : j = 0 := (by omega); rfl⟩⟩⟩))); (try simp only [List.nil_append, List.cons_append]))
        (refine Ph.walkI_stepL (fun v w' => AnyB W2.heap.size ((enc t).length + 1) v w') rfl (by simp) rfl (fun c v a b _ q1 hL => q1.keep hL) ?_ ?_ (by simp) (by simp [byteSys]); (focus (intro A w' cc hG hA K hK; (simp only [List.map_cons, List.map_nil, knows, Is, Op.operands, Call.operands, List.lookup_cons, List.lookup_nil, Nat.reduceBEq, Bool.false_eq_true, if_false, if_true, Act.eval, Array.getD_eq_getD_getElem?, List.getElem?_toArray, List.getElem?_cons_succ, List.getElem?_cons_zero, Option.getD_some, and_true, true_and, List.append_toArray, List.nil_append, List.cons_append, List.toList_toArray, Array.toList_append, Option.toArray, List.append_nil] at hA); (have hG' : Ext W2 w' := hG; obtain ⟨h136, g', hA1, hA2⟩ := hA; obtain ⟨ys, hyl, hys⟩ := hA2.own; refine oper_append_any (.tmp 136) (.tmp 138) 46 rfl i0 Try.underlying46 hi0 hz0 hz1 hz2 (v := A.tmps[136]?.getD undef) (vx := A.tmps[138]?.getD undef) (n := (enc t).length) (ys := ys) (by simp [Act.eval]) (by simp [Act.eval]) h136 (Src.ofOwn hys) hG'.size (by omega) ?_; intro v' w'' h1 h2; exact hK _ _ h2 (Lb.ext hG' h2) (by rw [hyl] at h1; exact h1)))); (try simp only [List.nil_append, List.cons_append]))
        (refine Ph.walkI_nil ?_; simp only [List.nil_append, List.cons_append, fins, Is, forall_eq, Act.put, List.setIfInBounds_toArray, List.set_cons_zero, List.set_cons_succ])
        rintro w20 hG20 v133 ⟨n133, hn133, h133⟩ v134 - v136 - v138 - v139 h139
        have hx20 : Ext W2 w20 := hG20
        have hq0 := hA17.keep (Lb.ofExt hx20)
        obtain ⟨z0, hz0l, hz0r⟩ := hq0.rep
        have hz1r : BytesR (ph w20) (.slice ex q fx) ((enc t).take q) := (hBX.mono mono_ByteR hx20.ple).pre q (by omega)
        have hz1l : ((enc t).take q).length = q := by rw [List.length_take]; omega
        obtain ⟨z2, hz2l, hz2r⟩ := h133.rep
        obtain ⟨z3, hz3l, hz3r⟩ := h139.rep
        obtain ⟨a133, c133, rfl⟩ := h133.form
        obtain ⟨a139, c139, rfl⟩ := h139.form
        have hall : ∀ j, j < 4 → ∃ a n cp zs, (#[.slice (some ⟨g16, 0, none⟩) (enc t).length c16, .slice ex q fx, .slice a133 n133 c133, .slice a139 ((enc t).length + 1) c139] : Array Value)[j]? = some (.slice a n cp) ∧ BytesR (ph w20) (.slice a n cp) zs ∧ n = zs.length ∧ zs.length ≤ 280000 := by
          intro j hj
          match j, hj with
          | 0, _ => exact ⟨_, _, _, z0, rfl, hz0r, hz0l.symm, by omega⟩
          | 1, _ => exact ⟨_, _, _, _, rfl, hz1r, hz1l.symm, by omega⟩
          | 2, _ => exact ⟨_, _, _, z2, rfl, hz2r, hz2l.symm, by omega⟩
          | 3, _ => exact ⟨_, _, _, z3, rfl, hz3r, hz3l.symm, by omega⟩
        replace hall := Lib.hid hall
        have hL := Own.new w20 #[.slice (some ⟨g16, 0, none⟩) (enc t).length c16, .slice ex q fx, .slice a133 n133 c133, .slice a139 ((enc t).length + 1) c139] 46
        have hx21 : Ext w1 (w20.alloc (.cells #[.slice (some ⟨g16, 0, none⟩) (enc t).length c16, .slice ex q fx, .slice a133 n133 c133, .slice a139 ((enc t).length + 1) c139] 46)) := (by repeat (first | (with_reducible assumption) | (with_reducible exact Ext.rfl' _) | (with_reducible exact Ext.new _ _) | (with_reducible refine Ext.alloc' ?_ _) | (with_reducible refine Ext.drew' ?_) | (with_reducible refine Ext.drewN' ?_ _) | (with_reducible refine Ext.set' ?_ ?_ _; rotate_left; (focus (first | omega | (simp; done) | (simp; omega)))) | (with_reducible refine Ext.then (b := ?_) ?_ ?_; rotate_left; rotate_left; (with_reducible assumption))))
        have hx22 := Ext.new w20 (.cells #[.slice (some ⟨g16, 0, none⟩) (enc t).length c16, .slice ex q fx, .slice a133 n133 c133, .slice a139 ((enc t).length + 1) c139] 46)
        clear hz0l hz0r hz1r hz1l hz2l hz2r hz3l hz3r hq0 h133 h139 hA17 hx20 hG20 hBX hraw14 hfew hcl hqf hxW2 hx17 hx15 x0 x1 x2
        go_wp2_with fail
        generalize w20.alloc _ = W3 at *
        go_loopw [27] (fun i wq => ∃ j : Nat, j ≤ 4 ∧ i = .int .i64 j ∧ Ext W3 wq) (fun i _ => 4 - (intOf i).toNat)
        case atStart => exact ⟨0, by omega, rfl, (by repeat (first | (with_reducible assumption) | (with_reducible exact Ext.rfl' _) | (with_reducible exact Ext.new _ _) | (with_reducible refine Ext.alloc' ?_ _) | (with_reducible refine Ext.drew' ?_) | (with_reducible refine Ext.drewN' ?_ _) | (with_reducible refine Ext.set' ?_ ?_ _; rotate_left; (focus (first | omega | (simp; done) | (simp; omega)))) | (with_reducible refine Ext.then (b := ?_) ?_ ?_; rotate_left; rotate_left; (with_reducible assumption))))⟩
        case round =>
          obtain ⟨j, hj, rfl, hxq⟩ := hrel
          by_cases hj4 : j < 4
          · obtain ⟨a, n, cp, zs, hc, hzr, rfl, hzl⟩ := hall.out j hj4
            have hLq := hL.keep hxq
            have hcj := hLq.facts.1 j
            rw [hc] at hcj
            replace hzr := hzr.mono mono_ByteR (hx22.then hxq).ple
            clear hLq hc
            go_wp2_with fail
            refine (decode_c _ zs _ hzr (by omega) (fun t' h1 _ => by have := bulk_le_enc t'; rw [← h1] at this; omega)).mono ?_
            rintro e w22 ⟨H22, cs, u, er, rfl, hT, hU, hb22, hcase⟩
            have hTu := mono_ThingR _ _ _ _ (hU.trans (up_ple (noH_le _) hb22)) hT
            have hub : u.bulk ≤ 280000 := by
              rcases hcase with ⟨-, h1, -, -⟩ | ⟨-, h1, -⟩
              · have := bulk_le_enc u; rw [← h1] at this; omega
              · rw [h1]; simp [Thing.bulk, bulks]
            obtain ⟨b1, d1, b2, d2, b3, d3, rfl, -⟩ := hT.form
            replace hcj := hb22.cell1 hcj
            replace hzr := hzr.mono mono_ByteR hb22.ple
            have hbx := Own.new w22 #[.slice b1 u.cls.length d1, .slice b2 u.vals.length d2, .slice b3 u.parts.length d3] 29
            have hx23 : Ext W3 w22 := (by repeat (first | (with_reducible assumption) | (with_reducible exact Ext.rfl' _) | (with_reducible exact Ext.new _ _) | (with_reducible refine Ext.alloc' ?_ _) | (with_reducible refine Ext.drew' ?_) | (with_reducible refine Ext.drewN' ?_ _) | (with_reducible refine Ext.set' ?_ ?_ _; rotate_left; (focus (first | omega | (simp; done) | (simp; omega)))) | (with_reducible refine Ext.then (b := ?_) ?_ ?_; rotate_left; rotate_left; (with_reducible assumption))))
            have hlj := cell_lt hcj
            clear hT hU hb22 hxq
            go_wp2_with fail
            refine (encode_c u [_, _, _] _ (mono_ThingR _ _ _ _ (Ext.ple (by repeat (first | (with_reducible assumption) | (with_reducible exact Ext.rfl' _) | (with_reducible exact Ext.new _ _) | (with_reducible refine Ext.alloc' ?_ _) | (with_reducible refine Ext.drew' ?_) | (with_reducible refine Ext.drewN' ?_ _) | (with_reducible refine Ext.set' ?_ ?_ _; rotate_left; (focus (first | omega | (simp; done) | (simp; omega)))) | (with_reducible refine Ext.then (b := ?_) ?_ ?_; rotate_left; rotate_left; (with_reducible assumption))))) hTu) (by omega)).mono ?_
            rintro e w23 ⟨vd, rfl, hO23, hb23⟩
            have hBd := hO23.rep mono_ByteR (noH_le _)
            obtain ⟨e1, f1, rfl, -⟩ := hO23.form
            have hx24 : Ext w22 w23 := (by repeat (first | (with_reducible assumption) | (with_reducible exact Ext.rfl' _) | (with_reducible exact Ext.new _ _) | (with_reducible refine Ext.alloc' ?_ _) | (with_reducible refine Ext.drew' ?_) | (with_reducible refine Ext.drewN' ?_ _) | (with_reducible refine Ext.set' ?_ ?_ _; rotate_left; (focus (first | omega | (simp; done) | (simp; omega)))) | (with_reducible refine Ext.then (b := ?_) ?_ ?_; rotate_left; rotate_left; (with_reducible assumption))))
            replace hcj := hx24.cell1 hcj
            replace hlj := cell_lt hcj
            replace hzr := hzr.mono mono_ByteR hx24.ple
            replace hTu := mono_ThingR _ _ _ _ hx24.ple hTu
            replace hbx := hbx.keep hb23
            obtain ⟨hbc, hbf⟩ := hbx.facts
            replace hx23 := hx23.then hx24
            clear hO23 hb23 hx24
            rcases hcase with ⟨rfl, h1, h2, h3⟩ | ⟨rfl, rfl, hno⟩
            · have he2 : encOf u = zs := by unfold encOf; rw [if_pos h3, h1]
              rw [he2] at hBd ⊢
              rw [h3]
              clear he2 h1 h2 h3
              go_wp2_with fail
              refine RetV_at (sameBytes_c _ _ zs zs _ hBd hzr) ?_
              intro w24 hb24
              rw [B_t rfl]
              go_wp2_with fail
              go_roundw
              case rel => exact ⟨j + 1, by omega, by go_num, (by repeat (first | (with_reducible assumption) | (with_reducible exact Ext.rfl' _) | (with_reducible exact Ext.new _ _) | (with_reducible refine Ext.alloc' ?_ _) | (with_reducible refine Ext.drew' ?_) | (with_reducible refine Ext.drewN' ?_ _) | (with_reducible refine Ext.set' ?_ ?_ _; rotate_left; (focus (first | omega | (simp; done) | (simp; omega)))) | (with_reducible refine Ext.then (b := ?_) ?_ ?_; rotate_left; rotate_left; (with_reducible assumption))))⟩
              case measure => simp [intOf]; omega
            · generalize validV (.mk [] [] []) = zv at *
              generalize (encOf (.mk [] [] [])).length = ze at *
              clear hno hBd
              have hEm : ThingR (ph w23) [.slice none 0 0, .slice none 0 0, .slice none 0 0] (.mk [] [] []) := thingR_iff.2 ⟨_, _, _, rfl, SliceRep.nil _ _ _, SliceRep.nil _ _ _, SliceRep.nil _ _ _⟩
              replace hTu := Lib.hid hTu
              replace hEm := Lib.hid hEm
              go_wp2_with fail
              refine RetV_at (same_c (.mk [] [] []) (.mk [] [] []) [_, _, _] [_, _, _] _ hTu.out hEm.out (by omega) (by omega)) ?_
              intro w24 hb24
              rw [B_t rfl]
              go_wp2_with fail
              go_roundw
              case rel => exact ⟨j + 1, by omega, by go_num, (by repeat (first | (with_reducible assumption) | (with_reducible exact Ext.rfl' _) | (with_reducible exact Ext.new _ _) | (with_reducible refine Ext.alloc' ?_ _) | (with_reducible refine Ext.drew' ?_) | (with_reducible refine Ext.drewN' ?_ _) | (with_reducible refine Ext.set' ?_ ?_ _; rotate_left; (focus (first | omega | (simp; done) | (simp; omega)))) | (with_reducible refine Ext.then (b := ?_) ?_ ?_; rotate_left; rotate_left; (with_reducible assumption))))⟩
              case measure => simp [intOf]; omega
          · go_wp2_with fail
            go_roundw
            case rel => exact ⟨k + 1, by omega, by go_num, (by repeat (first | (with_reducible assumption) | (with_reducible exact Ext.rfl' _) | (with_reducible exact Ext.new _ _) | (with_reducible refine Ext.alloc' ?_ _) | (with_reducible refine Ext.drew' ?_) | (with_reducible refine Ext.drewN' ?_ _) | (with_reducible refine Ext.set' ?_ ?_ _; rotate_left; (focus (first | omega | (simp; done) | (simp; omega)))) | (with_reducible refine Ext.then (b := ?_) ?_ ?_; rotate_left; rotate_left; (with_reducible assumption))))⟩
            case measure => simp [intOf]; omega
      · have hvb : (validV t == 0) = false := by simpa using hv
        rw [if_neg hv] at henc
        rw [henc] at hBX ⊢
        go_wp2_with fail
        refine RetV_at (valid_r t [_, _, _] _ (mono_ThingR _ _ _ _ hx5.ple hE.out) (by omega)) ?_
        intro w6 hb6
        have hx6 : Ext w1 w6 := (by repeat (first | (with_reducible assumption) | (with_reducible exact Ext.rfl' _) | (with_reducible exact Ext.new _ _) | (with_reducible refine Ext.alloc' ?_ _) | (with_reducible refine Ext.drew' ?_) | (with_reducible refine Ext.drewN' ?_ _) | (with_reducible refine Ext.set' ?_ ?_ _; rotate_left; (focus (first | omega | (simp; done) | (simp; omega)))) | (with_reducible refine Ext.then (b := ?_) ?_ ?_; rotate_left; rotate_left; (with_reducible assumption))))
        replace hBX := hBX.mono mono_ByteR hb6.ple
        clear gc gf gs hx5 hb6
        obtain ⟨gc, gf, gs⟩ := hx6.cells
        have hbl6 : ab < w6.heap.size := by omega
        go_wp2_with fail
        refine (refEnc_c t [_, _, _] _ (mono_ThingR _ _ _ _ (Ext.ple (by repeat (first | (with_reducible assumption) | (with_reducible exact Ext.rfl' _) | (with_reducible exact Ext.new _ _) | (with_reducible refine Ext.alloc' ?_ _) | (with_reducible refine Ext.drew' ?_) | (with_reducible refine Ext.drewN' ?_ _) | (with_reducible refine Ext.set' ?_ ?_ _; rotate_left; (focus (first | omega | (simp; done) | (simp; omega)))) | (with_reducible refine Ext.then (b := ?_) ?_ ?_; rotate_left; rotate_left; (with_reducible assumption))))) hE.out) (by omega)).mono ?_
        rintro e w7 ⟨v7, rfl, ho7, hb7⟩
        have hW := (Wr.fresh w6).keep hb7
        have hBR := ho7.rep mono_ByteR (noH_le _)
        have hx7 : Ext w6 w7 := (by repeat (first | (with_reducible assumption) | (with_reducible exact Ext.rfl' _) | (with_reducible exact Ext.new _ _) | (with_reducible refine Ext.alloc' ?_ _) | (with_reducible refine Ext.drew' ?_) | (with_reducible refine Ext.drewN' ?_ _) | (with_reducible refine Ext.set' ?_ ?_ _; rotate_left; (focus (first | omega | (simp; done) | (simp; omega)))) | (with_reducible refine Ext.then (b := ?_) ?_ ?_; rotate_left; rotate_left; (with_reducible assumption))))
        obtain ⟨y7, z7, rfl, -⟩ := ho7.form
        clear gc gf gs hb7 ho7
        go_wp2_with fail
        refine (wraw_c w6.heap.size w6.heap.size none [] (enc t) _ _ hW hBR (by simp only [List.length_nil]; omega)).mono ?_
        rintro e w8 ⟨rfl, row, hW8, hX8, -⟩
        have hx8 : Ext w6 w8 := hX8.toExt hx7 (Nat.le_refl _) (fun i hi => by cases hi)
        have hul : (uvar (enc t).length).length ≤ 10 := uvar_len10 (by omega)
        have hst : [] ++ uvar (enc t).length ++ enc t = uvar (enc t).length ++ (enc t ++ []) := by simp
        rw [hst] at hW8
        have hsl : (uvar (enc t).length ++ (enc t ++ [])).length ≤ 4000000 := by simp only [List.length_append, List.length_nil]; omega
        have hlB := listB_some (enc t) [] (by omega)
        generalize uvar (enc t).length ++ (enc t ++ []) = st at *
        clear hX8 hW hBR hst hul
        go_wp2_with fail
        refine (done_c w6.heap.size w6.heap.size row _ _ hW8 (by omega)).mono ?_
        rintro e w9 ⟨v9, rfl, ho9, hb9⟩
        have hB9 := ho9.rep mono_ByteR (noH_le _)
        obtain ⟨y9, z9, rfl, -⟩ := ho9.form
        clear ho9 hW8
        go_wp2_with fail
        refine (rread_c _ _ _ hB9 (by omega)).mono ?_
        rintro e w10 ⟨HR, g, rfl, hg, hR10, hb10⟩
        have hsz10 : w6.heap.size ≤ w9.heap.size := by have h1 := hx8.size; have h2 := hb9.size; omega
        go_wp2_with fail
        refine (rraw_c g _ _ hR10 (by intro l hl; cases hl; omega)).mono ?_
        rintro e w11 ⟨v11, rfl, ho11, -, hX11⟩
        have hx10 : Ext w6 w10 := (by repeat (first | (with_reducible assumption) | (with_reducible exact Ext.rfl' _) | (with_reducible exact Ext.new _ _) | (with_reducible refine Ext.alloc' ?_ _) | (with_reducible refine Ext.drew' ?_) | (with_reducible refine Ext.drewN' ?_ _) | (with_reducible refine Ext.set' ?_ ?_ _; rotate_left; (focus (first | omega | (simp; done) | (simp; omega)))) | (with_reducible refine Ext.then (b := ?_) ?_ ?_; rotate_left; rotate_left; (with_reducible assumption))))
        have hx11 : Ext w1 w11 := hX11.toExt (hx6.then hx10) (by have := hx6.size; omega) (fun i hi => by cases hi)
        have hx611 : Ext w6 w11 := hX11.toExt hx10 (by omega) (fun i hi => by cases hi)
        rw [hlB] at ho11
        have hB11 : BytesR (ph w11) v11 (enc t) := ho11.rep mono_ByteR (noH_le _)
        obtain ⟨y11, z11, rfl, -⟩ : ∃ a cap, v11 = .slice a (enc t).length cap ∧ (enc t).length ≤ 9223372036854775807 := ho11.form
        replace hBX := hBX.mono mono_ByteR hx611.ple
        clear hlB hR10 hX11 ho11 hB9 hb10 hb9 hx8 hx7 hx6 hx10 hg hsz10 hx611 hsl
        go_wp2_with fail
        refine (decode_c _ (enc t) _ hB11 (by omega) (fun t' h1 h2 => by have e := (enc_inj hok (fits_ok 8 t' h2)).1 h1; rw [← e]; omega)).mono ?_
        rintro e w12 ⟨H12, cs, t', er, rfl, hT, hU, hb12, hcase⟩
        obtain ⟨rfl, rfl⟩ : er = 2 ∧ t' = .mk [] [] [] := by
          rcases hcase with ⟨q1, q2, q3, q4⟩ | ⟨q1, q2, -⟩
          · have e := (enc_inj hok hT.ok).1 q2
            rw [← e] at q4; exact absurd q4 hv
          · exact ⟨q1, q2⟩
        clear hcase
        obtain ⟨b1, d1, b2, d2, b3, d3, rfl, -⟩ := hT.form
        have hT12 := mono_ThingR _ _ _ _ (hU.trans (up_ple (noH_le _) hb12)) hT
        have hEm : ThingR (ph w12) [.slice none 0 0, .slice none 0 0, .slice none 0 0] (.mk [] [] []) := thingR_iff.2 ⟨_, _, _, rfl, SliceRep.nil _ _ _, SliceRep.nil _ _ _, SliceRep.nil _ _ _⟩
        replace hT12 := Lib.hid hT12
        replace hEm := Lib.hid hEm
        replace hv := Lib.hid hv
        clear hU hT hBX hB11
        go_wp2_with fail
        refine RetV_at (same_c (.mk [] [] []) (.mk [] [] []) [_, _, _] [_, _, _] _ (mono_ThingR _ _ _ _ (Ext.ple (by repeat (first | (with_reducible assumption) | (with_reducible exact Ext.rfl' _) | (with_reducible exact Ext.new _ _) | (with_reducible refine Ext.alloc' ?_ _) | (with_reducible refine Ext.drew' ?_) | (with_reducible refine Ext.drewN' ?_ _) | (with_reducible refine Ext.set' ?_ ?_ _; rotate_left; (focus (first | omega | (simp; done) | (simp; omega)))) | (with_reducible refine Ext.then (b := ?_) ?_ ?_; rotate_left; rotate_left; (with_reducible assumption))))) hT12.out) (mono_ThingR _ _ _ _ (Ext.ple (by repeat (first | (with_reducible assumption) | (with_reducible exact Ext.rfl' _) | (with_reducible exact Ext.new _ _) | (with_reducible refine Ext.alloc' ?_ _) | (with_reducible refine Ext.drew' ?_) | (with_reducible refine Ext.drewN' ?_ _) | (with_reducible refine Ext.set' ?_ ?_ _; rotate_left; (focus (first | omega | (simp; done) | (simp; omega)))) | (with_reducible refine Ext.then (b := ?_) ?_ ?_; rotate_left; rotate_left; (with_reducible assumption))))) hEm.out) (by simp [Thing.bulk, bulks]) (by simp [Thing.bulk, bulks])) ?_
        intro w14 hb14
        rw [B_t rfl]
        go_wp2_with fail
        go_roundw
        case rel => exact ⟨k + 1, by omega, by go_num, (by repeat (first | (with_reducible assumption) | (with_reducible exact Ext.rfl' _) | (with_reducible exact Ext.new _ _) | (with_reducible refine Ext.alloc' ?_ _) | (with_reducible refine Ext.drew' ?_) | (with_reducible refine Ext.drewN' ?_ _) | (with_reducible refine Ext.set' ?_ ?_ _; rotate_left; (focus (first | omega | (simp; done) | (simp; omega)))) | (with_reducible refine Ext.then (b := ?_) ?_ ?_; rotate_left; rotate_left; (with_reducible assumption))))⟩
        case measure => simp [intOf]; omega
    · clear hR
      go_wp2_with fail
      refine RetV_at (lives_c _) ?_
      intro w5 hb5
      go_wp2_with fail
      go_ret
      exact ⟨rfl, (by repeat (first | (with_reducible assumption) | (with_reducible exact Ext.rfl' _) | (with_reducible exact Ext.new _ _) | (with_reducible refine Ext.alloc' ?_ _) | (with_reducible refine Ext.drew' ?_) | (with_reducible refine Ext.drewN' ?_ _) | (with_reducible refine Ext.set' ?_ ?_ _; rotate_left; (focus (first | omega | (simp; done) | (simp; omega)))) | (with_reducible refine Ext.then (b := ?_) ?_ ?_; rotate_left; rotate_left; (with_reducible assumption))))⟩
end Go.Proofs.Ytebhdjeognpljaa
