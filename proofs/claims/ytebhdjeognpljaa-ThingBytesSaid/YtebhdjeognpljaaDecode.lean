/- thing.Decode; priorartref06.Same; priorartref01.Few. -/
import Derived.Test.YtebhdjeognpljaaReadThing
import Derived.Test.YtebhdjeognpljaaRefEnc
import Derived.Test.YtebhdjeognpljaaWRaw
namespace Go.Proofs.Ytebhdjeognpljaa
open Go.RowKit
set_option linter.unusedSimpArgs false
set_option linter.unusedVariables false
theorem same_c (t s : Thing) (cs ds : List Value) (w : World) (ht : ThingR (ph w) cs t) (hs : ThingR (ph w) ds s) (hb : t.bulk ≤ 1000000) (hb' : s.bulk ≤ 1000000) :
    Calls Try.prog 34 #[.agg cs.toArray, .agg ds.toArray] w (RetV w (.bool (B (t = s)))) := by
  obtain ⟨a1, c1, a2, c2, a3, c3, rfl, -⟩ := ht.form
  obtain ⟨b1, d1, b2, d2, b3, d3, rfl, -⟩ := hs.form
  have hcmp := (cmpT_ord t).eq s
  go_enter Try.func34, Try.ntmps34
  go_wp2_with fail
  refine RetV_at (compare_r t s [_, _, _] [_, _, _] _ (mono_ThingR _ _ _ _ (Ext.ple (by repeat (first | (with_reducible assumption) | (with_reducible exact Ext.rfl' _) | (with_reducible exact Ext.new _ _) | (with_reducible refine Ext.alloc' ?_ _) | (with_reducible refine Ext.drew' ?_) | (with_reducible refine Ext.drewN' ?_ _) | (with_reducible refine Ext.set' ?_ ?_ _; rotate_left; (focus (first | omega | (simp; done) | (simp; omega)))) | (with_reducible refine Ext.then (b := ?_) ?_ ?_; rotate_left; rotate_left; (with_reducible assumption))))) ht) (mono_ThingR _ _ _ _ (Ext.ple (by repeat (first | (with_reducible assumption) | (with_reducible exact Ext.rfl' _) | (with_reducible exact Ext.new _ _) | (with_reducible refine Ext.alloc' ?_ _) | (with_reducible refine Ext.drew' ?_) | (with_reducible refine Ext.drewN' ?_ _) | (with_reducible refine Ext.set' ?_ ?_ _; rotate_left; (focus (first | omega | (simp; done) | (simp; omega)))) | (with_reducible refine Ext.then (b := ?_) ?_ ?_; rotate_left; rotate_left; (with_reducible assumption))))) hs) hb hb') ?_
  intro w1 hb1
  by_cases h : t = s
  · rw [hcmp.2 h]
    go_wp2_with fail
    go_ret
    exact ⟨ret_t h, (by repeat (first | (with_reducible assumption) | (with_reducible exact Ext.rfl' _) | (with_reducible exact Ext.new _ _) | (with_reducible refine Ext.alloc' ?_ _) | (with_reducible refine Ext.drew' ?_) | (with_reducible refine Ext.drewN' ?_ _) | (with_reducible refine Ext.set' ?_ ?_ _; rotate_left; (focus (first | omega | (simp; done) | (simp; omega)))) | (with_reducible refine Ext.then (b := ?_) ?_ ?_; rotate_left; rotate_left; (with_reducible assumption))))⟩
  · have hz : (cmpT t s == 0) = false := by rw [beq_eq_false_iff_ne]; exact fun e => h (hcmp.1 e)
    clear hcmp
    go_wp2_with fail
    go_ret
    exact ⟨ret_f h, (by repeat (first | (with_reducible assumption) | (with_reducible exact Ext.rfl' _) | (with_reducible exact Ext.new _ _) | (with_reducible refine Ext.alloc' ?_ _) | (with_reducible refine Ext.drew' ?_) | (with_reducible refine Ext.drewN' ?_ _) | (with_reducible refine Ext.set' ?_ ?_ _; rotate_left; (focus (first | omega | (simp; done) | (simp; omega)))) | (with_reducible refine Ext.then (b := ?_) ?_ ?_; rotate_left; rotate_left; (with_reducible assumption))))⟩
theorem SliceRep.pre {α : Type} {E : PH → List Value → α → Prop} {sz : Nat} {h : PH} {a : Option Addr} {n cap : Nat} {xs : List α} (hr : SliceRep E sz h (.slice a n cap) xs) (k : Nat) (hk : k ≤ xs.length) : SliceRep E sz h (.slice a k cap) (xs.take k) := by
  obtain ⟨a', c', e, h1, h2, h3⟩ := hr
  cases e
  have hlk : (xs.take k).length = k := by rw [List.length_take]; omega
  refine ⟨a, cap, by rw [hlk], by omega, h2, ?_⟩
  rcases h3 with rfl | ⟨b, o, rfl, h3⟩
  · exact .inl (by simp)
  · refine .inr ⟨b, o, rfl, RowRep.of fun i hi => ?_⟩
    have hi' : i < xs.length := by rw [List.length_take] at hi; omega
    obtain ⟨cs, q1, q2, q3⟩ := h3.get i hi'
    exact ⟨cs, q1, q2, by simpa using q3⟩
set_option maxHeartbeats 400000 in
theorem few_c (vs : Value) (xs : List UInt8) (m : Nat) (w : World) (hs : BytesR (ph w) vs xs) (hm : m ≤ 1000000) :
    Calls Try.prog 35 #[vs, .int .i64 m] w (FreshB w (xs.take m)) := by
  obtain ⟨a, c, rfl, hl, hs⟩ := hs.form
  have hcl : xs.length ≤ c := by obtain ⟨_, _, e, h1, -⟩ := hs; cases e; exact h1
  have hM := MB.start w
  have hS : Src w noH ByteR 1 (.slice a (min (xs.length : Int) m).toNat c) (xs.take m) := by
    have h := (Src.ofRep (hs.pre (min xs.length m) (by omega)) (PLe.refl _)).noB
    rw [show (min (xs.length : Int) m).toNat = min xs.length m by omega]
    have e : xs.take (min xs.length m) = xs.take m := by
      rcases Nat.le_total xs.length m with h1 | h1
      · rw [Nat.min_eq_left h1, List.take_of_length_le h1, List.take_length]
      · rw [Nat.min_eq_right h1]
    rwa [e] at h
  have hlk : (xs.take m).length ≤ m := by rw [List.length_take]; omega
  go_enter Try.func35, Try.ntmps35
  go_wp2_with (at_builtin; refine wpList_append_B rfl _ _ 46 rfl Try.underlying46 infoByte rfl rfl rfl rfl (hM.keep (by repeat (first | (with_reducible assumption) | (with_reducible exact Ext.rfl' _) | (with_reducible exact Ext.new _ _) | (with_reducible refine Ext.alloc' ?_ _) | (with_reducible refine Ext.drew' ?_) | (with_reducible refine Ext.drewN' ?_ _) | (with_reducible refine Ext.set' ?_ ?_ _; rotate_left; (focus (first | omega | (simp; done) | (simp; omega)))) | (with_reducible refine Ext.then (b := ?_) ?_ ?_; rotate_left; rotate_left; (with_reducible assumption))))) (hS.keep (by repeat (first | (with_reducible assumption) | (with_reducible exact Ext.rfl' _) | (with_reducible exact Ext.new _ _) | (with_reducible refine Ext.alloc' ?_ _) | (with_reducible refine Ext.drew' ?_) | (with_reducible refine Ext.drewN' ?_ _) | (with_reducible refine Ext.set' ?_ ?_ _; rotate_left; (focus (first | omega | (simp; done) | (simp; omega)))) | (with_reducible refine Ext.then (b := ?_) ?_ ?_; rotate_left; rotate_left; (with_reducible assumption))))) ?c1 ?c2)
  case c1 => simp only [List.length_nil]; omega
  case c2 =>
    intro v' w2 hM2
    obtain ⟨a', c', rfl, -⟩ := hM2.form
    have hf := Lib.hid hM2.fresh
    clear hM hM2 hS hs
    go_wp2_with fail
    go_ret
    exact hf.out
theorem encVs_ge (l : List Val) : l.length ≤ (encVs l).length := by
  induction l with
  | nil => simp
  | cons x l ih =>
    have := encL_ge [x.attr, x.n.num, x.n.den]
    rw [encVs, List.flatMap_cons]
    simp only [List.length_cons, List.length_append, encV, List.length_nil] at *
    unfold encVs at ih
    omega
theorem bulk_le_enc (t : Thing) : t.bulk ≤ (enc t).length := by
  induction t using Thing.ind with
  | h t ih =>
    have h1 := encL_ge t.cls
    have h2 := encVs_ge t.vals
    have h3 : sumN Thing.bulk t.parts ≤ (encTs t.parts).length := by
      generalize t.parts = ps at *
      induction ps with
      | nil => simp [sumN]
      | cons p ps ih2 =>
        have := ih p (by simp)
        have := ih2 fun q hq => ih q (by simp [hq])
        rw [encTs]
        simp only [sumN, List.length_append]; omega
    have h4 := Lib.uvarint_pos t.cls.length
    rw [enc_eq, Thing.bulk_eq]
    simp only [List.length_append, encInts]
    unfold uvar
    omega
theorem ple_set {H : PH} {w x : World} {b j : Nat} {v : Value} (h : PLe H (up noH w x)) (hb : ∀ k o, H k = some o → b < k) : PLe H (up noH w (x.setCell ⟨b, j, none⟩ v)) := by
  intro k o hk
  have h1 := h k o hk
  have h2 := hb k o hk
  unfold up at *
  split at h1
  · cases h1
  · rename_i hlt
    rw [if_neg hlt]
    show (x.setCell ⟨b, j, none⟩ v).heap[k]? = some o
    rw [Below.heap_setCell _ _ _ _ (show k ≠ b by omega)]
    exact h1
/-- what Decode gives: a valid thing that is encoded so, or ErrForm and the empty thing -/
def DecP (w : World) (xs : List UInt8) (e : Ending) (w' : World) : Prop :=
  ∃ (H' : PH) (cs : List Value) (t : Thing) (er : Int), e = .returned (.tuple #[.agg cs.toArray, .int .i64 er]) ∧ ThingR H' cs t ∧ PLe H' (up noH w w') ∧ Ext w w' ∧
    ((er = 0 ∧ xs = enc t ∧ Fits 8 t ∧ validV t = 0) ∨ (er = 2 ∧ t = .mk [] [] [] ∧ ∀ t', xs = enc t' → Fits 8 t' → validV t' ≠ 0))
set_option maxRecDepth 100000 in
set_option maxHeartbeats 1000000 in
theorem decode_c (vs : Value) (xs : List UInt8) (w : World) (hs : BytesR (ph w) vs xs) (hlen : xs.length ≤ 100000000) (hbk : ∀ t, xs = enc t → Fits 8 t → t.bulk ≤ 1000000) :
    Calls Try.prog 33 #[vs] w (DecP w xs) := by
  replace hbk := Lib.hid hbk
  go_enter Try.func33, Try.ntmps33
  go_wp2_with fail
  refine (rread_c _ xs _ (hs.mono mono_ByteR (Ext.ple (by repeat (first | (with_reducible assumption) | (with_reducible exact Ext.rfl' _) | (with_reducible exact Ext.new _ _) | (with_reducible refine Ext.alloc' ?_ _) | (with_reducible refine Ext.drew' ?_) | (with_reducible refine Ext.drewN' ?_ _) | (with_reducible refine Ext.set' ?_ ?_ _; rotate_left; (focus (first | omega | (simp; done) | (simp; omega)))) | (with_reducible refine Ext.then (b := ?_) ?_ ?_; rotate_left; rotate_left; (with_reducible assumption)))))) (by omega)).mono ?_
  rintro e w1 ⟨HR, g, rfl, hg, hR, hb1⟩
  have hO := (Own.new w #[.slice none 0 0, .slice none 0 0, .slice none 0 0] 29).keep hb1
  have hx1 : Ext w w1 := (by repeat (first | (with_reducible assumption) | (with_reducible exact Ext.rfl' _) | (with_reducible exact Ext.new _ _) | (with_reducible refine Ext.alloc' ?_ _) | (with_reducible refine Ext.drew' ?_) | (with_reducible refine Ext.drewN' ?_ _) | (with_reducible refine Ext.set' ?_ ?_ _; rotate_left; (focus (first | omega | (simp; done) | (simp; omega)))) | (with_reducible refine Ext.then (b := ?_) ?_ ?_; rotate_left; rotate_left; (with_reducible assumption))))
  have hlt1 := hO.lt
  simp at hg
  clear hb1
  have hrd := tread_c (HR := HR) 8 (by omega) g (some xs) w1 hR (by intro l hl; cases hl; omega)
  rw [show (9 : Int) - ((8 : Nat) : Int) = 1 from rfl] at hrd
  obtain ⟨⟨⟨t, ok⟩, s⟩, hq⟩ : ∃ r, readS 8 (some xs) = r := ⟨_, rfl⟩
  rw [hq] at hrd
  simp only [] at hrd
  have hsm : Small s := by
    have := small_read 8 (some xs) (by intro l hl; cases hl; omega)
    rw [hq] at this; exact this
  go_wp2_with fail
  refine hrd.mono ?_
  rintro e w2 ⟨H5, cs, rfl, hT, hU, hR2, hX⟩
  have hx2 : Ext w w2 := hX.toExt hx1 (by omega) (fun i h => by cases h)
  replace hO := hO.keepW hX (by omega) (by simp)
  have hU2 : PLe H5 (up noH w w2) := hU.trans (up_sub (noH_le _) hx1)
  have hge : Hid (∀ k o, H5 k = some o → w.heap.size < k) := by
    intro k o hk
    have h1 := hU k o hk
    unfold up at h1
    split at h1
    · cases h1
    · omega
  obtain ⟨b1, d1, b2, d2, b3, d3, rfl, -⟩ := hT.form
  obtain ⟨hoc, hof⟩ := hO.facts
  have hbl := hO.lt
  clear hrd hU hX hR hs
  cases ok with
  | false =>
    have hno : ∀ t', xs = enc t' → Fits 8 t' → validV t' ≠ 0 := by
      intro t' h1 h2
      have := (readS_some 8 xs t' []).2 ⟨by simpa using h1, h2⟩
      rw [hq] at this; cases this
    replace hno := Lib.hid hno
    replace hq := Lib.hid hq
    have hx3 := Ext.new w2 (.cells #[.slice b1 t.cls.length d1, .slice b2 t.vals.length d2, .slice b3 t.parts.length d3] 29)
    go_wp2_with fail
    exact bodyPost_ret (v := .tuple #[.agg #[.slice none 0 0, .slice none 0 0, .slice none 0 0], .int .i64 2]) (by simp [results, Try.results33, go_sem, hoc, hof, hbl]) rfl ⟨noH, [.slice none 0 0, .slice none 0 0, .slice none 0 0], .mk [] [] [], 2, rfl, thingR_iff.2 ⟨_, _, _, rfl, SliceRep.nil _ _ _, SliceRep.nil _ _ _, SliceRep.nil _ _ _⟩, noH_le _, (by repeat (first | (with_reducible assumption) | (with_reducible exact Ext.rfl' _) | (with_reducible exact Ext.new _ _) | (with_reducible refine Ext.alloc' ?_ _) | (with_reducible refine Ext.drew' ?_) | (with_reducible refine Ext.drewN' ?_ _) | (with_reducible refine Ext.set' ?_ ?_ _; rotate_left; (focus (first | omega | (simp; done) | (simp; omega)))) | (with_reducible refine Ext.then (b := ?_) ?_ ?_; rotate_left; rotate_left; (with_reducible assumption)))), .inr ⟨rfl, rfl, hno.out⟩⟩
  | true =>
    replace hq := Lib.hid hq
    have hbox := Own.new w2 #[.slice b1 t.cls.length d1, .slice b2 t.vals.length d2, .slice b3 t.parts.length d3] 29
    go_wp2_with fail
    refine (rend_c g s _ (hR2.keep (by repeat (first | (with_reducible assumption) | (with_reducible exact Ext.rfl' _) | (with_reducible exact Ext.new _ _) | (with_reducible refine Ext.alloc' ?_ _) | (with_reducible refine Ext.drew' ?_) | (with_reducible refine Ext.drewN' ?_ _) | (with_reducible refine Ext.set' ?_ ?_ _; rotate_left; (focus (first | omega | (simp; done) | (simp; omega)))) | (with_reducible refine Ext.then (b := ?_) ?_ ?_; rotate_left; rotate_left; (with_reducible assumption))))) hsm).mono ?_
    rintro e w3 ⟨n, rfl, hn, hb3⟩
    have hx3 : Ext w2 w3 := (by repeat (first | (with_reducible assumption) | (with_reducible exact Ext.rfl' _) | (with_reducible exact Ext.new _ _) | (with_reducible refine Ext.alloc' ?_ _) | (with_reducible refine Ext.drew' ?_) | (with_reducible refine Ext.drewN' ?_ _) | (with_reducible refine Ext.set' ?_ ?_ _; rotate_left; (focus (first | omega | (simp; done) | (simp; omega)))) | (with_reducible refine Ext.then (b := ?_) ?_ ?_; rotate_left; rotate_left; (with_reducible assumption))))
    replace hO := hO.keep hx3
    replace hbox := hbox.keep hb3
    obtain ⟨hoc, hof⟩ := hO.facts
    obtain ⟨hbc, hbf⟩ := hbox.facts
    have hbl := hO.lt
    have hbl2 := hbox.lt
    have hx4 : Ext w w3 := (by repeat (first | (with_reducible assumption) | (with_reducible exact Ext.rfl' _) | (with_reducible exact Ext.new _ _) | (with_reducible refine Ext.alloc' ?_ _) | (with_reducible refine Ext.drew' ?_) | (with_reducible refine Ext.drewN' ?_ _) | (with_reducible refine Ext.set' ?_ ?_ _; rotate_left; (focus (first | omega | (simp; done) | (simp; omega)))) | (with_reducible refine Ext.then (b := ?_) ?_ ?_; rotate_left; rotate_left; (with_reducible assumption))))
    have hU4 : PLe H5 (up noH w w3) := hU2.trans (up_then hx2 hx3)
    clear hb3 hx3 hR2
    by_cases h0 : n = 0
    · subst h0
      obtain ⟨hxs, hfit⟩ := (readS_some 8 xs t []).1 (by rw [hq.out, hn.1 rfl])
      rw [List.append_nil] at hxs
      replace hbk := hbk.out t hxs hfit
      replace hxs := Lib.hid hxs
      replace hfit := Lib.hid hfit
      clear hn
      go_wp2_with fail
      refine (valid_c t [_, _, _] _ (mono_ThingR _ _ _ _ (hU4.trans (up_ple (noH_le _) hx4)) hT) (by omega)).mono ?_
      rintro e w5 ⟨rfl, hb5⟩
      have hx5 : Ext w w5 := (by repeat (first | (with_reducible assumption) | (with_reducible exact Ext.rfl' _) | (with_reducible exact Ext.new _ _) | (with_reducible refine Ext.alloc' ?_ _) | (with_reducible refine Ext.drew' ?_) | (with_reducible refine Ext.drewN' ?_ _) | (with_reducible refine Ext.set' ?_ ?_ _; rotate_left; (focus (first | omega | (simp; done) | (simp; omega)))) | (with_reducible refine Ext.then (b := ?_) ?_ ?_; rotate_left; rotate_left; (with_reducible assumption))))
      have hU5 : PLe H5 (up noH w w5) := hU4.trans (up_then hx4 hb5)
      replace hO := hO.keep hb5
      replace hbox := hbox.keep hb5
      clear hoc hof hbc hbf hbl hbl2
      obtain ⟨hoc, hof⟩ := hO.facts
      obtain ⟨hbc, hbf⟩ := hbox.facts
      have hbl := hO.lt
      have hbl2 := hbox.lt
      by_cases hv : validV t = 0
      · have hvb : (validV t == 0) = true := by rw [hv]; rfl
        replace hv := Lib.hid hv
        go_wp2_with fail
        exact bodyPost_ret (v := .tuple #[.agg #[.slice b1 t.cls.length d1, .slice b2 t.vals.length d2, .slice b3 t.parts.length d3], .int .i64 0]) (by simp [results, Try.results33, go_sem, hoc, hof, hbl]) rfl ⟨H5, [_, _, _], t, 0, rfl, hT, ple_set (ple_set (ple_set hU5 hge.out) hge.out) hge.out, (by repeat (first | (with_reducible assumption) | (with_reducible exact Ext.rfl' _) | (with_reducible exact Ext.new _ _) | (with_reducible refine Ext.alloc' ?_ _) | (with_reducible refine Ext.drew' ?_) | (with_reducible refine Ext.drewN' ?_ _) | (with_reducible refine Ext.set' ?_ ?_ _; rotate_left; (focus (first | omega | (simp; done) | (simp; omega)))) | (with_reducible refine Ext.then (b := ?_) ?_ ?_; rotate_left; rotate_left; (with_reducible assumption)))), .inl ⟨rfl, hxs.out, hfit.out, hv.out⟩⟩
      · have hno : ∀ t', xs = enc t' → Fits 8 t' → validV t' ≠ 0 := by
          intro t' h1 h2
          have h3 := (readS_some 8 xs t' []).2 ⟨by simpa using h1, h2⟩
          rw [hq.out] at h3
          cases h3
          exact hv
        replace hno := Lib.hid hno
        clear hq
        have hvb : (validV t == 0) = false := by simpa using hv
        go_wp2_with fail
        exact bodyPost_ret (v := .tuple #[.agg #[.slice none 0 0, .slice none 0 0, .slice none 0 0], .int .i64 2]) (by simp [results, Try.results33, go_sem, hoc, hof, hbl]) rfl ⟨noH, [.slice none 0 0, .slice none 0 0, .slice none 0 0], .mk [] [] [], 2, rfl, thingR_iff.2 ⟨_, _, _, rfl, SliceRep.nil _ _ _, SliceRep.nil _ _ _, SliceRep.nil _ _ _⟩, noH_le _, (by repeat (first | (with_reducible assumption) | (with_reducible exact Ext.rfl' _) | (with_reducible exact Ext.new _ _) | (with_reducible refine Ext.alloc' ?_ _) | (with_reducible refine Ext.drew' ?_) | (with_reducible refine Ext.drewN' ?_ _) | (with_reducible refine Ext.set' ?_ ?_ _; rotate_left; (focus (first | omega | (simp; done) | (simp; omega)))) | (with_reducible refine Ext.then (b := ?_) ?_ ?_; rotate_left; rotate_left; (with_reducible assumption)))), .inr ⟨rfl, rfl, hno.out⟩⟩
    · have hno : ∀ t', xs = enc t' → Fits 8 t' → validV t' ≠ 0 := by
        intro t' h1 h2
        have h3 := (readS_some 8 xs t' []).2 ⟨by simpa using h1, h2⟩
        rw [hq.out] at h3
        exact absurd (hn.2 (congrArg Prod.snd h3)) h0
      have h0b : (n == 0) = false := by simpa using h0
      replace hno := Lib.hid hno
      clear hn
      go_wp2_with fail
      exact bodyPost_ret (v := .tuple #[.agg #[.slice none 0 0, .slice none 0 0, .slice none 0 0], .int .i64 2]) (by simp [results, Try.results33, go_sem, hoc, hof, hbl]) rfl ⟨noH, [.slice none 0 0, .slice none 0 0, .slice none 0 0], .mk [] [] [], 2, rfl, thingR_iff.2 ⟨_, _, _, rfl, SliceRep.nil _ _ _, SliceRep.nil _ _ _, SliceRep.nil _ _ _⟩, noH_le _, (by repeat (first | (with_reducible assumption) | (with_reducible exact Ext.rfl' _) | (with_reducible exact Ext.new _ _) | (with_reducible refine Ext.alloc' ?_ _) | (with_reducible refine Ext.drew' ?_) | (with_reducible refine Ext.drewN' ?_ _) | (with_reducible refine Ext.set' ?_ ?_ _; rotate_left; (focus (first | omega | (simp; done) | (simp; omega)))) | (with_reducible refine Ext.then (b := ?_) ?_ ?_; rotate_left; rotate_left; (with_reducible assumption)))), .inr ⟨rfl, rfl, hno.out⟩⟩
end Go.Proofs.Ytebhdjeognpljaa
