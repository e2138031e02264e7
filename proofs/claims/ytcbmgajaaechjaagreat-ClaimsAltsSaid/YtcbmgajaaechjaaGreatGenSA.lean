/- generators: Some of formula; a call that writes one box of ours.; generators: Some of claims. -/
import Derived.Test.YtcbmgajaaechjaaGreatGenX
import Derived.Deep.CutBlock
import Derived.Test.YtcbmgajaaechjaaGreatClR
namespace Go.Proofs.YtcbmgajaaechjaaGreat
open Go.RowKit Go.Shelf
set_option linter.unusedSimpArgs false
set_option linter.unusedVariables false
theorem Mem.callB {w0 w w' : World} {H0 H : PH} {L : List Chunk} (h : Mem w0 H0 L H w) (i : Nat) {b : Nat} {c c' : Array Value} {T : TypeId} (hi : L[i]? = some (Proofs.YtcbmgajaaechjaaGreat.box b c T)) (e : w.grownBy w' (some b)) (ho : Own w' b c' T) :
    Mem w0 H0 (L.set i (Proofs.YtcbmgajaaechjaaGreat.box b c' T)) (Proofs.YtcbmgajaaechjaaGreat.up H w w') w' := by
  have hlt : b < w.heap.size := (h.box i hi).lt
  have hge : w0.heap.size ≤ b := (h.fr i _ hi b rfl).1
  have hlt' := ho.lt
  have hb : ∀ k, b ≠ k → (w.heap.setIfInBounds b w'.heap[b])[k]? = w.heap[k]? := fun k hk => Array.getElem?_setIfInBounds_ne hk
  have h1 : Mem w0 H0 (L.set i (Proofs.YtcbmgajaaechjaaGreat.box b c' T)) H { w with heap := w.heap.setIfInBounds b w'.heap[b] } := by
    refine h.put i hi (c' := Proofs.YtcbmgajaaechjaaGreat.box b c' T) ?_ (fun k hk => .inl hk) ⟨h.ex.os, h.ex.tape, h.ex.output, by simpa using h.ex.size, fun k hk => ?_⟩ fun k hk hn => hb k (fun hh => hn (by rw [← hh]; rfl))
    · show Own _ b c' T
      unfold Own at *
      show (w.heap.setIfInBounds b w'.heap[b])[b]? = _
      rw [Array.getElem?_setIfInBounds_self_of_lt hlt, ← ho]; simp [hlt']
    · show (w.heap.setIfInBounds b w'.heap[b])[k]? = _
      rw [hb k (by omega)]; exact h.ex.block k hk
  have h2 := h1.up (w' := w') ⟨e.os, e.tape, e.output, by simpa using e.size, fun k hk => ?_⟩
  · have hu : Proofs.YtcbmgajaaechjaaGreat.up H { w with heap := w.heap.setIfInBounds b w'.heap[b] } w' = Proofs.YtcbmgajaaechjaaGreat.up H w w' := by
      unfold Proofs.YtcbmgajaaechjaaGreat.up; simp
    rwa [hu] at h2
  · show w'.heap[k]? = (w.heap.setIfInBounds b w'.heap[b])[k]?
    by_cases hk' : b = k
    · subst hk'; rw [Array.getElem?_setIfInBounds_self_of_lt hlt]; simp [hlt']
    · rw [hb k hk']; exact e.block k (by simpa using hk) (fun hh => hk' (Option.some.inj hh).symm)
def SomeQ (w : World) (lf : Int) (d : Nat) (e : Ending) (w' : World) : Prop :=
  ∃ f a3 c3 a4 c4, e = .returned (fmV f a3 c3 a4 c4) ∧ FmR (up noH w w') (fmC f a3 c3 a4 c4) f ∧ wholeB f = true ∧ (SzP lf f.size ∧ f.deep ≤ max 1 (d + 1)) ∧ Ext w w'
/-- with what is told of classes -/
def SomeN (w : World) (cl lf : Int) (d : Nat) (e : Ending) (w' : World) : Prop :=
  ∃ f a3 c3 a4 c4, e = .returned (fmV f a3 c3 a4 c4) ∧ FmR (up noH w w') (fmC f a3 c3 a4 c4) f ∧ wholeN cl f = true ∧ (SzP lf f.size ∧ f.deep ≤ max 1 (d + 1)) ∧ Ext w w'
set_option maxRecDepth 100000 in
theorem some07_n {Hl : PH} (l : List Int) (vl : Value) (cl lf : Int) (d : Nat) (w : World) (hl : PLe Hl (ph w)) (hr : IntsR Hl vl l) (hc0 : 0 < cl) (hc1 : cl ≤ 64) (hd : d ≤ 7) (h0 : 0 ≤ lf) (h1 : lf ≤ 100) :
    Calls Tryz.prog 24 #[vl, .int .i64 cl, .int .i64 lf, .int .i64 ((d : Int) + 1)] w (SomeN w cl lf d) := by
  obtain ⟨xa, xc, rfl, hll, hr⟩ := hr.form
  have hM := ((Mem.start w Hl hl).new' zeroFa 39 (n := w.heap.size) (by simp)).new' (mkA (.slice xa l.length xc) 0 cl lf) 95 (n := w.heap.size + 1) (by simp)
  have hN := ((Mem.start w noH (noH_le _)).new' zeroFa 39 (n := w.heap.size) (by simp)).new' (mkA (.slice xa l.length xc) 0 cl lf) 95 (n := w.heap.size + 1) (by simp)
  simp only [List.cons_append, List.nil_append] at hM hN
  go_enter Tryz.func24, Tryz.ntmps24
  go_wp2_with fail
  change Calls _ _ _ ((w.alloc (.cells zeroFa 39)).alloc (.cells (mkA (.slice xa l.length xc) 0 cl lf) 95)) _
  generalize World.alloc _ _ = W at *
  refine (tree_c l _ (w.heap.size + 1) cl hr (hM.fr 1 _ rfl _ rfl).2 hc0 hc1 d hd 0 lf W hM.ple (hM.box 1 rfl) (by omega) (by omega) (by omega) h1).mono ?_
  rintro e w1 ⟨f, a3, c3, a4, c4, at2, rfl, hF, hwf, hP, hgr, ho1, g1, g2⟩
  have hM1 := hN.callB 1 rfl hgr ho1
  simp only [List.set_cons_succ, List.set_cons_zero] at hM1
  generalize up noH W w1 = H1 at *
  have ob := hM1.box 0 rfl
  obtain ⟨uc, uf⟩ := ob.facts
  have ul := ob.lt
  have q0' : _ = some (Value.int .i64 0) := uc 0
  have q1' : _ = some (Value.int .i64 0) := uc 1
  have q2' : _ = some (Value.slice none 0 0) := uc 2
  have q3' : _ = some (Value.slice none 0 0) := uc 3
  have hM2 := hM1.set4 0 rfl (.int .i64 f.op) (.int .i64 f.n) (.slice a3 f.inn.length c3) (.slice a4 f.kids.length c4)
  simp only [List.set_cons_zero] at hM2
  clear uc hM hN hM1 hgr ho1
  go_wp2_with fail
  generalize ((((w1.setCell _ _).setCell _ _).setCell _ _).setCell _ _) = w9 at *
  obtain ⟨q, -⟩ := (hM2.box 0 rfl).facts
  have q0 : _ = some (Value.int .i64 f.op) := q 0
  have q1 : _ = some (Value.int .i64 f.n) := q 1
  have q2 : _ = some (Value.slice a3 f.inn.length c3) := q 2
  have q3 : _ = some (Value.slice a4 f.kids.length c4) := q 3
  refine bodyPost_ret (v := .agg #[.int .i64 f.op, .int .i64 f.n, .slice a3 f.inn.length c3, .slice a4 f.kids.length c4]) (by simp [results, Tryz.results24, go_sem, q0, q1, q2, q3]) rfl ?_
  exact ⟨f, a3, c3, a4, c4, rfl, mono_FmR _ _ _ _ hM2.ub hF, hwf, hP, hM2.ex⟩
theorem some07_c {Hl : PH} (l : List Int) (vl : Value) (cl lf : Int) (d : Nat) (w : World) (hl : PLe Hl (ph w)) (hr : IntsR Hl vl l) (hc0 : 0 < cl) (hc1 : cl ≤ 64) (hd : d ≤ 7) (h0 : 0 ≤ lf) (h1 : lf ≤ 100) :
    Calls Tryz.prog 24 #[vl, .int .i64 cl, .int .i64 lf, .int .i64 ((d : Int) + 1)] w (SomeQ w lf d) :=
  (some07_n l vl cl lf d w hl hr hc0 hc1 hd h0 h1).mono fun e w' ⟨f, a3, c3, a4, c4, e1, e2, e3, e4⟩ => ⟨f, a3, c3, a4, c4, e1, e2, wholeN_B e3, e4⟩
end Go.Proofs.YtcbmgajaaechjaaGreat
namespace Go.Proofs.YtcbmgajaaechjaaGreat
open Go.RowKit Go.Shelf
set_option linter.unusedSimpArgs false
set_option linter.unusedVariables false
section
variable {α : Type} {E : PH → List Value → α → Prop} {sz : Nat} {h : PH} {b : Nat}
theorem RowRep.dropG : ∀ {xs : List α} {o : Nat} (k : Nat), RowRep h E sz b o xs → RowRep h E sz b (o + k * sz) (xs.drop k)
  | [], _, k, _ => by rw [List.drop_nil]; trivial
  | x :: xs, _, 0, hr => by rw [Nat.zero_mul, Nat.add_zero]; exact hr
  | x :: xs, o, k + 1, hr => by
    have := RowRep.dropG k hr.2
    rw [show o + (k + 1) * sz = o + sz + k * sz by rw [Nat.add_mul]; omega]
    exact this
end
/-- a slice of numbers from k on -/
theorem intsR_drop {H : PH} {a : Option Addr} {n c : Nat} {l : List Int} (hr : IntsR H (.slice a n c) l) (k : Nat) (hk : k ≤ l.length) : IntsR H (.slice (Option.map (fun x => x.add k) a) (l.length - k) (c - k)) (l.drop k) := by
  obtain ⟨a', c', h1, h2, h3, h4⟩ := hr
  cases h1
  refine ⟨_, c - k, by rw [List.length_drop], by rw [List.length_drop]; omega, by omega, ?_⟩
  rcases h4 with rfl | ⟨b, o, h6, h5⟩
  · exact .inl (by simp)
  · subst h6
    have := h5.dropG k
    rw [Nat.mul_one] at this
    exact .inr ⟨b, o + k, by simp [Addr.add], this⟩
theorem intsR_none {H : PH} {a : Option Addr} {c : Nat} (hc : c ≤ maxLen) : IntsR H (.slice a 0 c) [] := ⟨a, c, rfl, Nat.zero_le _, hc, .inl rfl⟩
theorem intsR_cap {H : PH} {a : Option Addr} {n c : Nat} {l : List Int} (hr : IntsR H (.slice a n c) l) : l.length ≤ c ∧ c ≤ maxLen := by
  obtain ⟨a', c', h1, h2, h3, h4⟩ := hr
  cases h1; exact ⟨h2, h3⟩
theorem infoCl : (Tryz.prog.info? 49).map (fun i => (i.zero, i.size, i.bytes)) = some (some (.agg #[.slice none 0 0, .int .i64 0, .int .i64 0, .slice none 0 0, .slice none 0 0]), 5, 88) := by kernel_rfl
theorem one_ClR {h : PH} : ∀ cs x, ClR h cs x → ∀ u ∈ cs, u.oneCell' = true := by
  intro cs x hr u hu
  obtain ⟨a1, c1, a3, c3, a4, c4, rfl, -⟩ := hr.form
  simp only [clC, fmC, List.mem_cons, List.not_mem_nil, or_false] at hu
  rcases hu with rfl | rfl | rfl | rfl | rfl <;> rfl
theorem Mem.set5 {w0 w : World} {H0 H : PH} {L : List Chunk} (h : Mem w0 H0 L H w) (i : Nat) {b : Nat} {r a0 a1 a2 a3 : Value} {T : TypeId} (hi : L[i]? = some (Proofs.YtcbmgajaaechjaaGreat.box b #[r, a0, a1, a2, a3] T)) (p q s t : Value) :
    Mem w0 H0 (L.set i (Proofs.YtcbmgajaaechjaaGreat.box b #[r, p, q, s, t] T)) H ((((w.setCell ⟨b, 1, none⟩ p).setCell ⟨b, 2, none⟩ q).setCell ⟨b, 3, none⟩ s).setCell ⟨b, 4, none⟩ t) := by
  have hil : i < L.length := (List.getElem?_eq_some_iff.1 hi).1
  have h1 := h.set i hi 1 p
  have h2 := h1.set i (List.getElem?_set_self hil) 2 q
  rw [List.set_set] at h2
  have h3 := h2.set i (List.getElem?_set_self hil) 3 s
  rw [List.set_set] at h3
  have h4 := h3.set i (List.getElem?_set_self hil) 4 t
  rw [List.set_set] at h4
  simpa using h4
/-- a claim at i of the generator -/
def SomeCl (i : Nat) (c : Cl) : Prop := wholeB c.body = true ∧ SzP 5 c.body.size ∧ c.body.deep ≤ 3 ∧ (∀ r ∈ c.refs, 0 ≤ r ∧ r < (i : Int)) ∧ c.refs.Pairwise (· < ·) ∧ c.refs.length ≤ i
def SomeClQ (w : World) (e : Ending) (w' : World) : Prop := ∃ v L, e = .returned v ∧ ClsR (ph w') v L ∧ L.length ≤ 5 ∧ (∀ i c, L[i]? = some c → SomeCl i c) ∧ Ext w w'
def SomeClN (w : World) (cl : Int) (e : Ending) (w' : World) : Prop := ∃ v L, e = .returned v ∧ ClsR (ph w') v L ∧ L.length ≤ 5 ∧ (∀ i c, L[i]? = some c → SomeCl i c ∧ wholeN cl c.body = true) ∧ Ext w w'
set_option maxRecDepth 100000 in
set_option maxHeartbeats 4000000 in
theorem some11_n (l : List Int) (vl : Value) (cl : Int) (w : World) (hr : IntsR (ph w) vl l) (hc0 : 0 < cl) (hc1 : cl ≤ 64) :
    Calls Tryz.prog 9 #[vl, .int .i64 cl] w (SomeClN w cl) := by
  have hr0 := hr
  obtain ⟨xa, xc, rfl, hll, hr⟩ := hr.form
  have hM0 := (Mem.start w (ph w) (fun _ _ h => h)).nil mono_ClR 5 49
  simp only [List.nil_append] at hM0
  go_enter Tryz.func9, Tryz.ntmps9
  go_wp2_with fail
  refine (pick1_c l _ 0 6 w hr0 (by unfold I64; omega) (by omega) (by omega)).mono ?_
  rintro e w1 ⟨k, rfl, hk0, hk1, hx1⟩
  obtain ⟨n, rfl⟩ : ∃ n : Nat, k = n := ⟨k.toNat, by omega⟩
  have hM1 := hM0.ext hx1
  clear hM0 hk0
  go_wp2_with fail
  go_loopw [5, 7] (fun vo vi wr => ∃ (c : Nat) (out : List Cl) (H : PH), c ≤ n ∧ vi = .int .i64 c ∧ Hid (out.length = c) ∧ Mem w (ph w) [own mono_ClR 5 49 vo out] H wr ∧ Hid (∀ i x, out[i]? = some x → SomeCl i x ∧ wholeN cl x.body = true)) (fun _ vi _ => n - (intOf vi).toNat)
  case atStart => exact ⟨0, [], _, by omega, rfl, Lib.hid rfl, hM1, Lib.hid (by simp)⟩
  case round =>
    clear hM1
    obtain ⟨c, out, H, hc, rfl, hol, hM, hall⟩ := hrel
    obtain ⟨oa, oc, rfl, -⟩ := hM.form 0 rfl
    by_cases hA : c < n
    · have hdA : decide (c < n) = true := decide_eq_true hA
      have hM2 := hM.new' #[.slice none 0 0, .int .i64 0, .int .i64 0, .slice none 0 0, .slice none 0 0] 49 (n := wr.heap.size) (by simp)
      simp only [List.cons_append, List.nil_append] at hM2
      have hrW := hr0.mono mono_IntR (hM2.ex.ple)
      have hw1 : IntKind.i64.wrap (1 + (c : Int)) = 1 + (c : Int) := by rw [IntKind.wrap_i64]; omega
      clear hM
      go_wp2_with fail
      refine (pick1_c l _ (1 + (c : Int)) 1048576 _ hrW (by unfold I64; omega) (by omega) (by omega)).mono ?_
      rintro e w2 ⟨q, rfl, hq0, hq1, hx2⟩
      have hM3 := (hM2.ext hx2).nil mono_IntR 1 3
      simp only [List.cons_append, List.nil_append] at hM3
      generalize hB : wr.heap.size = B at *
      clear hM2 hrW hw1 hx2
      go_wp2_with fail
      go_loopw [10] (fun vi wx => ∃ (m : Nat) (rv : Value) (rs : List Int), m ≤ c ∧ vi = .int .i64 m ∧ Mem w (ph w) [own mono_ClR 5 49 (.slice oa out.length oc) out, box B #[rv, .int .i64 0, .int .i64 0, .slice none 0 0, .slice none 0 0] 49, own mono_IntR 1 3 rv rs] H wx ∧ Hid ((∀ r ∈ rs, 0 ≤ r ∧ r < (m : Int)) ∧ rs.Pairwise (· < ·) ∧ rs.length ≤ m)) (fun vi _ => c - (intOf vi).toNat)
      case atStart => exact ⟨0, _, [], by omega, rfl, hM3, Lib.hid (by simp)⟩
      case round =>
        clear hM3
        obtain ⟨m, rv, rs, hm, rfl, hMx, hrs⟩ := hrel
        obtain ⟨ra, rc, rfl, -⟩ := hMx.form 2 rfl
        by_cases hB2 : m < c
        · have hdB : decide (m < c) = true := decide_eq_true hB2
          obtain ⟨kc, kf⟩ := (hMx.box 1 rfl).facts
          have k0 : _ = some (Value.slice ra rs.length rc) := kc 0
          have f0 := kf 0
          have hgl := (hMx.box 1 rfl).lt
          have hM4 := hMx.ext (Ext.new wr (.cells #[.int .i64 m] 3))
          have hS := Src.lit1 (H := H) (E := IntR) (sz := 1) (w := wr.alloc (.cells #[.int .i64 m] 3)) (b := wr.heap.size) (x := (m : Int)) (cs := [.int .i64 m]) ⟨rfl, by unfold I64; omega⟩ rfl (fun j => by rw [(Proofs.YtcbmgajaaechjaaGreat.Own.new _ _ _).facts.1]; simp)
          have hrl : rs.length ≤ m := hrs.out.2.2
          clear kc kf
          go_wp2_with (first | (at_builtin; refine wpList_append_M 2 rfl _ _ 22 rfl Tryz.underlying22 infoInt rfl rfl rfl hM4 rfl hS one_IntR (by simp; omega) (by simp; omega) ?f5))
          case f5 =>
            intro v' w' hM5
            try simp only [List.set_cons_zero, List.set_cons_succ] at hM5
            clear hMx hM4 hS k0 f0 hgl
            obtain ⟨va, vc, rfl, -⟩ := hM5.form 2 rfl
            have f0 := (hM5.box 1 rfl).facts.2 0
            have k0 : _ = some (Value.slice ra rs.length rc) := (hM5.box 1 rfl).facts.1 0
            have hgl := (hM5.box 1 rfl).lt
            have hM6 := hM5.set 1 rfl 0 (.slice va (rs ++ [(m : Int)]).length vc)
            have hln : (rs ++ [(m : Int)]).length = rs.length + 1 := by simp
            rw [hln] at hM6
            clear hln
            try simp only [List.set_cons_zero, List.set_cons_succ, List.setIfInBounds_toArray] at hM6
            go_wp2_with fail
            go_roundw
            case rel =>
              obtain ⟨r1, r2, r3⟩ := hrs.out
              refine ⟨m + 1, .slice va (rs.length + 1) vc, rs ++ [(m : Int)], by omega, by go_num, hM6, Lib.hid ⟨fun r hr => ?_, ?_, by simp; omega⟩⟩
              · rcases List.mem_append.1 hr with h | h
                · have := r1 r h; omega
                · have := List.mem_singleton.1 h; omega
              · exact List.pairwise_append.2 ⟨r2, List.pairwise_singleton _ _, fun a ha b hb => by have := r1 a ha; have := List.mem_singleton.1 hb; omega⟩
            case measure => simp [intOf]; omega
          go_roundw
          case rel => exact ⟨m + 1, _, rs, by omega, by go_num, hMx, Lib.hid ⟨fun r hr => by have := hrs.out.1 r hr; omega, hrs.out.2.1, by omega⟩⟩
          case measure => simp [intOf]; omega
        · have hdB : decide (m < c) = false := by simpa using hB2
          obtain rfl : m = c := by omega
          obtain ⟨K, hK, hKl⟩ : ∃ K : Nat, (if 3 + 6 * (m : Int) < (l.length : Int) then 3 + 6 * (m : Int) else (l.length : Int)) = (K : Int) ∧ K ≤ l.length := by
            by_cases h : 3 + 6 * m < l.length
            · exact ⟨3 + 6 * m, by rw [if_pos (by omega)]; omega, by omega⟩
            · exact ⟨l.length, by rw [if_neg (by omega)], Nat.le_refl _⟩
          obtain ⟨hcap1, hcap2⟩ := intsR_cap hr0
          have hd1 := intsR_drop hr0 K hKl
          have hd2 := intsR_none (H := ph w) (a := xa) (c := 0) (Nat.zero_le _)
          by_cases hxK : xc = K
          · have hraw : IntsR (ph w) (.slice xa (l.length - K) 0) (l.drop K) := by
              rw [show l.length - K = 0 by omega, List.drop_eq_nil_of_le (by omega)]; exact hd2
            clear hd1 hd2 hcap1 hcap2
            subst hxK
            go_wp2_with fail
            refine (some07_n (Hl := ph w) (l.drop xc) _ cl 5 2 wr hMx.ex.ple hraw hc0 hc1 (by omega) (by omega) (by omega)).mono ?_
            rintro e w3 ⟨f, a3, c3, a4, c4, rfl, hF, hwn, ⟨hs, hd⟩, hx3⟩
            have hwf := wholeN_B hwn
            have hF3 := mono_FmR _ _ _ _ (up_mono (noH_le H)) hF
            replace hMx := hMx.up hx3
            generalize up H wr w3 = H3 at *
            clear hF hx3 hraw
            obtain ⟨uc, uf⟩ := (hMx.box 1 rfl).facts
            have uc0 : _ = some (Value.slice ra rs.length rc) := uc 0
            have uc1 : _ = some (Value.int .i64 0) := uc 1
            have uc2 : _ = some (Value.int .i64 0) := uc 2
            have uc3 : _ = some (Value.slice none 0 0) := uc 3
            have uc4 : _ = some (Value.slice none 0 0) := uc 4
            have ul := (hMx.box 1 rfl).lt
            replace hMx := hMx.set5 1 rfl (.int .i64 f.op) (.int .i64 f.n) (.slice a3 f.inn.length c3) (.slice a4 f.kids.length c4)
            simp only [List.set_cons_zero, List.set_cons_succ] at hMx
            obtain ⟨H5, hl5, hM5, hR5⟩ := hMx.freezeS 2 rfl
            simp only [List.set_cons_zero, List.set_cons_succ] at hM5
            have hcR : ClR H5 (clC ⟨rs, f⟩ ra rc a3 c3 a4 c4) ⟨rs, f⟩ := ClR.of hR5 (mono_FmR _ _ _ _ hl5 hF3)
            clear uc hMx hR5 hF3
            go_upto_region 14 with (fail)
            generalize ((((w3.setCell _ _).setCell _ _).setCell _ _).setCell _ _) = w9 at *
            clear uf uc0 uc1 uc2 uc3 uc4 ul
            obtain ⟨uc, uf⟩ := (hM5.box 1 rfl).facts
            have uc0 : _ = some (Value.slice ra rs.length rc) := uc 0
            have uc1 : _ = some (Value.int .i64 f.op) := uc 1
            have uc2 : _ = some (Value.int .i64 f.n) := uc 2
            have uc3 : _ = some (Value.slice a3 f.inn.length c3) := uc 3
            have uc4 : _ = some (Value.slice a4 f.kids.length c4) := uc 4
            have ul := (hM5.box 1 rfl).lt
            have hM6 := (hM5.ext (Ext.new w9 (.cells #[.slice ra rs.length rc, .int .i64 f.op, .int .i64 f.n, .slice a3 f.inn.length c3, .slice a4 f.kids.length c4] 49))).pick [0] (by decide)
            simp only [List.map_cons, List.map_nil, List.getElem?_cons_zero, Option.getD_some] at hM6
            have hS := Src.lit1 (H := H5) (E := ClR) (sz := 5) (w := w9.alloc (.cells #[.slice ra rs.length rc, .int .i64 f.op, .int .i64 f.n, .slice a3 f.inn.length c3, .slice a4 f.kids.length c4] 49)) (b := w9.heap.size) hcR rfl (fun j => by rw [(Proofs.YtcbmgajaaechjaaGreat.Own.new _ _ _).facts.1]; simp [clC, fmC])
            have hol' := hol.out
            clear uc uf hM5
            go_wp2_with (first | (at_builtin; refine wpList_append_M 0 rfl _ _ 29 rfl Tryz.underlying29 infoCl rfl rfl rfl (hM6) rfl (hS) one_ClR ?g1 ?g2 ?g3))
            case g1 => simp; omega
            case g2 => simp; omega
            case g3 =>
            intro v' w10 hM7
            try simp only [List.set_cons_zero, List.set_cons_succ] at hM7
            clear hM6 hS uc0 uc1 uc2 uc3 uc4 ul
            go_wp2_with fail
            go_roundw
            case rel =>
              refine ⟨m + 1, out ++ [⟨rs, f⟩], H5, by omega, by go_num, Lib.hid (by simp [hol']), hM7, Lib.hid fun i x hx => ?_⟩
              rcases getElem?_snoc hx with h1 | ⟨h1, h2⟩
              · exact hall.out i x h1
              · subst h2
                obtain ⟨r1, r2, r3⟩ := hrs.out
                rw [h1, hol']
                exact ⟨⟨hwf, hs, by dsimp only; omega, fun r hr => by have := r1 r hr; dsimp only at *; omega, r2, by dsimp only; omega⟩, hwn⟩
            case measure => simp [intOf]; omega
          · have hraw := hd1
            have hb1 : decide (xc = K) = false := by simpa using hxK
            clear hd1 hd2 hcap1 hcap2
            go_wp2_with fail
            refine (some07_n (Hl := ph w) (l.drop K) _ cl 5 2 wr hMx.ex.ple hraw hc0 hc1 (by omega) (by omega) (by omega)).mono ?_
            rintro e w3 ⟨f, a3, c3, a4, c4, rfl, hF, hwn, ⟨hs, hd⟩, hx3⟩
            have hwf := wholeN_B hwn
            have hF3 := mono_FmR _ _ _ _ (up_mono (noH_le H)) hF
            replace hMx := hMx.up hx3
            generalize up H wr w3 = H3 at *
            clear hF hx3 hraw
            obtain ⟨uc, uf⟩ := (hMx.box 1 rfl).facts
            have uc0 : _ = some (Value.slice ra rs.length rc) := uc 0
            have uc1 : _ = some (Value.int .i64 0) := uc 1
            have uc2 : _ = some (Value.int .i64 0) := uc 2
            have uc3 : _ = some (Value.slice none 0 0) := uc 3
            have uc4 : _ = some (Value.slice none 0 0) := uc 4
            have ul := (hMx.box 1 rfl).lt
            replace hMx := hMx.set5 1 rfl (.int .i64 f.op) (.int .i64 f.n) (.slice a3 f.inn.length c3) (.slice a4 f.kids.length c4)
            simp only [List.set_cons_zero, List.set_cons_succ] at hMx
            obtain ⟨H5, hl5, hM5, hR5⟩ := hMx.freezeS 2 rfl
            simp only [List.set_cons_zero, List.set_cons_succ] at hM5
            have hcR : ClR H5 (clC ⟨rs, f⟩ ra rc a3 c3 a4 c4) ⟨rs, f⟩ := ClR.of hR5 (mono_FmR _ _ _ _ hl5 hF3)
            clear uc hMx hR5 hF3
            go_upto_region 14 with (fail)
            generalize ((((w3.setCell _ _).setCell _ _).setCell _ _).setCell _ _) = w9 at *
            clear uf uc0 uc1 uc2 uc3 uc4 ul
            obtain ⟨uc, uf⟩ := (hM5.box 1 rfl).facts
            have uc0 : _ = some (Value.slice ra rs.length rc) := uc 0
            have uc1 : _ = some (Value.int .i64 f.op) := uc 1
            have uc2 : _ = some (Value.int .i64 f.n) := uc 2
            have uc3 : _ = some (Value.slice a3 f.inn.length c3) := uc 3
            have uc4 : _ = some (Value.slice a4 f.kids.length c4) := uc 4
            have ul := (hM5.box 1 rfl).lt
            have hM6 := (hM5.ext (Ext.new w9 (.cells #[.slice ra rs.length rc, .int .i64 f.op, .int .i64 f.n, .slice a3 f.inn.length c3, .slice a4 f.kids.length c4] 49))).pick [0] (by decide)
            simp only [List.map_cons, List.map_nil, List.getElem?_cons_zero, Option.getD_some] at hM6
            have hS := Src.lit1 (H := H5) (E := ClR) (sz := 5) (w := w9.alloc (.cells #[.slice ra rs.length rc, .int .i64 f.op, .int .i64 f.n, .slice a3 f.inn.length c3, .slice a4 f.kids.length c4] 49)) (b := w9.heap.size) hcR rfl (fun j => by rw [(Proofs.YtcbmgajaaechjaaGreat.Own.new _ _ _).facts.1]; simp [clC, fmC])
            have hol' := hol.out
            clear uc uf hM5
            go_wp2_with (first | (at_builtin; refine wpList_append_M 0 rfl _ _ 29 rfl Tryz.underlying29 infoCl rfl rfl rfl (hM6) rfl (hS) one_ClR ?g1 ?g2 ?g3))
            case g1 => simp; omega
            case g2 => simp; omega
            case g3 =>
            intro v' w10 hM7
            try simp only [List.set_cons_zero, List.set_cons_succ] at hM7
            clear hM6 hS uc0 uc1 uc2 uc3 uc4 ul
            go_wp2_with fail
            go_roundw
            case rel =>
              refine ⟨m + 1, out ++ [⟨rs, f⟩], H5, by omega, by go_num, Lib.hid (by simp [hol']), hM7, Lib.hid fun i x hx => ?_⟩
              rcases getElem?_snoc hx with h1 | ⟨h1, h2⟩
              · exact hall.out i x h1
              · subst h2
                obtain ⟨r1, r2, r3⟩ := hrs.out
                rw [h1, hol']
                exact ⟨⟨hwf, hs, by dsimp only; omega, fun r hr => by have := r1 r hr; dsimp only at *; omega, r2, by dsimp only; omega⟩, hwn⟩
            case measure => simp [intOf]; omega
    · have hdA : decide (c < n) = false := by simpa using hA
      have hr := hM.rep 0 rfl
      have hx := hM.ex
      replace hr := Lib.hid hr
      clear hM
      go_wp2_with fail
      go_ret
      exact ⟨_, out, rfl, hr.out, by have := hol.out; omega, hall.out, hx⟩
theorem some11_c (l : List Int) (vl : Value) (cl : Int) (w : World) (hr : IntsR (ph w) vl l) (hc0 : 0 < cl) (hc1 : cl ≤ 64) :
    Calls Tryz.prog 9 #[vl, .int .i64 cl] w (SomeClQ w) :=
  (some11_n l vl cl w hr hc0 hc1).mono fun e w' ⟨v, L, e1, e2, e3, e4, e5⟩ => ⟨v, L, e1, e2, e3, fun i c h => (e4 i c h).1, e5⟩
end Go.Proofs.YtcbmgajaaechjaaGreat
