/- Lemmas for FX, part 4: sets of half-open intervals over a strict total order: the canonical list of a set is one alone, and more. -/
import Derived.Test.YtbpilielamjnoaaGreatFX00
import Derived.Test.YtbpilielamjnoaaGreatFX01
import Derived.Test.YtbpilielamjnoaaGreatFX02
set_option linter.unusedSimpArgs false
set_option linter.unusedVariables false
namespace Go.Proofs.YtbpilielamjnoaaGreat
section
variable {α : Type} {lt : α → α → Prop}
structure STO (lt : α → α → Prop) : Prop where
  irr : ∀ a, ¬ lt a a
  trans : ∀ a b c, lt a b → lt b c → lt a c
  total : ∀ a b, lt a b ∨ a = b ∨ lt b a
def CanE (lt : α → α → Prop) : List (α × α) → Prop
  | [] => True
  | [x] => lt x.1 x.2
  | x :: y :: r => lt x.1 x.2 ∧ lt x.2 y.1 ∧ CanE lt (y :: r)
theorem CanE.head {x : α × α} {r : List (α × α)} (h : CanE lt (x :: r)) : lt x.1 x.2 := by
  cases r with
  | nil => exact h
  | cons y r => exact h.1
theorem CanE.after (ho : STO lt) : ∀ {r : List (α × α)} {x : α × α}, CanE lt (x :: r) → ∀ z ∈ r, lt x.2 z.1
  | [], _, _, z, hz => by cases hz
  | y :: r, x, h, z, hz => by
    rcases List.mem_cons.1 hz with rfl | hz
    · exact h.2.1
    · have h1 := CanE.after ho h.2.2 z hz
      exact ho.trans _ _ _ (ho.trans _ _ _ h.2.1 (CanE.head h.2.2)) h1
end
end Go.Proofs.YtbpilielamjnoaaGreat
namespace Go.Proofs.YtbpilielamjnoaaGreat
structure Rat2 where
  num : Int
  den : Int
  deriving DecidableEq
def RatR (_ : PH) (cs : List Value) (r : Rat2) : Prop := cs = [.int .i64 r.num, .int .i64 r.den] ∧ I64 r.num ∧ I64 r.den
theorem mono_RatR : Mono RatR := fun _ _ _ _ _ h => h
end Go.Proofs.YtbpilielamjnoaaGreat
namespace Go.Proofs.YtbpilielamjnoaaGreat
def Rat2.ok (r : Rat2) : Prop := 0 < r.den ∧ Nat.Coprime r.num.natAbs r.den.natAbs
theorem Rat2.ext' {a b : Rat2} (h1 : a.num = b.num) (h2 : a.den = b.den) : a = b := by cases a; cases b; cases h1; cases h2; rfl
theorem Rat2.same {a b : Rat2} (ha : a.ok) (hb : b.ok) (h : a.num * b.den = b.num * a.den) : a = b := by
  have hn : a.num.natAbs * b.den.natAbs = b.num.natAbs * a.den.natAbs := by
    have := congrArg Int.natAbs h
    rwa [Int.natAbs_mul, Int.natAbs_mul] at this
  have d1 : a.den.natAbs ∣ b.den.natAbs := by
    have : a.den.natAbs ∣ a.num.natAbs * b.den.natAbs := ⟨b.num.natAbs, by rw [hn, Nat.mul_comm]⟩
    exact Nat.Coprime.dvd_of_dvd_mul_left ha.2.symm this
  have d2 : b.den.natAbs ∣ a.den.natAbs := by
    have : b.den.natAbs ∣ b.num.natAbs * a.den.natAbs := ⟨a.num.natAbs, by rw [← hn, Nat.mul_comm]⟩
    exact Nat.Coprime.dvd_of_dvd_mul_left hb.2.symm this
  have e0 : a.den.natAbs = b.den.natAbs := Nat.dvd_antisymm d1 d2
  have e1 : a.den = b.den := by have := ha.1; have := hb.1; omega
  have e2 : a.num = b.num := by
    rw [e1] at h
    have := hb.1
    exact Int.eq_of_mul_eq_mul_right (by omega) h
  exact Rat2.ext' e2 e1
structure En where
  far : Int
  at' : Rat2
  aft : Bool
  deriving DecidableEq
def En.ok (e : En) : Prop := (e.far = 0 ∧ e.at'.ok) ∨ ((e.far = -1 ∨ e.far = 1) ∧ e.at' = ⟨0, 0⟩ ∧ e.aft = false)
def lessE (a b : En) : Bool :=
  if a.far ≠ b.far then decide (a.far < b.far) else if a.far ≠ 0 then false else
  if a.at'.num * b.at'.den ≠ b.at'.num * a.at'.den then decide (a.at'.num * b.at'.den < b.at'.num * a.at'.den) else (!a.aft && b.aft)
end Go.Proofs.YtbpilielamjnoaaGreat
namespace Go.Proofs.YtbpilielamjnoaaGreat
section
variable {α : Type} {lt : α → α → Prop}
theorem CanE.cons (ho : STO lt) {i : α × α} {l : List (α × α)} (h : lt i.1 i.2) (hl : CanE lt l) (ha : ∀ j ∈ l, lt i.2 j.1) : CanE lt (i :: l) := by
  cases l with
  | nil => exact h
  | cons j r => exact ⟨h, ha j List.mem_cons_self, hl⟩
end
end Go.Proofs.YtbpilielamjnoaaGreat
namespace Go.Proofs.YtbpilielamjnoaaGreat
open Go.RowKit
set_option maxHeartbeats 400000 in
theorem gcd_c (a b : Nat) (w : World) (ha : a ≤ 18446744073709551615) (hb : b ≤ 18446744073709551615) :
    Calls Tryz.prog 184 #[.int .u64 a, .int .u64 b] w (RetV w (.int .u64 (Nat.gcd a b))) := by
  go_enter Tryz.func184, Tryz.ntmps184
  go_wp2
  go_loopw [0, 1] (fun u v wr => ∃ x y : Nat, x ≤ 18446744073709551615 ∧ y ≤ 18446744073709551615 ∧ u = .int .u64 x ∧ v = .int .u64 y ∧ Hid (Nat.gcd x y = Nat.gcd a b) ∧ Ext w wr) (fun _ v _ => (intOf v).toNat)
  case atStart => exact ⟨a, b, ha, hb, rfl, rfl, Lib.hid rfl, xE⟩
  case round =>
    obtain ⟨x, y, hx, hy, rfl, rfl, hg, he⟩ := hrel
    by_cases hlt : 0 < y
    · go_wp2_with fail
      go_quiet (fail)
      go_wp2_with fail
      refine ⟨⟨y, x % y, hy, ?_, rfl, val_int (by simp), Lib.hid ?_, xE⟩, ?_⟩
      · have := Nat.mod_lt x hlt; omega
      · rw [← hg.out]; rw [Nat.gcd_comm x y, Nat.gcd_rec y x, Nat.gcd_comm]
      · have := Nat.mod_lt x hlt; simp only [intOf]; rw [← Int.natCast_emod]; omega
    · go_wp2_with fail
      go_ret
      exact ⟨ret_int (by have := hg.out; obtain rfl : y = 0 := by omega
                         simp at this; rw [this]), xE⟩
set_option maxHeartbeats 400000 in
theorem sizeI_c (n : Int) (w : World) (hn : I64 n) :
    Calls Tryz.prog 171 #[.int .i64 n] w (RetV w (.int .u64 n.natAbs)) := by
  obtain ⟨h1, h2⟩ := hn
  by_cases hneg : n < 0
  · go_enter Tryz.func171, Tryz.ntmps171
    go_wp2
    go_ret
    exact ⟨ret_int (by simp only [IntKind.wrap_u64]; omega), xE⟩
  · go_enter Tryz.func171, Tryz.ntmps171
    go_wp2
    go_ret
    exact ⟨ret_int (by omega), xE⟩
def ratErr (r : Rat2) (e : Int) : Value := .tuple #[.agg #[.int .i64 r.num, .int .i64 r.den], .int .i64 e]
def buildS (neg : Bool) (n d : Nat) : Rat2 × Int :=
  if 1099511627776 < n / Nat.gcd n d ∨ 1048576 < d / Nat.gcd n d then (⟨0, 0⟩, 5)
  else (⟨if neg then -((n / Nat.gcd n d : Nat) : Int) else (n / Nat.gcd n d : Nat), (d / Nat.gcd n d : Nat)⟩, 0)
def newS (num den : Int) : Rat2 × Int := if den = 0 then (⟨0, 0⟩, 1) else buildS (decide (num < 0) != decide (den < 0)) num.natAbs den.natAbs
set_option maxHeartbeats 400000 in
theorem build_c (neg : Bool) (n d : Nat) (w : World) (hn : n ≤ 18446744073709551615) (hd : d ≤ 18446744073709551615) (h0 : 0 < d) :
    Calls Tryz.prog 170 #[.bool neg, .int .u64 n, .int .u64 d] w (RetV w (ratErr (buildS neg n d).1 (buildS neg n d).2)) := by
  have hg : 0 < Nat.gcd n d := Nat.gcd_pos_of_pos_right _ h0
  have hgd : Nat.gcd n d ≤ d := Nat.gcd_le_right _ h0
  go_enter Tryz.func170, Tryz.ntmps170
  go_wp2_with fail
  refine (gcd_c n d _ hn hd).mono ?_
  rintro e w1 ⟨rfl, hb1⟩
  have ho1 : Own w1 w.heap.size #[.int .i64 0, .int .i64 0] 81 := oE
  replace hb1 : Ext w w1 := xE
  have hq1 : Hid (IntKind.u64.wrap (↑n / ↑(n.gcd d)) = ((n / n.gcd d : Nat) : Int)) := by
    show _ = _
    rw [IntKind.wrap_u64, ← Int.natCast_ediv]
    have := Nat.div_le_self n (n.gcd d); generalize n / n.gcd d = q at *; omega
  have hq2 : Hid (IntKind.u64.wrap (↑d / ↑(n.gcd d)) = ((d / n.gcd d : Nat) : Int)) := by
    show _ = _
    rw [IntKind.wrap_u64, ← Int.natCast_ediv]
    have := Nat.div_le_self d (n.gcd d); generalize d / n.gcd d = q at *; omega
  go_wp2_with fail
  go_quiet (fail)
  rw [hq1.out, hq2.out]
  have ho : Own (w1.drewN nq) w.heap.size #[.int .i64 0, .int .i64 0] 81 := oE
  have hb : Ext w (w1.drewN nq) := xE
  generalize w1.drewN nq = w2 at *
  clear hb1 ho1
  have hl := ho.lt
  obtain ⟨hoc, hof⟩ := ho.facts
  have hspec : buildS neg n d = if 1099511627776 < n / Nat.gcd n d ∨ 1048576 < d / Nat.gcd n d then (⟨0, 0⟩, 5)
      else (⟨if neg then -((n / Nat.gcd n d : Nat) : Int) else (n / Nat.gcd n d : Nat), (d / Nat.gcd n d : Nat)⟩, 0) := rfl
  have hql := Nat.div_le_self n (n.gcd d)
  have hml := Nat.div_le_self d (n.gcd d)
  have HS := Lib.hid hspec
  clear hspec hq1 hq2
  generalize n / Nat.gcd n d = q at *
  generalize d / Nat.gcd n d = m at *
  generalize Nat.gcd n d = g at *
  by_cases h1 : 1099511627776 < q
  · go_wp2_with fail
    exact bodyPost_ret (v := .tuple #[.agg #[.int .i64 0, .int .i64 0], .int .i64 5]) (by simp [results, Tryz.results170, go_sem, hoc, hof, hl]) rfl ⟨by rw [HS.out, if_pos (.inl h1)]; rfl, xE⟩
  · by_cases h2 : 1048576 < m
    · go_wp2_with fail
      exact bodyPost_ret (v := .tuple #[.agg #[.int .i64 0, .int .i64 0], .int .i64 5]) (by simp [results, Tryz.results170, go_sem, hoc, hof, hl]) rfl ⟨by rw [HS.out, if_pos (.inr h2)]; rfl, xE⟩
    · cases neg with
      | true =>
        go_wp2_with fail
        exact bodyPost_ret (v := .tuple #[.agg #[.int .i64 (-q), .int .i64 m], .int .i64 0]) (by simp [results, Tryz.results170, go_sem, hoc, hof, hl]) rfl ⟨by rw [HS.out, if_neg (by omega)]; rfl, xE⟩
      | false =>
        go_wp2_with fail
        exact bodyPost_ret (v := .tuple #[.agg #[.int .i64 q, .int .i64 m], .int .i64 0]) (by simp [results, Tryz.results170, go_sem, hoc, hof, hl]) rfl ⟨by rw [HS.out, if_neg (by omega)]; rfl, xE⟩
set_option maxHeartbeats 400000 in
theorem new_c (num den : Int) (w : World) (hn : I64 num) (hd : I64 den) :
    Calls Tryz.prog 161 #[.int .i64 num, .int .i64 den] w (RetV w (ratErr (newS num den).1 (newS num den).2)) := by
  obtain ⟨hn1, hn2⟩ := hn
  obtain ⟨hd1, hd2⟩ := hd
  by_cases h0 : den = 0
  · subst h0
    go_enter Tryz.func161, Tryz.ntmps161
    go_wp2_with fail
    exact bodyPost_ret (v := .tuple #[.agg #[.int .i64 0, .int .i64 0], .int .i64 1]) (by simp [results, Tryz.results161, go_sem]) rfl ⟨rfl, xE⟩
  · go_enter Tryz.func161, Tryz.ntmps161
    go_wp2_with fail
    refine (sizeI_c num _ ⟨hn1, hn2⟩).mono ?_
    rintro e w1 ⟨rfl, hb1⟩
    go_wp2_with fail
    refine (sizeI_c den _ ⟨hd1, hd2⟩).mono ?_
    rintro e w2 ⟨rfl, hb2⟩
    go_wp2_with fail
    refine (build_c _ num.natAbs den.natAbs _ (by omega) (by omega) (by omega)).mono ?_
    rintro e w3 ⟨rfl, hb3⟩
    have ho : Own w3 w.heap.size #[.int .i64 0, .int .i64 0] 81 := oE
    have hb : Ext w w3 := xE
    clear hb1 hb2 hb3
    have hs : newS num den = buildS (!(decide (num < 0) == decide (den < 0))) num.natAbs den.natAbs := by rw [newS, if_neg h0]; rfl
    rw [← hs]
    have HS := Lib.hid hs; clear hs
    have hl := ho.lt
    obtain ⟨hoc, hof⟩ := ho.facts
    unfold ratErr
    go_wp2_with fail
    exact bodyPost_ret (v := ratErr (newS num den).1 (newS num den).2) (by simp [ratErr, results, Tryz.results161, go_sem, hoc, hof, hl]) rfl ⟨rfl, xE⟩
def RatOk (r : Rat2) : Prop := 1 ≤ r.den ∧ r.den ≤ 1048576 ∧ r.num.natAbs ≤ 1099511627776 ∧ Nat.gcd r.num.natAbs r.den.natAbs = 1
instance (r : Rat2) : Decidable (RatOk r) := by unfold RatOk; infer_instance
theorem newS_ok (r : Rat2) (h : 1 ≤ r.den) : ((newS r.num r.den).2 = 0 ∧ (newS r.num r.den).1 = r) ↔ RatOk r := by
  obtain ⟨num, den⟩ := r
  simp only at h
  have hd : den ≠ 0 := by omega
  have hdn : decide (den < 0) = false := by simp; omega
  have hgp : 0 < Nat.gcd num.natAbs den.natAbs := Nat.gcd_pos_of_pos_right _ (by omega)
  have h1 := Nat.div_mul_cancel (Nat.gcd_dvd_left num.natAbs den.natAbs)
  have h2 := Nat.div_mul_cancel (Nat.gcd_dvd_right num.natAbs den.natAbs)
  simp only [newS, if_neg hd, buildS, hdn, Bool.bne_false, RatOk]
  generalize Nat.gcd num.natAbs den.natAbs = g at *
  generalize hq : num.natAbs / g = q at *
  generalize hm : den.natAbs / g = m at *
  split
  · constructor
    · rintro ⟨h3, _⟩; simp at h3
    · rintro ⟨_, h4, h5, h6⟩
      subst h6
      simp at h1 h2
      omega
  · rename_i hlim
    constructor
    · rintro ⟨_, h3⟩
      have h4 := congrArg Rat2.den h3
      have h5 := congrArg Rat2.num h3
      simp only at h4 h5
      have h6 : m = den.natAbs := by omega
      have h7 : g = 1 := by
        rw [h6] at h2
        have : den.natAbs * g = den.natAbs * 1 := by omega
        exact Nat.eq_of_mul_eq_mul_left (by omega) this
      subst h7
      simp at h1 h2
      exact ⟨h, by omega, by omega, rfl⟩
    · rintro ⟨_, h4, h5, h6⟩
      subst h6
      simp at h1 h2
      refine ⟨rfl, ?_⟩
      by_cases hn : num < 0
      · simp only [hn, decide_true, if_true]; congr 1 <;> omega
      · have : decide (num < 0) = false := by simpa using hn
        rw [this]; simp only [Bool.false_eq_true, if_false]; congr 1 <;> omega
set_option maxHeartbeats 400000 in
theorem ratValid_c (r : Rat2) (w : World) (hn : I64 r.num) (hd : I64 r.den) :
    Calls Tryz.prog 136 #[.agg #[.int .i64 r.num, .int .i64 r.den]] w (RetV w (.int .i64 (ErrIf (RatOk r) 1))) := by
  by_cases hlt : r.den < 1
  · have hs : ¬ RatOk r := by unfold RatOk; omega
    have hs := Lib.hid hs
    go_enter Tryz.func136, Tryz.ntmps136
    go_wp2_with fail
    go_ret
    exact ⟨ret_ek hs.out, xE⟩
  · have hs := Lib.hid (newS_ok r (by omega))
    go_enter Tryz.func136, Tryz.ntmps136
    go_wp2_with fail
    refine (new_c r.num r.den _ hn hd).mono ?_
    rintro e w1 ⟨rfl, hb1⟩
    have ho : Own w1 w.heap.size #[.int .i64 r.num, .int .i64 r.den] 81 := oE
    replace hb1 : Ext w w1 := xE
    have hl := ho.lt
    obtain ⟨hoc, hof⟩ := ho.facts
    unfold ratErr
    by_cases he : (newS r.num r.den).2 = 0
    · by_cases hr : (newS r.num r.den).1 = r
      · have h1 : (newS r.num r.den).1.num = r.num := by rw [hr]
        have h2 : (newS r.num r.den).1.den = r.den := by rw [hr]
        rw [h1, h2, he]
        have hok := Lib.hid (hs.out.1 ⟨he, hr⟩)
        clear hr h1 h2 he hs
        go_wp2_with fail
        go_ret
        exact ⟨ret_e0 hok.out, xE⟩
      · have hok : Hid (¬ RatOk r) := fun h => hr (hs.out.2 h).2
        have hne : (((newS r.num r.den).1.num == r.num) && ((newS r.num r.den).1.den == r.den)) = false := by
          rw [Bool.eq_false_iff]; intro h
          simp at h
          apply hr
          cases hx : (newS r.num r.den).1; cases r; simp_all
        rw [he]
        clear hr he hs
        generalize (newS r.num r.den).1.num = x at *
        generalize (newS r.num r.den).1.den = y at *
        go_wp2_with fail
        all_goals first | (exfalso; simp_all; done) | (go_ret; exact ⟨ret_ek hok.out, xE⟩)
    · have hok : Hid (¬ RatOk r) := fun h => he (hs.out.2 h).1
      have he' : ((newS r.num r.den).2 == 0) = false := by simpa using he
      clear he hs
      generalize (newS r.num r.den).2 = z at *
      go_wp2_with fail
      all_goals first | (exfalso; simp_all; done) | (go_ret; exact ⟨ret_ek hok.out, xE⟩)
set_option maxHeartbeats 400000 in
theorem divisor_c (a b : Nat) (w : World) (ha : a ≤ 9223372036854775807) (hb : b ≤ 9223372036854775807) :
    Calls Tryz.prog 156 #[.int .i64 a, .int .i64 b] w (RetV w (.int .i64 (Nat.gcd a b))) := by
  go_enter Tryz.func156, Tryz.ntmps156
  go_wp2
  go_loopw [0, 1] (fun u v wr => ∃ x y : Nat, x ≤ 9223372036854775807 ∧ y ≤ 9223372036854775807 ∧ u = .int .i64 x ∧ v = .int .i64 y ∧ Hid (Nat.gcd x y = Nat.gcd a b) ∧ Ext w wr) (fun _ v _ => (intOf v).toNat)
  case atStart => exact ⟨a, b, ha, hb, rfl, rfl, Lib.hid rfl, xE⟩
  case round =>
    obtain ⟨x, y, hx, hy, rfl, rfl, hg, he⟩ := hrel
    by_cases hlt : 0 < y
    · go_wp2_with fail
      refine ⟨⟨y, x % y, hy, ?_, rfl, val_int (by simp), Lib.hid ?_, xE⟩, ?_⟩
      · have := Nat.mod_lt x hlt; omega
      · rw [← hg.out]; rw [Nat.gcd_comm x y, Nat.gcd_rec y x, Nat.gcd_comm]
      · have := Nat.mod_lt x hlt; simp only [intOf]; rw [← Int.natCast_emod]; omega
    · go_wp2_with fail
      go_ret
      exact ⟨ret_int (by have := hg.out; obtain rfl : y = 0 := by omega
                         simp at this; rw [this]), xE⟩
theorem divisor_i (a b : Int) (w : World) (ha : 0 ≤ a) (hb : 0 ≤ b) (ha' : a ≤ 9223372036854775807) (hb' : b ≤ 9223372036854775807) :
    Calls Tryz.prog 156 #[.int .i64 a, .int .i64 b] w (RetV w (.int .i64 (Nat.gcd a.natAbs b.natAbs))) := by
  obtain ⟨x, rfl⟩ := Int.eq_ofNat_of_zero_le ha
  obtain ⟨y, rfl⟩ := Int.eq_ofNat_of_zero_le hb
  exact divisor_c x y w (by omega) (by omega)
def GoodP (r : Rat2) : Prop := RatOk r ∧ r.den ≤ 65536
instance (r : Rat2) : Decidable (GoodP r) := by unfold GoodP; infer_instance
set_option maxHeartbeats 400000 in
theorem good6_c (r : Rat2) (w : World) (hn : I64 r.num) (hd : I64 r.den) :
    Calls Tryz.prog 123 #[.agg #[.int .i64 r.num, .int .i64 r.den]] w (RetV w (.bool (B (GoodP r)))) := by
  obtain ⟨hn1, hn2⟩ := hn
  obtain ⟨hd1, hd2⟩ := hd
  by_cases hbad : r.den < 1 ∨ 65536 < r.den ∨ r.num < -1099511627776 ∨ 1099511627776 < r.num
  · have hs : Hid (¬ GoodP r) := by show ¬ _; unfold GoodP RatOk; omega
    go_enter Tryz.func123, Tryz.ntmps123
    go_wp2_with fail
    all_goals first
      | (exfalso; omega)
      | (go_ret; exact ⟨ret_f hs.out, xE⟩)
  · go_enter Tryz.func123, Tryz.ntmps123
    go_wp2_with fail
    all_goals
      refine (divisor_i _ _ _ (by omega) (by omega) (by omega) (by omega)).mono ?_
      rintro e w1 ⟨rfl, hb1⟩
      have hs : Hid (Nat.gcd r.num.natAbs r.den.natAbs = 1 ↔ GoodP r) := by
        show _ ↔ _; unfold GoodP RatOk; constructor
        · intro h; exact ⟨⟨by omega, by omega, by omega, h⟩, by omega⟩
        · rintro ⟨⟨_, _, _, h⟩, _⟩; exact h
      try rw [Int.natAbs_neg]
      generalize Nat.gcd r.num.natAbs r.den.natAbs = g at *
      go_wp2_with fail
      go_ret
      refine ⟨ret_B ?_, xE⟩
      simp only [beq_iff_eq, ← hs.out]; omega
end Go.Proofs.YtbpilielamjnoaaGreat
namespace Go.Proofs.YtbpilielamjnoaaGreat
structure Itv where
  lo : Rat2
  hi : Rat2
  loO : Bool
  hiO : Bool
  loI : Bool
  hiI : Bool
  deriving DecidableEq
def smallB (r : Rat2) : Bool := decide (RatOk r) && decide (r.num.natAbs ≤ 1073741824) && decide (r.den ≤ 32768)
theorem smallB_iff {r : Rat2} : smallB r = true ↔ RatOk r ∧ r.num.natAbs ≤ 1073741824 ∧ r.den ≤ 32768 := by
  simp [smallB, and_assoc]
theorem RatOk.ok {r : Rat2} (h : RatOk r) : r.ok := ⟨by have := h.1; omega, h.2.2.2⟩
theorem smallB_ok {r : Rat2} (h : smallB r = true) : r.ok := (smallB_iff.1 h).1.ok
def botE : En := ⟨-1, ⟨0, 0⟩, false⟩
def topE : En := ⟨1, ⟨0, 0⟩, false⟩
def loE (x : Itv) : En := if x.loI then botE else ⟨0, x.lo, x.loO⟩
def hiE (x : Itv) : En := if x.hiI then topE else ⟨0, x.hi, !x.hiO⟩
def limB (r : Rat2) (o inf : Bool) : Bool := if inf then r == ⟨0, 0⟩ && !o else smallB r
def goodB (x : Itv) : Bool := limB x.lo x.loO x.loI && limB x.hi x.hiO x.hiI && lessE (loE x) (hiE x)
def En.sm (e : En) : Prop := (e.far = 0 ∧ smallB e.at' = true) ∨ e = botE ∨ e = topE
theorem En.sm.ok {e : En} (h : e.sm) : e.ok := by
  rcases h with ⟨h1, h2⟩ | rfl | rfl
  · exact .inl ⟨h1, smallB_ok h2⟩
  · exact .inr ⟨.inl rfl, rfl, rfl⟩
  · exact .inr ⟨.inr rfl, rfl, rfl⟩
theorem limB_lo {x : Itv} (h : limB x.lo x.loO x.loI = true) : (loE x).sm := by
  unfold loE
  unfold limB at h
  split
  · exact .inr (.inl rfl)
  · rename_i hi
    rw [if_neg hi] at h
    exact .inl ⟨rfl, h⟩
theorem limB_hi {x : Itv} (h : limB x.hi x.hiO x.hiI = true) : (hiE x).sm := by
  unfold hiE
  unfold limB at h
  split
  · exact .inr (.inr rfl)
  · rename_i hi
    rw [if_neg hi] at h
    exact .inl ⟨rfl, h⟩
theorem goodB_iff {x : Itv} : goodB x = true ↔ limB x.lo x.loO x.loI = true ∧ limB x.hi x.hiO x.hiI = true ∧ lessE (loE x) (hiE x) = true := by
  simp [goodB, and_assoc]
theorem goodB.lo {x : Itv} (h : goodB x = true) : (loE x).sm := limB_lo (goodB_iff.1 h).1
theorem goodB.hi {x : Itv} (h : goodB x = true) : (hiE x).sm := limB_hi (goodB_iff.1 h).2.1
theorem goodB.lt {x : Itv} (h : goodB x = true) : lessE (loE x) (hiE x) = true := (goodB_iff.1 h).2.2
def insB (x : Itv) (e : En) : Bool := !lessE e (loE x) && lessE e (hiE x)
def setF : Option Itv → List Itv → Bool
  | _, [] => true
  | p, x :: r => goodB x && (match p with | none => true | some y => lessE (hiE y) (loE x)) && setF (some x) r
def setE (l : List Itv) : Int := if setF none l = false then 1 else if 32 < l.length then 4 else 0
def hasB (x : Itv) (r : Rat2) : Bool := insB x ⟨0, r, false⟩
def lessR (a b : Rat2) : Bool := decide (a.num * b.den < b.num * a.den)
def fewE (l : List Itv) : List Itv × Int := if 32 < l.length then ([], 4) else (l, 0)
end Go.Proofs.YtbpilielamjnoaaGreat
namespace Go.Proofs.YtbpilielamjnoaaGreat
open Go.RowKit
theorem sliceArr {α : Type} {E : PH → List Value → α → Prop} {sz : Nat} {w : World} {b n : Nat} {cur : Array Value} {T : TypeId} {xs : List α} (hO : Own w b cur T) (hc : Cells (ph w) E sz cur.toList xs) (hn : n = xs.length) (hm : n ≤ maxLen) :
    SliceRep E sz (ph w) (.slice (some ⟨b, 0, none⟩) n n) xs := by
  subst hn
  refine ⟨_, _, rfl, Nat.le_refl _, hm, .inr ⟨b, 0, rfl, hc.row (fun _ _ h => h) fun j u hu => ?_⟩⟩
  rw [← cell_ph, Nat.zero_add, hO.facts.1]
  simpa using hu
end Go.Proofs.YtbpilielamjnoaaGreat
namespace Go.Proofs.YtbpilielamjnoaaGreat
open Go.RowKit Go.Shelf
def enA (e : En) : Value := .agg #[.int .i64 e.far, .int .i64 e.at'.num, .int .i64 e.at'.den, .bool e.aft]
def itC (x : Itv) : List Value := [.int .i64 x.lo.num, .int .i64 x.lo.den, .int .i64 x.hi.num, .int .i64 x.hi.den, .bool x.loO, .bool x.hiO, .bool x.loI, .bool x.hiI]
def itA (x : Itv) : Value := .agg #[.int .i64 x.lo.num, .int .i64 x.lo.den, .int .i64 x.hi.num, .int .i64 x.hi.den, .bool x.loO, .bool x.hiO, .bool x.loI, .bool x.hiI]
def raA (r : Rat2) : Value := .agg #[.int .i64 r.num, .int .i64 r.den]
def Rat2.I (r : Rat2) : Prop := I64 r.num ∧ I64 r.den
def Itv.I (x : Itv) : Prop := x.lo.I ∧ x.hi.I
def ItvR (_ : PH) (cs : List Value) (x : Itv) : Prop := cs = itC x ∧ x.I
theorem mono_ItvR : Mono ItvR := fun _ _ _ _ _ h => h
abbrev ItvsR : PH → Value → List Itv → Prop := SliceRep ItvR 8
def En.I (e : En) : Prop := I64 e.far ∧ e.at'.I
def En.bd (e : En) : Prop := -1 ≤ e.far ∧ e.far ≤ 1 ∧ -1073741824 ≤ e.at'.num ∧ e.at'.num ≤ 1073741824 ∧ 0 ≤ e.at'.den ∧ e.at'.den ≤ 32768
theorem En.sm.bd {e : En} (h : e.sm) : e.bd := by
  unfold En.bd
  rcases h with ⟨h1, h2⟩ | rfl | rfl
  · obtain ⟨⟨h3, -⟩, h4, h5⟩ := smallB_iff.1 h2
    omega
  · simp [botE]
  · simp [topE]
theorem mul_bd {x y : Int} (h1 : -1073741824 ≤ x) (h2 : x ≤ 1073741824) (h3 : 0 ≤ y) (h4 : y ≤ 32768) : -35184372088832 ≤ x * y ∧ x * y ≤ 35184372088832 := by
  have e1 : x * y ≤ 1073741824 * 32768 := Int.le_trans (Int.mul_le_mul_of_nonneg_right h2 h3) (Int.mul_le_mul_of_nonneg_left h4 (by omega))
  have e2 : -1073741824 * 32768 ≤ x * y := by
    have : -1073741824 * y ≤ x * y := Int.mul_le_mul_of_nonneg_right h1 h3
    omega
  omega
theorem wrap_id {x : Int} (h1 : -9223372036854775808 ≤ x) (h2 : x ≤ 9223372036854775807) : IntKind.i64.wrap x = x := by rw [IntKind.wrap_i64]; omega
theorem wrap64_id {x : Int} (h1 : -9223372036854775808 ≤ x) (h2 : x ≤ 9223372036854775807) : wrap64 x = x := by rw [← IntWalk.i64_left]; exact wrap_id h1 h2
set_option maxRecDepth 100000 in
set_option maxHeartbeats 1000000 in
theorem less_c (a b : En) (w : World) (ha : a.bd) (hb : b.bd) : Calls Tryz.prog 128 #[enA a, enA b] w (RetV w (.bool (lessE a b))) := by
  obtain ⟨f, ⟨n, d⟩, t⟩ := a
  obtain ⟨f', ⟨n', d'⟩, t'⟩ := b
  obtain ⟨-, -, a1, a2, a3, a4⟩ := ha
  obtain ⟨-, -, b1, b2, b3, b4⟩ := hb
  dsimp only at a1 a2 a3 a4 b1 b2 b3 b4
  have m1 := mul_bd a1 a2 b3 b4
  have m2 := mul_bd b1 b2 a3 a4
  have w1 : IntKind.i64.wrap (n * d') = n * d' := wrap_id (by omega) (by omega)
  have w2 : IntKind.i64.wrap (n' * d) = n' * d := wrap_id (by omega) (by omega)
  clear a1 a2 a3 a4 b1 b2 b3 b4
  unfold enA
  dsimp only
  have hx : Ext w ((w.alloc (.cells #[.int .i64 f, .int .i64 n, .int .i64 d, .bool t] 139)).alloc (.cells #[.int .i64 f', .int .i64 n', .int .i64 d', .bool t'] 139)) := xE
  by_cases hf : f = f'
  · subst hf
    by_cases h0 : f = 0
    · subst h0
      have hs : Hid (lessE ⟨0, ⟨n, d⟩, t⟩ ⟨0, ⟨n', d'⟩, t'⟩ = if n * d' ≠ n' * d then decide (n * d' < n' * d) else (!t && t')) := by
        show _ = _
        unfold lessE
        rw [if_neg (by simp), if_neg (by simp)]
      have w3 : wrap64 (n * d') = n * d' := wrap64_id (by omega) (by omega)
      have w4 : wrap64 (n' * d) = n' * d := wrap64_id (by omega) (by omega)
      generalize lessE _ _ = q at hs ⊢
      by_cases hxy : n * d' = n' * d
      · rw [if_neg (by simpa using hxy)] at hs
        replace hxy := Lib.hid hxy
        go_enter Tryz.func128, Tryz.ntmps128
        go_wp2_with fail
        go_quiet (fail)
        rw [hxy.out]
        generalize n' * d = y at *
        cases t <;> (go_wp2_with fail; go_ret; exact ⟨ret_bool (by rw [hs.out]; first | rfl | simp), xE⟩)
      · rw [if_pos hxy] at hs
        go_enter Tryz.func128, Tryz.ntmps128
        go_wp2_with fail
        go_quiet (fail)
        have hb : (n * d' != n' * d) = true := by simpa using hxy
        generalize n * d' = x at *
        generalize n' * d = y at *
        clear w1 w2 w3 w4
        go_wp2_with fail
        go_ret
        exact ⟨ret_bool hs.out.symm, xE⟩
    · have hs : Hid (lessE ⟨f, ⟨n, d⟩, t⟩ ⟨f, ⟨n', d'⟩, t'⟩ = false) := by
        show _ = _
        unfold lessE
        rw [if_neg (by simp), if_pos h0]
      generalize lessE _ _ = q at hs ⊢
      have hb : (f != 0) = true := by simpa using h0
      go_enter Tryz.func128, Tryz.ntmps128
      go_wp2_with fail
      go_ret
      exact ⟨ret_bool hs.out.symm, xE⟩
  · have hs : Hid (lessE ⟨f, ⟨n, d⟩, t⟩ ⟨f', ⟨n', d'⟩, t'⟩ = decide (f < f')) := by
      show _ = _
      unfold lessE
      rw [if_pos hf]
    generalize lessE _ _ = q at hs ⊢
    have hb : (f != f') = true := by simpa using hf
    go_enter Tryz.func128, Tryz.ntmps128
    go_wp2_with fail
    go_ret
    exact ⟨ret_bool hs.out.symm, xE⟩
def endsV (x : Itv) : Value := .tuple #[enA (loE x), enA (hiE x)]
set_option maxRecDepth 100000 in
set_option maxHeartbeats 2000000 in
theorem ends_c (x : Itv) (w : World) : Calls Tryz.prog 127 #[itA x] w (RetV w (endsV x)) := by
  obtain ⟨⟨a, b⟩, ⟨c, d⟩, lO, hO, lI, hI⟩ := x
  unfold itA
  dsimp only
  go_enter Tryz.func127, Tryz.ntmps127
  go_upto_region 1 with (fail)
  have hX : Ext w (((w.alloc (.cells #[.int .i64 a, .int .i64 b, .int .i64 c, .int .i64 d, .bool lO, .bool hO, .bool lI, .bool hI] 96)).alloc (.cells #[.int .i64 0, .int .i64 0, .int .i64 0, .bool false] 139)).alloc (.cells #[.int .i64 0, .int .i64 0, .int .i64 0, .bool false] 139)) := xE
  have hO1 := ((Own.new w #[.int .i64 a, .int .i64 b, .int .i64 c, .int .i64 d, .bool lO, .bool hO, .bool lI, .bool hI] 96).alloc (.cells #[.int .i64 0, .int .i64 0, .int .i64 0, .bool false] 139)).alloc (.cells #[.int .i64 0, .int .i64 0, .int .i64 0, .bool false] 139)
  obtain ⟨of, og⟩ := hO1.facts
  have o0 : _ = some (Value.int .i64 a) := of 0
  have o1 : _ = some (Value.int .i64 b) := of 1
  have o2 : _ = some (Value.int .i64 c) := of 2
  have o3 : _ = some (Value.int .i64 d) := of 3
  have o4 : _ = some (Value.bool lO) := of 4
  have o5 : _ = some (Value.bool hO) := of 5
  have o6 : _ = some (Value.bool lI) := of 6
  have o7 : _ = some (Value.bool hI) := of 7
  have hsz := hO1.lt
  clear of og hO1
  have hsz2 : w.heap.size + 1 + 1 < (((w.alloc (.cells #[.int .i64 a, .int .i64 b, .int .i64 c, .int .i64 d, .bool lO, .bool hO, .bool lI, .bool hI] 96)).alloc (.cells #[.int .i64 0, .int .i64 0, .int .i64 0, .bool false] 139)).alloc (.cells #[.int .i64 0, .int .i64 0, .int .i64 0, .bool false] 139)).heap.size := by simp
  have p2 := (Own.new' (w.alloc (.cells #[.int .i64 a, .int .i64 b, .int .i64 c, .int .i64 d, .bool lO, .bool hO, .bool lI, .bool hI] 96)) #[.int .i64 0, .int .i64 0, .int .i64 0, .bool false] 139 (n := w.heap.size + 1) (by simp)).alloc (.cells #[.int .i64 0, .int .i64 0, .int .i64 0, .bool false] 139)
  have p3 := Own.new' ((w.alloc (.cells #[.int .i64 a, .int .i64 b, .int .i64 c, .int .i64 d, .bool lO, .bool hO, .bool lI, .bool hI] 96)).alloc (.cells #[.int .i64 0, .int .i64 0, .int .i64 0, .bool false] 139)) #[.int .i64 0, .int .i64 0, .int .i64 0, .bool false] 139 (n := w.heap.size + 1 + 1) (by simp)
  generalize ((w.alloc _).alloc _).alloc _ = W at *
  replace p2 := Lib.hid p2
  replace p3 := Lib.hid p3
  go_cut [4, 5] (fun v4 v5 wx => ∃ g4 g5, v4 = .pointer (some ⟨g4, 0, none⟩) ∧ v5 = .pointer (some ⟨g5, 0, none⟩) ∧ g4 ≠ g5 ∧ W.heap.size ≤ g4 ∧ W.heap.size ≤ g5 ∧ Own wx g4 #[.int .i64 0, .int .i64 a, .int .i64 b, .bool lO] 139 ∧ Own wx g5 #[.int .i64 0, .int .i64 c, .int .i64 d, .bool !hO] 139 ∧ Ext W wx)
  case first =>
    go_region
    · go_wp2_with fail
      go_meet
      case rel => exact ⟨_, _, rfl, rfl, by omega, by omega, by omega, (Own.new W _ _).alloc _, Own.new' _ _ _ (by simp), xE⟩
    · go_wp2_with fail
      go_meet
      case rel => exact ⟨_, _, rfl, rfl, by omega, by omega, by omega, Own.new' _ _ _ (by simp), (Own.new W _ _).alloc _, xE⟩
  case rest =>
    obtain ⟨g4, g5, rfl, rfl, hne, l4, l5, q4, q5, hx⟩ := hcut
    replace o6 := hx.cell1 o6
    replace o7 := hx.cell1 o7
    replace p2 := p2.out.keep hx
    replace p3 := p3.out.keep hx
    replace hX := hX.then hx
    have hsz3 := hx.size
    clear o0 o1 o2 o3 o4 o5
    have n5 : g4 ≠ w.heap.size := by omega
    have n6 : g5 ≠ w.heap.size := by omega
    have hv : Hid (endsV ⟨⟨a, b⟩, ⟨c, d⟩, lO, hO, lI, hI⟩ = .tuple #[enA (if lI then botE else ⟨0, ⟨a, b⟩, lO⟩), enA (if hI then topE else ⟨0, ⟨c, d⟩, !hO⟩)]) := rfl
    have z4 := q4.lt
    have z5 := q5.lt
    generalize hL : (if lI then botE else ⟨0, ⟨a, b⟩, lO⟩ : En) = L at hv
    generalize hR : (if hI then topE else ⟨0, ⟨c, d⟩, !hO⟩ : En) = R at hv
    replace hL := Lib.hid hL
    replace hR := Lib.hid hR
    go_upto_if 18 with (fail)
    go_cut [] (fun wx => Own wx g4 #[.int .i64 L.far, .int .i64 L.at'.num, .int .i64 L.at'.den, .bool L.aft] 139 ∧ Own wx g5 #[.int .i64 0, .int .i64 c, .int .i64 d, .bool !hO] 139 ∧ Own wx (w.heap.size + 1) #[.int .i64 0, .int .i64 0, .int .i64 0, .bool false] 139 ∧ Own wx (w.heap.size + 1 + 1) #[.int .i64 0, .int .i64 0, .int .i64 0, .bool false] 139 ∧ wx.cell? ⟨w.heap.size, 7, none⟩ = some (.bool hI) ∧ Ext w wx)
    case first =>
      obtain ⟨c4, f4⟩ := q4.facts
      cases lI with
      | true =>
        have hL' : L = botE := by rw [← hL.out]; rfl
        go_wp2_with fail
        go_meet
        case rel =>
          subst hL'
          have k1 := ((((q4.set 0 (.int .i64 (-1))).set 1 (.int .i64 0)).set 2 (.int .i64 0)).set 3 (.bool false))
          exact ⟨k1, (((q5.setOther (p := ⟨g4, 0, none⟩) hne.symm _).setOther (p := ⟨g4, 1, none⟩) hne.symm _).setOther (p := ⟨g4, 2, none⟩) hne.symm _).setOther (p := ⟨g4, 3, none⟩) hne.symm _,
            (((p2.setOther (p := ⟨g4, 0, none⟩) (by simp; omega) _).setOther (p := ⟨g4, 1, none⟩) (by simp; omega) _).setOther (p := ⟨g4, 2, none⟩) (by simp; omega) _).setOther (p := ⟨g4, 3, none⟩) (by simp; omega) _,
            (((p3.setOther (p := ⟨g4, 0, none⟩) (by simp; omega) _).setOther (p := ⟨g4, 1, none⟩) (by simp; omega) _).setOther (p := ⟨g4, 2, none⟩) (by simp; omega) _).setOther (p := ⟨g4, 3, none⟩) (by simp; omega) _,
            by simp [go_sem, n5, Ne.symm n5, o7], xE⟩
      | false =>
        have hL' : L = ⟨0, ⟨a, b⟩, lO⟩ := by rw [← hL.out]; rfl
        go_wp2_with fail
        go_meet
        case rel => subst hL'; exact ⟨q4, q5, p2, p3, o7, hX⟩
    case rest =>
      clear q4 q5 p2 p3 o7 o6 hX z4 z5
      obtain ⟨q4, q5, p2, p3, o7, hX⟩ := hcut
      have z4 := q4.lt
      have z5 := q5.lt
      go_upto_if 21 with (fail)
      go_cut [] (fun wx => Own wx g4 #[.int .i64 L.far, .int .i64 L.at'.num, .int .i64 L.at'.den, .bool L.aft] 139 ∧ Own wx g5 #[.int .i64 R.far, .int .i64 R.at'.num, .int .i64 R.at'.den, .bool R.aft] 139 ∧ Own wx (w.heap.size + 1) #[.int .i64 0, .int .i64 0, .int .i64 0, .bool false] 139 ∧ Own wx (w.heap.size + 1 + 1) #[.int .i64 0, .int .i64 0, .int .i64 0, .bool false] 139 ∧ Ext w wx)
      case first =>
        obtain ⟨c5, f5⟩ := q5.facts
        cases hI with
        | true =>
          have hR' : R = topE := by rw [← hR.out]; rfl
          go_wp2_with fail
          go_meet
          case rel =>
            subst hR'
            exact ⟨(((q4.setOther (p := ⟨g5, 0, none⟩) hne _).setOther (p := ⟨g5, 1, none⟩) hne _).setOther (p := ⟨g5, 2, none⟩) hne _).setOther (p := ⟨g5, 3, none⟩) hne _,
              ((((q5.set 0 (.int .i64 1)).set 1 (.int .i64 0)).set 2 (.int .i64 0)).set 3 (.bool false)),
              (((p2.setOther (p := ⟨g5, 0, none⟩) (by simp; omega) _).setOther (p := ⟨g5, 1, none⟩) (by simp; omega) _).setOther (p := ⟨g5, 2, none⟩) (by simp; omega) _).setOther (p := ⟨g5, 3, none⟩) (by simp; omega) _,
              (((p3.setOther (p := ⟨g5, 0, none⟩) (by simp; omega) _).setOther (p := ⟨g5, 1, none⟩) (by simp; omega) _).setOther (p := ⟨g5, 2, none⟩) (by simp; omega) _).setOther (p := ⟨g5, 3, none⟩) (by simp; omega) _,
              xE⟩
        | false =>
          have hR' : R = ⟨0, ⟨c, d⟩, !hO⟩ := by rw [← hR.out]; rfl
          go_wp2_with fail
          go_meet
          case rel => subst hR'; exact ⟨q4, q5, p2, p3, hX⟩
      case rest =>
        clear q4 q5 p2 p3 o7 hX z4 z5
        obtain ⟨q4, q5, p2, p3, hX⟩ := hcut
        obtain ⟨c2, f2⟩ := p2.facts
        obtain ⟨c3, f3⟩ := p3.facts
        obtain ⟨c4, f4⟩ := q4.facts
        obtain ⟨c5, f5⟩ := q5.facts
        have z2 := p2.lt
        have z3 := p3.lt
        have z4 := q4.lt
        have z5 := q5.lt
        have n1 : g4 ≠ w.heap.size + 1 := by omega
        have n2 : g4 ≠ w.heap.size + 1 + 1 := by omega
        have n3 : g5 ≠ w.heap.size + 1 := by omega
        have n4 : g5 ≠ w.heap.size + 1 + 1 := by omega
        clear q4 q5 p2 p3 hL hR
        obtain ⟨Lf, ⟨Ln, Ld⟩, Lt⟩ := L
        obtain ⟨Rf, ⟨Rn, Rd⟩, Rt⟩ := R
        go_wp2_with fail
        go_region
        go_wp2_with fail
        exact bodyPost_ret (v := .tuple #[enA ⟨Lf, ⟨Ln, Ld⟩, Lt⟩, enA ⟨Rf, ⟨Rn, Rd⟩, Rt⟩]) (by simp [enA, results, Tryz.results127, go_sem, c2, c3, f2, f3, z2, z3]) rfl ⟨by rw [hv.out], xE⟩
theorem errIf_beq {p : Prop} [Decidable p] {k : Int} (hk : k ≠ 0) : ((ErrIf p k) == 0) = decide p := by
  by_cases h : p
  · rw [ErrIf_t h]; simp [h]
  · rw [ErrIf_f h]; simp [h, hk]
set_option maxRecDepth 100000 in
set_option maxHeartbeats 1000000 in
theorem small_c (r : Rat2) (w : World) (hr : r.I) : Calls Tryz.prog 159 #[raA r] w (RetV w (.bool (smallB r))) := by
  have hs : Hid (smallB r = (decide (RatOk r) && decide (-1073741824 ≤ r.num) && decide (r.num ≤ 1073741824) && decide (r.den ≤ 32768))) := by
    show _ = _
    rw [Bool.eq_iff_iff, smallB_iff]
    simp only [Bool.and_eq_true, decide_eq_true_eq]
    constructor
    · rintro ⟨h, h1, h2⟩; exact ⟨⟨⟨h, by omega⟩, by omega⟩, h2⟩
    · rintro ⟨⟨⟨h, h1⟩, h2⟩, h3⟩; exact ⟨h, by omega, h3⟩
  have hv := fun w => ratValid_c r w hr.1 hr.2
  have he := errIf_beq (p := RatOk r) (k := 1) (by decide)
  generalize ErrIf (RatOk r) 1 = z at hv he
  generalize decide (RatOk r) = ok at *
  generalize smallB r = q at *
  obtain ⟨n, d⟩ := r
  unfold raA
  dsimp only at *
  have hw := Ext.new w (.cells #[.int .i64 n, .int .i64 d] 81)
  go_enter Tryz.func159, Tryz.ntmps159
  go_wp2_with fail
  refine RetV_at (hv _) ?_
  intro w1 hx1
  obtain ⟨c1, f1, s1⟩ := hx1.cells
  simp at s1
  cases ok with
  | false =>
    go_wp2_with fail
    go_ret
    exact ⟨ret_bool (by rw [hs.out]; simp), xE⟩
  | true =>
    by_cases h1 : -1073741824 ≤ n
    · by_cases h2 : n ≤ 1073741824
      · go_wp2_with fail
        go_ret
        exact ⟨ret_bool (by rw [hs.out]; simp [h1, h2]), xE⟩
      · go_wp2_with fail
        go_ret
        exact ⟨ret_bool (by rw [hs.out]; simp; intros; omega), xE⟩
    · go_wp2_with fail
      go_ret
      exact ⟨ret_bool (by rw [hs.out]; simp; intros; omega), xE⟩
set_option maxRecDepth 100000 in
set_option maxHeartbeats 1000000 in
theorem limit_c (r : Rat2) (o inf : Bool) (w : World) (hr : r.I) : Calls Tryz.prog 158 #[raA r, .bool o, .bool inf] w (RetV w (.bool (limB r o inf))) := by
  have hsm := fun w => small_c r w hr
  obtain ⟨n, d⟩ := r
  unfold raA at *
  dsimp only at *
  have hw := Ext.new w (.cells #[.int .i64 n, .int .i64 d] 81)
  cases inf with
  | true =>
    have hs : Hid (limB ⟨n, d⟩ o true = ((n == 0 && d == 0) && !o)) := by
      show _ = _
      unfold limB
      rw [if_pos rfl]
      congr 1
      rw [Bool.eq_iff_iff]; simp
    generalize limB _ _ _ = q at hs ⊢
    clear hsm
    go_enter Tryz.func158, Tryz.ntmps158
    go_wp2_with fail
    all_goals (go_ret; exact ⟨ret_bool (by rw [hs.out]; simp [*]), xE⟩)
  | false =>
    have hs : Hid (limB ⟨n, d⟩ o false = smallB ⟨n, d⟩) := rfl
    generalize limB _ _ _ = q at hs ⊢
    go_enter Tryz.func158, Tryz.ntmps158
    go_wp2_with fail
    refine RetV_at (hsm _) ?_
    intro w1 hx1
    go_wp2_with fail
    go_ret
    exact ⟨ret_bool hs.out.symm, xE⟩
set_option maxRecDepth 100000 in
set_option maxHeartbeats 2000000 in
theorem good_c (x : Itv) (w : World) (hx : x.I) : Calls Tryz.prog 126 #[itA x] w (RetV w (.bool (goodB x))) := by
  have h1 := fun w => limit_c x.lo x.loO x.loI w hx.1
  have h2 := fun w => limit_c x.hi x.hiO x.hiI w hx.2
  have h3 := fun w => ends_c x w
  have hs : Hid (goodB x = (limB x.lo x.loO x.loI && limB x.hi x.hiO x.hiI && lessE (loE x) (hiE x))) := rfl
  have h4 := fun (w : World) (k1 : limB x.lo x.loO x.loI = true) (k2 : limB x.hi x.hiO x.hiI = true) => less_c (loE x) (hiE x) w (limB_lo k1).bd (limB_hi k2).bd
  obtain ⟨⟨a, b⟩, ⟨c, d⟩, lO, hO, lI, hI⟩ := x
  unfold itA raA endsV at *
  dsimp only at *
  generalize limB _ lO _ = p at *
  generalize limB _ hO _ = p' at *
  generalize lessE _ _ = p2 at *
  generalize goodB _ = q at *
  generalize enA _ = L at *
  generalize enA _ = R at *
  have hw := Ext.new w (.cells #[.int .i64 a, .int .i64 b, .int .i64 c, .int .i64 d, .bool lO, .bool hO, .bool lI, .bool hI] 96)
  have eg : ∀ args w, (callFunc 158 args).run Tryz.prog w = .ok (.enter 158 args) w := enters_of Tryz.func158 (by kernel_rfl) rfl
  replace h1 := Lib.hid h1
  replace h2 := Lib.hid h2
  replace h3 := Lib.hid h3
  replace h4 := Lib.hid h4
  have hO := Proofs.YtbpilielamjnoaaGreat.Own.new w #[.int .i64 a, .int .i64 b, .int .i64 c, .int .i64 d, .bool lO, .bool hO, .bool lI, .bool hI] 96
  go_enter Tryz.func126, Tryz.ntmps126
  go_upto_region 1 with (fail)
  generalize w.alloc _ = W at *
  obtain ⟨c0, f0⟩ := hO.facts
  have z0 := hO.lt
  go_wp2_with fail
  refine RetV_at (h1.out _) ?_
  intro w1 hx1
  replace hO := hO.keep hx1
  replace hw := hw.then hx1
  clear c0 f0 z0 hx1
  obtain ⟨c1, f1⟩ := hO.facts
  have z1 := hO.lt
  cases p with
  | false =>
    go_wp2_with fail
    go_ret
    exact ⟨ret_bool (by rw [hs.out]; simp), xE⟩
  | true =>
    go_wp2_with fail
    refine RetV_at (h2.out _) ?_
    intro w2 hx2
    replace hO := hO.keep hx2
    replace hw := hw.then hx2
    clear c1 f1 z1 hx2
    obtain ⟨c2, f2⟩ := hO.facts
    have z2 := hO.lt
    cases p' with
    | false =>
      go_wp2_with fail
      go_ret
      exact ⟨ret_bool (by rw [hs.out]; simp), xE⟩
    | true =>
      go_wp2_with fail
      refine RetV_at (h3.out _) ?_
      intro w3 hx3
      go_wp2_with fail
      refine RetV_at (h4.out _ (by first | trivial | rfl) (by first | trivial | rfl)) ?_
      intro w4 hx4
      go_wp2_with fail
      go_ret
      exact ⟨ret_bool (by rw [hs.out]; simp), xE⟩
theorem infoItv : (Tryz.prog.info? 96).map (fun i => (i.zero, i.size, i.bytes)) = some (some (.agg #[.int .i64 0, .int .i64 0, .int .i64 0, .int .i64 0, .bool false, .bool false, .bool false, .bool false]), 8, 40) := by kernel_rfl
theorem one_ItvR {h : PH} : ∀ cs x, ItvR h cs x → ∀ u ∈ cs, u.oneCell' = true := by
  rintro cs x ⟨rfl, -⟩ u hu
  simp only [itC, List.mem_cons, List.not_mem_nil, or_false] at hu
  rcases hu with rfl | rfl | rfl | rfl | rfl | rfl | rfl | rfl <;> rfl
theorem ItvsR.at {w : World} {a : Option Addr} {n cap : Nat} {xs : List Itv} (hr : ItvsR (ph w) (.slice a n cap) xs) (k : Nat) (hk : k < xs.length) :
    ∃ b o, a = some ⟨b, o, none⟩ ∧ w.cell? ⟨b, o + k * 8, none⟩ = some (.int .i64 xs[k].lo.num) ∧ w.cell? ⟨b, o + k * 8 + 1, none⟩ = some (.int .i64 xs[k].lo.den) ∧ w.cell? ⟨b, o + k * 8 + 2, none⟩ = some (.int .i64 xs[k].hi.num) ∧ w.cell? ⟨b, o + k * 8 + 3, none⟩ = some (.int .i64 xs[k].hi.den) ∧ w.cell? ⟨b, o + k * 8 + 4, none⟩ = some (.bool xs[k].loO) ∧ w.cell? ⟨b, o + k * 8 + 5, none⟩ = some (.bool xs[k].hiO) ∧ w.cell? ⟨b, o + k * 8 + 6, none⟩ = some (.bool xs[k].loI) ∧ w.cell? ⟨b, o + k * 8 + 7, none⟩ = some (.bool xs[k].hiI) ∧ b < w.heap.size ∧ xs[k].I := by
  obtain ⟨b, o, cs, h1, h2, h3, rfl, h5⟩ := hr.get k hk
  have h : ∀ j, j < 8 → w.cell? ⟨b, o + k * 8 + j, none⟩ = some ((itC xs[k]).getD j undef) := fun j hj => by rw [cell_ph]; exact h3 j hj
  exact ⟨b, o, h1, h 0 (by omega), h 1 (by omega), h 2 (by omega), h 3 (by omega), h 4 (by omega), h 5 (by omega), h 6 (by omega), h 7 (by omega), cell_lt (h 0 (by omega)), h5⟩
theorem ItvsR.row {w : World} {a : Option Addr} {n cap : Nat} {xs : List Itv} (hr : ItvsR (ph w) (.slice a n cap) xs) (k : Nat) (hk : k < xs.length) :
    ∃ b o, a = some ⟨b, o, none⟩ ∧ (∀ j u, (itC xs[k])[j]? = some u → w.cell? ⟨b, o + k * 8 + j, none⟩ = some u) ∧ b < w.heap.size ∧ xs[k].I := by
  obtain ⟨b, o, cs, h1, h2, h3, rfl, h5⟩ := hr.get k hk
  have h : ∀ j u, (itC xs[k])[j]? = some u → w.cell? ⟨b, o + k * 8 + j, none⟩ = some u := fun j u hu => by
    obtain ⟨hj, he⟩ := List.getElem?_eq_some_iff.1 hu
    rw [cell_ph, h3 j hj, ← he]
    simp [List.getD_eq_getElem?_getD, hj]
  exact ⟨b, o, h1, h, cell_lt (h 0 _ rfl), h5⟩
set_option maxHeartbeats 400000 in
theorem indexFunc_itv (p : Itv → Bool) (fid : Nat) (cap : Array Value) (vs : Value) (xs : List Itv) (w : World) (hr : ItvsR (ph w) vs xs)
    (hfn : ∀ args w, (callFunc fid args).run Tryz.prog w = .ok (.enter fid args) w)
    (hf : ∀ w', Ext w w' → ∀ x ∈ xs, ∀ cs, ItvR (ph w') cs x → Calls Tryz.prog fid (#[.agg cs.toArray] ++ cap) w' (RetV w' (.bool (p x)))) :
    Calls Tryz.prog 162 #[vs, .func (.func fid) #[] cap] w (RetV w (.int .i64 (idxOf p xs))) := by
  obtain ⟨a, c, rfl, hlen, hr⟩ := hr.form
  have HF := Lib.hid hf; clear hf
  go_enter Tryz.func162, Tryz.ntmps162
  go_wp2
  go_loopw [8] (fun i wr => ∃ k : Nat, k ≤ xs.length ∧ i = .int .i64 k ∧ Hid (∀ x ∈ xs.take k, p x = false) ∧ Ext w wr) (fun i _ => xs.length - (intOf i).toNat)
  case atStart => exact ⟨0, Nat.zero_le _, rfl, Lib.hid (by simp), xE⟩
  case round =>
    obtain ⟨k, hk, rfl, HNO, hb⟩ := hrel
    by_cases hlt : k < xs.length
    · have hp' := hr.mono mono_ItvR hb.ple
      obtain ⟨b, o, rfl, h0, h1, h2, h3, h4, h5, h6, h7, hbl, hI⟩ := ItvsR.at hp' k hlt; have hE : ItvR (ph wr) (itC xs[k]) xs[k] := ⟨rfl, hI⟩; unfold itC at hE
      clear hp'
      go_wp2_with fail
      refine (HF.out _ xE _ (List.getElem_mem hlt) _ hE).mono ?_
      rintro e w1 ⟨rfl, hb1⟩
      cases hpk : p xs[k] with
      | true =>
        go_wp2_with fail
        go_ret
        exact ⟨ret_int (idxOf_found p xs k hlt hpk HNO.out).symm, xE⟩
      | false =>
        go_wp2_with fail
        go_roundw
        case rel => exact ⟨k + 1, by omega, by go_num, take_all hlt hpk HNO.out, xE⟩
        case measure => simp [intOf]; omega
    · clear hr HF
      go_wp2_with fail
      go_ret
      exact ⟨ret_int (idxOf_none p xs (take_done (by omega) HNO.out)).symm, xE⟩
theorem containsFunc_itv (p : Itv → Bool) (fid : Nat) (cap : Array Value) (vs : Value) (xs : List Itv) (w : World) (hr : ItvsR (ph w) vs xs)
    (hfn : ∀ args w, (callFunc fid args).run Tryz.prog w = .ok (.enter fid args) w)
    (hf : ∀ w', Ext w w' → ∀ x ∈ xs, ∀ cs, ItvR (ph w') cs x → Calls Tryz.prog fid (#[.agg cs.toArray] ++ cap) w' (RetV w' (.bool (p x)))) :
    Calls Tryz.prog 143 #[vs, .func (.func fid) #[] cap] w (RetV w (.bool (xs.any p))) := by
  have HF := Lib.hid hf; clear hf
  have HFN := Lib.hid hfn; clear hfn
  go_enter Tryz.func143, Tryz.ntmps143
  go_wp2_with fail
  refine (indexFunc_itv p fid cap vs xs _ hr HFN.out HF.out).mono ?_
  rintro e w1 ⟨rfl, hb1⟩
  have hx := Lib.hid (idxOf_ge p xs)
  generalize idxOf p xs = i at *
  go_wp2_with fail
  go_ret
  exact ⟨ret_bool hx.out, xE⟩
theorem few_c (v : Value) (l : List Itv) (w : World) (hr : ItvsR (ph w) v l) : Calls Tryz.prog 129 #[v] w (RetV w (.int .i64 (fewE l).2)) := by
  obtain ⟨a, c, rfl, hlen, hr⟩ := hr.form
  by_cases h : 32 < l.length
  · have hs : Hid ((fewE l).2 = 4) := by show _ = _; unfold fewE; rw [if_pos h]
    go_enter Tryz.func129, Tryz.ntmps129
    go_wp2
    go_ret
    exact ⟨ret_int hs.out.symm, xE⟩
  · have hs : Hid ((fewE l).2 = 0) := by show _ = _; unfold fewE; rw [if_neg h]
    go_enter Tryz.func129, Tryz.ntmps129
    go_wp2
    go_ret
    exact ⟨ret_int hs.out.symm, xE⟩
def prv (l : List Itv) : Nat → Option Itv
  | 0 => none
  | k + 1 => l[k]?
theorem setF_cons (p : Option Itv) (x : Itv) (r : List Itv) : setF p (x :: r) = (goodB x && (match p with | none => true | some y => lessE (hiE y) (loE x)) && setF (some x) r) := by cases p <;> rfl
theorem setF_drop {l : List Itv} {k : Nat} (h : k < l.length) (h0 : 0 < k) : setF (prv l k) (l.drop k) = (goodB l[k] && lessE (hiE (l[k - 1]'(by omega))) (loE l[k]) && setF (prv l (k + 1)) (l.drop (k + 1))) := by
  obtain ⟨j, rfl⟩ : ∃ j, k = j + 1 := ⟨k - 1, by omega⟩
  rw [List.drop_eq_getElem_cons h, setF_cons]
  simp only [prv, List.getElem?_eq_getElem h, List.getElem?_eq_getElem (show j < l.length by omega), Nat.add_sub_cancel]
theorem setF_zero {l : List Itv} (h : 0 < l.length) : setF (prv l 0) (l.drop 0) = (goodB l[0] && setF (prv l 1) (l.drop 1)) := by
  rw [List.drop_eq_getElem_cons h, setF_cons]
  simp only [prv, List.getElem?_eq_getElem h, Bool.and_true, Nat.zero_add]
theorem setF_good {l : List Itv} {k : Nat} (h : k < l.length) (hg : goodB l[k] = false) : setF (prv l k) (l.drop k) = false := by
  rw [List.drop_eq_getElem_cons h, setF_cons, hg]; rfl
set_option maxRecDepth 100000 in
set_option maxHeartbeats 4000000 in
theorem valid_c (v : Value) (l : List Itv) (w : World) (hr : ItvsR (ph w) v l) : Calls Tryz.prog 87 #[v] w (RetV w (.int .i64 (setE l))) := by
  have hfew := fun w hr => few_c v l w hr
  obtain ⟨a, c, rfl, hlen, hr⟩ := hr.form
  have hE : Hid (setE l = if setF none l = false then 1 else (fewE l).2) := by
    show _ = _
    unfold setE fewE
    split
    · rfl
    · split <;> rfl
  replace hfew := Lib.hid hfew
  go_enter Tryz.func87, Tryz.ntmps87
  go_wp2_with fail
  go_loopw [11] (fun i wr => ∃ k : Nat, k ≤ l.length ∧ i = .int .i64 k ∧ Hid (setF none l = setF (prv l k) (l.drop k) ∧ ∀ x ∈ l.take k, goodB x = true) ∧ Ext w wr) (fun i _ => l.length - (intOf i).toNat)
  case atStart => exact ⟨0, Nat.zero_le _, rfl, Lib.hid ⟨rfl, by simp⟩, Ext.rfl' _⟩
  case round =>
    obtain ⟨k, hk, rfl, ho, hx⟩ := hrel
    by_cases hlt : k < l.length
    · obtain ⟨b, o, rfl, h0, h1, h2, h3, h4, h5, h6, h7, hbl, hI⟩ := ItvsR.at (hr.mono mono_ItvR hx.ple) k hlt
      have hja : decide (k < l.length) = true := decide_eq_true hlt
      have hgood := fun w => good_c l[k] w hI
      have hends := fun w => ends_c l[k] w
      have hg0 := fun (hg : goodB l[k] = false) => setF_good hlt hg
      have hg1 := fun (hg : goodB l[k] = true) => take_all hlt hg ho.out.2
      have hk0 := fun (h : k = 0) (hg : goodB l[k] = true) => show setF (prv l k) (l.drop k) = setF (prv l (k + 1)) (l.drop (k + 1)) by
        subst h; rw [setF_zero hlt, hg, Bool.true_and]
      have hk1 := fun (h : 0 < k) => setF_drop hlt h
      have hless := fun (h : 0 < k) (hg : goodB l[k] = true) w => less_c (hiE (l[k - 1]'(by omega))) (loE l[k]) w (goodB.hi (ho.out.2 _ (by rw [List.mem_take_iff_getElem]; exact ⟨k - 1, by omega, rfl⟩))).bd (goodB.lo hg).bd
      obtain ⟨y, hy⟩ : ∃ y, ∀ h : 0 < k, y = l[k - 1]'(by omega) := by
        by_cases h : 0 < k
        · exact ⟨l[k - 1]'(by omega), fun _ => rfl⟩
        · exact ⟨l[k], fun h' => absurd h' h⟩
      have hrow := fun (h : 0 < k) => ItvsR.at (hr.mono mono_ItvR hx.ple) (k - 1) (by omega)
      have hst : ∀ h : 0 < k, lessE (hiE y) (loE l[k]) = lessE (hiE (l[k - 1]'(by omega))) (loE l[k]) := fun h => by rw [hy h]
      have hendy := fun w => ends_c y w
      unfold endsV at hends hendy
      have hless' : ∀ (h : 0 < k) (hg : goodB l[k] = true) w, Calls Tryz.prog 128 #[enA (hiE y), enA (loE l[k])] w (RetV w (.bool (lessE (hiE y) (loE l[k])))) := fun h hg w => by
        rw [hy h]; exact hless h hg w
      have hk1' : ∀ h : 0 < k, setF (prv l k) (l.drop k) = (goodB l[k] && lessE (hiE y) (loE l[k]) && setF (prv l (k + 1)) (l.drop (k + 1))) := fun h => by
        rw [hst h]; exact hk1 h
      have hrow' : ∀ h : 0 < k, wr.cell? ⟨b, o + (k - 1) * 8, none⟩ = some (.int .i64 y.lo.num) ∧ wr.cell? ⟨b, o + (k - 1) * 8 + 1, none⟩ = some (.int .i64 y.lo.den) ∧ wr.cell? ⟨b, o + (k - 1) * 8 + 2, none⟩ = some (.int .i64 y.hi.num) ∧ wr.cell? ⟨b, o + (k - 1) * 8 + 3, none⟩ = some (.int .i64 y.hi.den) ∧ wr.cell? ⟨b, o + (k - 1) * 8 + 4, none⟩ = some (.bool y.loO) ∧ wr.cell? ⟨b, o + (k - 1) * 8 + 5, none⟩ = some (.bool y.hiO) ∧ wr.cell? ⟨b, o + (k - 1) * 8 + 6, none⟩ = some (.bool y.loI) ∧ wr.cell? ⟨b, o + (k - 1) * 8 + 7, none⟩ = some (.bool y.hiI) := fun h => by
        obtain ⟨b', o', e, q0, q1, q2, q3, q4, q5, q6, q7, -⟩ := hrow h
        cases e
        rw [hy h]
        exact ⟨q0, q1, q2, q3, q4, q5, q6, q7⟩
      clear hless hk1 hst hrow hy
      generalize lessE (hiE y) (loE l[k]) = lt at *
      generalize hiE y = hy at *
      generalize loE y = ly at *
      generalize loE l[k] = lx at *
      generalize hiE l[k] = ux at *
      unfold itA at hgood hends hendy
      generalize goodB l[k] = gd at *
      generalize l[k] = x at *
      clear hI
      obtain ⟨⟨p, q⟩, ⟨r, s⟩, lO, rO, lI, rI⟩ := x
      obtain ⟨⟨p', q'⟩, ⟨r', s'⟩, lO', hO', lI', hI'⟩ := y
      obtain ⟨f1, ⟨n1, d1⟩, t1⟩ := lx
      obtain ⟨f2, ⟨n2, d2⟩, t2⟩ := ux
      obtain ⟨f3, ⟨n3, d3⟩, t3⟩ := ly
      obtain ⟨f4, ⟨n4, d4⟩, t4⟩ := hy
      unfold enA at *
      dsimp only at *
      replace hgood := Lib.hid hgood
      replace hends := Lib.hid hends
      replace hendy := Lib.hid hendy
      replace hless' := Lib.hid hless'
      replace hk0 := Lib.hid hk0
      replace hk1' := Lib.hid hk1'
      replace hg0 := Lib.hid hg0
      replace hg1 := Lib.hid hg1
      replace hrow' := Lib.hid hrow'
      go_upto_region 4 with (fail)
      have hO := Proofs.YtbpilielamjnoaaGreat.Own.new wr #[.int .i64 p, .int .i64 q, .int .i64 r, .int .i64 s, .bool lO, .bool rO, .bool lI, .bool rI] 96
      have hx1 := Ext.new wr (.cells #[.int .i64 p, .int .i64 q, .int .i64 r, .int .i64 s, .bool lO, .bool rO, .bool lI, .bool rI] 96)
      generalize wr.heap.size = b4 at *
      generalize wr.alloc _ = W at *
      have hE1 : Hid (setF none l = false → setE l = 1) := Lib.hid fun h => by rw [hE.out, if_pos h]
      replace hx := hx.then hx1
      obtain ⟨c0, f0⟩ := hO.facts
      have z0 := hO.lt
      go_wp2_with fail
      refine RetV_at (hgood.out _) ?_
      intro w2 hx2
      replace hO := hO.keep hx2
      replace hx := hx.then hx2
      have hx12 := hx1.then hx2
      clear c0 f0 z0 hx1 hx2 h0 h1 h2 h3 h4 h5 h6 h7
      obtain ⟨c0, f0⟩ := hO.facts
      have z0 := hO.lt
      cases gd with
      | false =>
        have h9 : Hid (setE l = 1) := Lib.hid (hE1.out (by rw [ho.out.1]; exact hg0.out rfl))
        go_wp2_with fail
        go_ret
        exact ⟨ret_int h9.out.symm, xE⟩
      | true =>
        by_cases hk00 : k = 0
        · have h8 : Hid (setF none l = setF (prv l (k + 1)) (l.drop (k + 1)) ∧ ∀ x ∈ l.take (k + 1), goodB x = true) := Lib.hid ⟨by rw [ho.out.1]; exact hk0.out hk00 rfl, hg1.out rfl⟩
          have hkb : decide (0 < k) = false := by simpa using hk00
          clear hk0 hk1' hrow' hless'
          go_wp2_with fail
          go_roundw
          case rel => exact ⟨k + 1, by omega, by go_num, h8.out, hx⟩
          case measure => simp [intOf]; omega
        · have hkb : decide (0 < k) = true := by simp; omega
          have hkp : 0 < k := by omega
          have hkm : IntKind.i64.wrap ((k : Int) - 1) = ((k - 1 : Nat) : Int) := by rw [IntKind.wrap_i64]; omega
          obtain ⟨q0, q1, q2, q3, q4, q5, q6, q7⟩ := hrow'.out hkp
          replace q0 := hx12.cell1 q0
          replace q1 := hx12.cell1 q1
          replace q2 := hx12.cell1 q2
          replace q3 := hx12.cell1 q3
          replace q4 := hx12.cell1 q4
          replace q5 := hx12.cell1 q5
          replace q6 := hx12.cell1 q6
          replace q7 := hx12.cell1 q7
          clear hrow' hk0
          go_wp2_with fail
          refine RetV_at (hends.out _) ?_
          intro w3 hx3
          replace hx := hx.then hx3
          replace q0 := hx3.cell1 q0
          replace q1 := hx3.cell1 q1
          replace q2 := hx3.cell1 q2
          replace q3 := hx3.cell1 q3
          replace q4 := hx3.cell1 q4
          replace q5 := hx3.cell1 q5
          replace q6 := hx3.cell1 q6
          replace q7 := hx3.cell1 q7
          have z9 := cell_lt q0
          clear c0 f0 z0 hO hx3 hx12
          go_upto_region 8 with (fail)
          have k1 := (Proofs.YtbpilielamjnoaaGreat.Own.new w3 #[.int .i64 f1, .int .i64 n1, .int .i64 d1, .bool t1] 139).alloc (.cells #[.int .i64 f2, .int .i64 n2, .int .i64 d2, .bool t2] 139)
          have hy3 := (Ext.new w3 (.cells #[.int .i64 f1, .int .i64 n1, .int .i64 d1, .bool t1] 139)).alloc' (.cells #[.int .i64 f2, .int .i64 n2, .int .i64 d2, .bool t2] 139)
          have z1 := k1.lt
          generalize hb5 : w3.heap.size = b5 at *
          generalize (w3.alloc _).alloc _ = W3 at *
          replace hx := hx.then hy3
          replace q0 := hy3.cell1 q0
          replace q1 := hy3.cell1 q1
          replace q2 := hy3.cell1 q2
          replace q3 := hy3.cell1 q3
          replace q4 := hy3.cell1 q4
          replace q5 := hy3.cell1 q5
          replace q6 := hy3.cell1 q6
          replace q7 := hy3.cell1 q7
          have z9' := cell_lt q0
          have hk1m : k - 1 < l.length := by omega
          clear z9 hy3 hb5
          go_wp2_with fail
          refine RetV_at (hendy.out _) ?_
          intro w4 hx4
          replace hx := hx.then hx4
          replace k1 := k1.keep hx4
          clear q0 q1 q2 q3 q4 q5 q6 q7 z9' z1 hx4
          go_upto_region 9 with (fail)
          have k2 := Proofs.YtbpilielamjnoaaGreat.Own.new' (w4.alloc (.cells #[.int .i64 f3, .int .i64 n3, .int .i64 d3, .bool t3] 139)) #[.int .i64 f4, .int .i64 n4, .int .i64 d4, .bool t4] 139 (n := w4.heap.size + 1) (by simp)
          have k3 := (k1.alloc (.cells #[.int .i64 f3, .int .i64 n3, .int .i64 d3, .bool t3] 139)).alloc (.cells #[.int .i64 f4, .int .i64 n4, .int .i64 d4, .bool t4] 139)
          have hy4 := (Ext.new w4 (.cells #[.int .i64 f3, .int .i64 n3, .int .i64 d3, .bool t3] 139)).alloc' (.cells #[.int .i64 f4, .int .i64 n4, .int .i64 d4, .bool t4] 139)
          replace hx := hx.then hy4
          generalize w4.heap.size = b8 at *
          generalize (w4.alloc _).alloc _ = W4 at *
          obtain ⟨c2, f2'⟩ := k2.facts
          obtain ⟨c3, f3'⟩ := k3.facts
          have z2 := k2.lt
          have z3 := k3.lt
          clear hy4 k1 k2 k3
          go_wp2_with fail
          refine RetV_at (hless'.out hkp (by first | trivial | rfl) _) ?_
          intro w5 hx5
          have hs := hk1'.out hkp
          replace hx := hx.then hx5
          clear c2 f2' c3 f3' z2 z3 hx5
          cases lt with
          | false =>
            have h9 : Hid (setE l = 1) := Lib.hid (hE1.out (by rw [ho.out.1, hs]; rfl))
            clear hs
            go_wp2_with fail
            go_ret
            exact ⟨ret_int h9.out.symm, xE⟩
          | true =>
            have h8 : Hid (setF none l = setF (prv l (k + 1)) (l.drop (k + 1)) ∧ ∀ x ∈ l.take (k + 1), goodB x = true) := Lib.hid ⟨by rw [ho.out.1, hs]; simp, hg1.out (by first | trivial | rfl)⟩
            clear hs
            go_wp2_with fail
            go_roundw
            case rel => exact ⟨k + 1, by omega, by go_num, h8.out, hx⟩
            case measure => simp [intOf]; omega
    · have hja : decide (k < l.length) = false := by simpa using hlt
      have hk2 : k = l.length := by omega
      have h9 : Hid (setE l = (fewE l).2) := Lib.hid (by
        have h1 := ho.out.1
        rw [hk2, List.drop_length] at h1
        rw [hE.out, if_neg (by rw [h1]; simp [setF])])
      go_wp2_with fail
      refine RetV_at (hfew.out _ (hr.mono mono_ItvR hx.ple)) ?_
      intro w2 hx2
      go_wp2_with fail
      go_ret
      exact ⟨ret_int h9.out.symm, xE⟩
def B62 (n : Int) : Prop := -4611686018427387904 ≤ n ∧ n ≤ 4611686018427387904
set_option maxRecDepth 100000 in
set_option maxHeartbeats 1000000 in
theorem common_c (a b : Int) (w : World) (ha : B62 a) (hb : B62 b) : Calls Tryz.prog 165 #[.int .i64 a, .int .i64 b] w (RetV w (.int .i64 (Int.gcd a b))) := by
  go_enter Tryz.func165, Tryz.ntmps165
  go_wp2
  go_loopw [0, 1] (fun u v wr => ∃ x y : Int, B62 x ∧ B62 y ∧ u = .int .i64 x ∧ v = .int .i64 y ∧ Hid (Int.gcd x y = Int.gcd a b) ∧ Ext w wr) (fun _ v _ => (intOf v).natAbs)
  case atStart => exact ⟨a, b, ha, hb, rfl, rfl, Lib.hid rfl, xE⟩
  case round =>
    obtain ⟨x, y, hx, hy, rfl, rfl, hg, he⟩ := hrel
    by_cases h0 : y = 0
    · subst h0
      have h9 : Hid ((Int.gcd a b : Int) = x.natAbs) := Lib.hid (by rw [← hg.out, Int.gcd_zero_right])
      unfold B62 at hx
      by_cases hn : x < 0
      · go_wp2_with fail
        go_ret
        exact ⟨ret_int (by rw [h9.out]; omega), xE⟩
      · go_wp2_with fail
        go_ret
        exact ⟨ret_int (by rw [h9.out]; omega), xE⟩
    · have hb0 : (y != 0) = true := by simpa using h0
      have e1 : (x.tmod y).natAbs = x.natAbs % y.natAbs := Int.natAbs_tmod x y
      have e2 : x.natAbs % y.natAbs < y.natAbs := Nat.mod_lt _ (by omega)
      have hg2 : Hid (Int.gcd y (x.tmod y) = Int.gcd a b) := Lib.hid (by rw [← hg.out]; unfold Int.gcd; rw [e1, Nat.gcd_comm x.natAbs, Nat.gcd_rec y.natAbs x.natAbs, Nat.gcd_comm])
      have h7 : B62 (x.tmod y) := by unfold B62 at *; omega
      generalize hq : x.tmod y = q at *
      replace hq := Lib.hid hq
      go_wp2_with fail
      go_quiet (fail)
      rw [hq.out]
      go_wp2_with fail
      refine ⟨⟨y, q, hy, h7, rfl, rfl, hg2, xE⟩, ?_⟩
      simp only [intOf]; omega
theorem ratOk_iff {r : Rat2} : RatOk r ↔ 1 ≤ r.den ∧ r.den ≤ 1048576 ∧ -1099511627776 ≤ r.num ∧ r.num ≤ 1099511627776 ∧ Int.gcd r.num r.den = 1 := by
  unfold RatOk Int.gcd
  omega
set_option maxRecDepth 100000 in
set_option maxHeartbeats 1000000 in
theorem rvalid_c (r : Rat2) (w : World) : Calls Tryz.prog 147 #[raA r] w (RetV w (.int .i64 (ErrIf (RatOk r) 1))) := by
  obtain ⟨n, d⟩ := r
  have hO := Proofs.YtbpilielamjnoaaGreat.Own.new w #[.int .i64 n, .int .i64 d] 81
  unfold raA
  dsimp only
  by_cases hbad : d < 1 ∨ 1048576 < d ∨ n < -1099511627776 ∨ 1099511627776 < n
  · have hs : Hid (¬ RatOk ⟨n, d⟩) := by show ¬ _; rw [ratOk_iff]; dsimp only; omega
    clear hO
    by_cases h1 : d < 1
    · go_enter Tryz.func147, Tryz.ntmps147
      go_wp2_with fail
      go_ret
      exact ⟨ret_ek hs.out, xE⟩
    · by_cases h2 : 1048576 < d
      · go_enter Tryz.func147, Tryz.ntmps147
        go_wp2_with fail
        go_ret
        exact ⟨ret_ek hs.out, xE⟩
      · by_cases h3 : 1099511627776 < n
        · go_enter Tryz.func147, Tryz.ntmps147
          go_wp2_with fail
          go_ret
          exact ⟨ret_ek hs.out, xE⟩
        · have h4 : n < -1099511627776 := by omega
          go_enter Tryz.func147, Tryz.ntmps147
          go_wp2_with fail
          go_ret
          exact ⟨ret_ek hs.out, xE⟩
  · have h1 : ¬ d < 1 := by omega
    have h2 : ¬ 1048576 < d := by omega
    have h3 : ¬ 1099511627776 < n := by omega
    have h4 : ¬ n < -1099511627776 := by omega
    have hc := fun w => common_c n d w (by unfold B62; omega) (by unfold B62; omega)
    have hs : Hid ((((Int.gcd n d : Nat) : Int) = 1) ↔ RatOk ⟨n, d⟩) := by
      show _ ↔ _
      rw [ratOk_iff]; dsimp only; omega
    generalize (Int.gcd n d : Int) = g at *
    replace hc := Lib.hid hc
    clear hbad
    have hx := Ext.new w (.cells #[.int .i64 n, .int .i64 d] 81)
    clear hO
    go_enter Tryz.func147, Tryz.ntmps147
    go_wp2_with fail
    refine RetV_at (hc.out _) ?_
    intro w1 hx1
    by_cases hg : g = 1
    · have h9 := Lib.hid (hs.out.1 hg)
      have hgb : (g != 1) = false := by simpa using hg
      clear hs
      go_wp2_with fail
      go_ret
      exact ⟨ret_e0 h9.out, xE⟩
    · have h9 := Lib.hid (fun h => hg (hs.out.2 h))
      have hgb : (g != 1) = true := by simpa using hg
      clear hs
      go_wp2_with fail
      go_ret
      exact ⟨ret_ek h9.out, xE⟩
def Rat2.bd (r : Rat2) : Prop := -1099511627776 ≤ r.num ∧ r.num ≤ 1099511627776 ∧ 0 ≤ r.den ∧ r.den ≤ 1048576
theorem RatOk.bd {r : Rat2} (h : RatOk r) : r.bd := by have := ratOk_iff.1 h; unfold Rat2.bd; omega
theorem RatOk.I {r : Rat2} (h : RatOk r) : r.I := by have := ratOk_iff.1 h; unfold Rat2.I I64; omega
theorem mul_bd2 {x y : Int} (h1 : -1099511627776 ≤ x) (h2 : x ≤ 1099511627776) (h3 : 0 ≤ y) (h4 : y ≤ 1048576) : -1152921504606846976 ≤ x * y ∧ x * y ≤ 1152921504606846976 := by
  have e1 : x * y ≤ 1099511627776 * 1048576 := Int.le_trans (Int.mul_le_mul_of_nonneg_right h2 h3) (Int.mul_le_mul_of_nonneg_left h4 (by omega))
  have e2 : -1099511627776 * 1048576 ≤ x * y := by
    have : -1099511627776 * y ≤ x * y := Int.mul_le_mul_of_nonneg_right h1 h3
    omega
  omega
set_option maxRecDepth 100000 in
set_option maxHeartbeats 1000000 in
theorem rless_c (a b : Rat2) (w : World) (ha : a.bd) (hb : b.bd) : Calls Tryz.prog 167 #[raA a, raA b] w (RetV w (.bool (lessR a b))) := by
  have hs : Hid (lessR a b = decide (a.num * b.den < b.num * a.den)) := rfl
  generalize lessR a b = q at hs ⊢
  obtain ⟨n, d⟩ := a
  obtain ⟨n', d'⟩ := b
  obtain ⟨a1, a2, a3, a4⟩ := ha
  obtain ⟨b1, b2, b3, b4⟩ := hb
  dsimp only at *
  have m1 := mul_bd2 a1 a2 b3 b4
  have m2 := mul_bd2 b1 b2 a3 a4
  clear a1 a2 a3 a4 b1 b2 b3 b4
  unfold raA
  dsimp only
  have hx := (Ext.new w (.cells #[.int .i64 n, .int .i64 d] 81)).alloc' (.cells #[.int .i64 n', .int .i64 d'] 81)
  have w1 : IntKind.i64.wrap (n * d') = n * d' := wrap_id (by omega) (by omega)
  have w2 : IntKind.i64.wrap (n' * d) = n' * d := wrap_id (by omega) (by omega)
  have w3 : wrap64 (n * d') = n * d' := wrap64_id (by omega) (by omega)
  have w4 : wrap64 (n' * d) = n' * d := wrap64_id (by omega) (by omega)
  go_enter Tryz.func167, Tryz.ntmps167
  go_wp2_with fail
  go_ret
  exact ⟨ret_bool hs.out.symm, hx⟩
def aroundV (n m : Int) : Int := if n < 0 then (-(n + 1)).tmod m else n.tmod m
theorem aroundV_range {n m : Int} (hn : I64 n) (hm : 0 < m) : 0 ≤ aroundV n m ∧ aroundV n m < m := by
  unfold I64 at hn
  unfold aroundV
  split
  · exact ⟨Int.tmod_nonneg _ (by omega), Int.tmod_lt_of_pos _ hm⟩
  · exact ⟨Int.tmod_nonneg _ (by omega), Int.tmod_lt_of_pos _ hm⟩
theorem around_c (n m : Int) (w : World) (hn : I64 n) (hm : 0 < m) (hm' : m ≤ 9223372036854775807) :
    Calls Tryz.prog 37 #[.int .i64 n, .int .i64 m] w (RetV w (.int .i64 (aroundV n m))) := by
  have hr := aroundV_range hn hm
  have hn' := hn
  unfold I64 at hn'
  have hm0 : (m == 0) = false := by simp; omega
  by_cases h : n < 0
  · have hv : Hid (aroundV n m = (-(n + 1)).tmod m) := by show _ = _; unfold aroundV; rw [if_pos h]
    rw [hv.out] at hr ⊢
    have hq : IntKind.i64.wrap ((-(n + 1)).tmod m) = (-(n + 1)).tmod m := by rw [IntKind.wrap_i64]; omega
    go_enter Tryz.func37, Tryz.ntmps37
    go_wp2_with fail
    go_ret
    exact ⟨ret_int (Int.neg_tmod ..).symm, xE⟩
  · have hv : Hid (aroundV n m = n.tmod m) := by show _ = _; unfold aroundV; rw [if_neg h]
    rw [hv.out] at hr ⊢
    have hq : IntKind.i64.wrap (n.tmod m) = n.tmod m := by rw [IntKind.wrap_i64]; omega
    go_enter Tryz.func37, Tryz.ntmps37
    go_wp2_with fail
    go_ret
    exact ⟨ret_int (Int.tmod_eq_emod_of_nonneg (by omega)).symm, xE⟩
end Go.Proofs.YtbpilielamjnoaaGreat
namespace Go.Proofs.YtbpilielamjnoaaGreat
def sumN {α : Type} (f : α → Nat) : List α → Nat
  | [] => 0
  | x :: xs => f x + sumN f xs
theorem sumN_take {α : Type} (f : α → Nat) (l : List α) (k : Nat) (h : k < l.length) : sumN f (l.take (k+1)) = sumN f (l.take k) + f l[k] := by
  induction l generalizing k with
  | nil => simp at h
  | cons x xs ih =>
    cases k with
    | zero => simp [sumN]
    | succ k => simp [sumN, ih k (by simpa using h)]; omega
theorem sumN_take_le {α : Type} (f : α → Nat) (l : List α) (k : Nat) : sumN f (l.take k) ≤ sumN f l := by
  induction l generalizing k with
  | nil => simp
  | cons x xs ih => cases k with
    | zero => simp [sumN]
    | succ k => simp [sumN]; exact ih k
theorem sumN_mem {α : Type} (f : α → Nat) {l : List α} {x : α} (h : x ∈ l) : f x ≤ sumN f l := by
  induction l with
  | nil => cases h
  | cons y ys ih =>
    rcases List.mem_cons.1 h with rfl | h
    · simp [sumN]
    · have := ih h; simp only [sumN]; omega
def maxN {α : Type} (f : α → Nat) : List α → Nat
  | [] => 0
  | x :: xs => max (f x) (maxN f xs)
theorem maxN_take {α : Type} (f : α → Nat) (l : List α) (k : Nat) (h : k < l.length) : maxN f (l.take (k+1)) = max (maxN f (l.take k)) (f l[k]) := by
  induction l generalizing k with
  | nil => simp at h
  | cons x xs ih =>
    cases k with
    | zero => simp [maxN]
    | succ k => have := ih k (by simpa using h); simp only [List.take_succ_cons, maxN, List.getElem_cons_succ, this]; omega
theorem maxN_take_le {α : Type} (f : α → Nat) (l : List α) (k : Nat) : maxN f (l.take k) ≤ maxN f l := by
  induction l generalizing k with
  | nil => simp
  | cons x xs ih => cases k with
    | zero => simp [maxN]
    | succ k => have := ih k; simp [maxN]; omega
theorem maxN_mem {α : Type} (f : α → Nat) {l : List α} {x : α} (h : x ∈ l) : f x ≤ maxN f l := by
  induction l with
  | nil => cases h
  | cons y ys ih =>
    rcases List.mem_cons.1 h with rfl | h
    · simp only [maxN]; omega
    · have := ih h; simp only [maxN]; omega
theorem maxN_le {α : Type} {f : α → Nat} {l : List α} {n : Nat} (h : ∀ x ∈ l, f x ≤ n) : maxN f l ≤ n := by
  induction l with
  | nil => simp [maxN]
  | cons x xs ih =>
    have := ih fun y hy => h y (by simp [hy])
    have := h x (by simp)
    simp only [maxN]; omega
theorem maxN_le_sumN {α : Type} (f g : α → Nat) (l : List α) (h : ∀ x ∈ l, f x ≤ g x) : maxN f l ≤ sumN g l := by
  induction l with
  | nil => simp [maxN]
  | cons x xs ih =>
    have := ih fun y hy => h y (by simp [hy])
    have := h x (by simp)
    simp only [maxN, sumN]; omega
theorem sumN_le {α : Type} (f g : α → Nat) (l : List α) (h : ∀ x ∈ l, f x ≤ g x) : sumN f l ≤ sumN g l := by
  induction l with
  | nil => simp [sumN]
  | cons x xs ih =>
    have := ih fun y hy => h y (by simp [hy])
    have := h x (by simp)
    simp only [sumN]; omega
theorem length_le_sumN {α : Type} (f : α → Nat) (l : List α) (h : ∀ x ∈ l, 1 ≤ f x) : l.length ≤ sumN f l := by
  induction l with
  | nil => simp
  | cons x xs ih =>
    have := ih fun y hy => h y (by simp [hy])
    have := h x (by simp)
    simp only [sumN, List.length_cons]; omega
end Go.Proofs.YtbpilielamjnoaaGreat
namespace Go.Proofs.YtbpilielamjnoaaGreat
open Go.RowKit
inductive Fm where
  | mk (op n : Int) (inn : List Itv) (kids : List Fm)
def Fm.op : Fm → Int | .mk o _ _ _ => o
def Fm.n : Fm → Int | .mk _ n _ _ => n
def Fm.inn : Fm → List Itv | .mk _ _ i _ => i
def Fm.kids : Fm → List Fm | .mk _ _ _ k => k
theorem Fm.eta (f : Fm) : f = .mk f.op f.n f.inn f.kids := by cases f; rfl
theorem Fm.ind {P : Fm → Prop} (h : ∀ f, (∀ g ∈ f.kids, P g) → P f) (f : Fm) : P f := by
  induction f using Fm.rec (motive_2 := fun xs => ∀ x ∈ xs, P x) with
  | mk o n i kids ih => exact h _ ih
  | nil => intros; contradiction
  | cons x xs h1 h2 =>
    rename_i y hy
    rcases List.mem_cons.1 hy with rfl | hy
    · exact h1
    · exact h2 y hy
mutual
def FmR (h : PH) : List Value → Fm → Prop
  | cs, .mk op n inn kids => ∃ v3 a4 c4, cs = [.int .i64 op, .int .i64 n, v3, .slice a4 kids.length c4] ∧ I64 op ∧ I64 n ∧ ItvsR h v3 inn ∧
      kids.length ≤ c4 ∧ c4 ≤ maxLen ∧ (kids = [] ∨ ∃ b o, a4 = some ⟨b, o, none⟩ ∧ FmsAt h b o kids)
def FmsAt (h : PH) (b : Nat) : Nat → List Fm → Prop
  | _, [] => True
  | o, x :: xs => (∃ cs, cs.length = 4 ∧ (∀ j, j < 4 → cellAt h b (o + j) = some (cs.getD j undef)) ∧ FmR h cs x) ∧ FmsAt h b (o + 4) xs
end
abbrev FmsR : PH → Value → List Fm → Prop := SliceRep FmR 4
theorem fmsAt_eq {h : PH} {b : Nat} : ∀ {xs : List Fm} {o : Nat}, FmsAt h b o xs ↔ RowRep h FmR 4 b o xs
  | [], o => by simp [FmsAt, RowRep]
  | x :: xs, o => by simp [FmsAt, RowRep, fmsAt_eq]
theorem fmR_iff {h : PH} {cs : List Value} {f : Fm} : FmR h cs f ↔ ∃ v3 v4, cs = [.int .i64 f.op, .int .i64 f.n, v3, v4] ∧ I64 f.op ∧ I64 f.n ∧ ItvsR h v3 f.inn ∧ FmsR h v4 f.kids := by
  cases f with
  | mk op n inn kids =>
    simp only [FmR, fmsAt_eq, Fm.op, Fm.n, Fm.inn, Fm.kids]
    constructor
    · rintro ⟨v3, a4, c4, rfl, h1, h2, h3, h4, h5, h6⟩
      exact ⟨v3, _, rfl, h1, h2, h3, a4, c4, rfl, h4, h5, h6⟩
    · rintro ⟨v3, v4, rfl, h1, h2, h3, a4, c4, rfl, h4, h5, h6⟩
      exact ⟨v3, a4, c4, rfl, h1, h2, h3, h4, h5, h6⟩
theorem mono_FmR : Mono FmR := by
  intro h h' cs x hl
  induction x using Fm.ind generalizing cs with
  | h f ih =>
    rw [fmR_iff, fmR_iff]
    rintro ⟨v3, v4, h1, h2, h3, h4, h5⟩
    exact ⟨v3, v4, h1, h2, h3, h4.mono mono_ItvR hl, h5.mono' hl fun cs x hx => ih x hx cs⟩
def fmC (f : Fm) (a3 : Option Addr) (c3 : Nat) (a4 : Option Addr) (c4 : Nat) : List Value := [.int .i64 f.op, .int .i64 f.n, .slice a3 f.inn.length c3, .slice a4 f.kids.length c4]
theorem FmR.form {h : PH} {cs : List Value} {f : Fm} (hr : FmR h cs f) : ∃ a3 c3 a4 c4, cs = fmC f a3 c3 a4 c4 ∧ I64 f.op ∧ I64 f.n ∧
    f.inn.length ≤ 9223372036854775807 ∧ f.kids.length ≤ 9223372036854775807 ∧
    ItvsR h (.slice a3 f.inn.length c3) f.inn ∧ FmsR h (.slice a4 f.kids.length c4) f.kids := by
  rw [fmR_iff] at hr
  obtain ⟨v3, v4, rfl, h1, h2, h3, h4⟩ := hr
  obtain ⟨a3, c3, rfl, b3, h3⟩ := h3.form
  obtain ⟨a4, c4, rfl, b4, h4⟩ := h4.form
  exact ⟨a3, c3, a4, c4, rfl, h1, h2, b3, b4, h3, h4⟩
theorem FmR.of {h : PH} {f : Fm} {a3 : Option Addr} {c3 : Nat} {a4 : Option Addr} {c4 : Nat} (h1 : I64 f.op) (h2 : I64 f.n) (h3 : ItvsR h (.slice a3 f.inn.length c3) f.inn) (h4 : FmsR h (.slice a4 f.kids.length c4) f.kids) : FmR h (fmC f a3 c3 a4 c4) f :=
  fmR_iff.2 ⟨_, _, rfl, h1, h2, h3, h4⟩
theorem FmsR.at {w : World} {a : Option Addr} {n cap : Nat} {xs : List Fm} (hr : FmsR (ph w) (.slice a n cap) xs) (k : Nat) (hk : k < xs.length) :
    ∃ b o a3 c3 a4 c4, a = some ⟨b, o, none⟩ ∧ w.cell? ⟨b, o + k * 4, none⟩ = some (.int .i64 xs[k].op) ∧ w.cell? ⟨b, o + k * 4 + 1, none⟩ = some (.int .i64 xs[k].n) ∧
      w.cell? ⟨b, o + k * 4 + 2, none⟩ = some (.slice a3 xs[k].inn.length c3) ∧ w.cell? ⟨b, o + k * 4 + 3, none⟩ = some (.slice a4 xs[k].kids.length c4) ∧
      FmR (ph w) (fmC xs[k] a3 c3 a4 c4) xs[k] ∧ b < w.heap.size := by
  obtain ⟨b, o, cs, h1, h2, h3, h4⟩ := hr.get k hk
  obtain ⟨a3, c3, a4, c4, rfl, -⟩ := h4.form
  have h : ∀ j, j < 4 → w.cell? ⟨b, o + k * 4 + j, none⟩ = some ((fmC xs[k] a3 c3 a4 c4).getD j undef) := fun j hj => by rw [cell_ph]; exact h3 j hj
  exact ⟨b, o, a3, c3, a4, c4, h1, h 0 (by omega), h 1 (by omega), h 2 (by omega), h 3 (by omega), h4, cell_lt (h 0 (by omega))⟩
mutual
def Fm.size : Fm → Nat
  | .mk _ _ _ kids => 1 + fsizes kids
def fsizes : List Fm → Nat
  | [] => 0
  | x :: xs => x.size + fsizes xs
end
theorem fsizes_eq : ∀ l : List Fm, fsizes l = sumN Fm.size l
  | [] => rfl
  | x :: xs => by simp [fsizes, sumN, fsizes_eq xs]
theorem Fm.size_eq (f : Fm) : f.size = 1 + sumN Fm.size f.kids := by
  cases f; simp [Fm.size, Fm.kids, fsizes_eq]
mutual
def Fm.deep : Fm → Nat
  | .mk _ _ _ kids => 1 + fdeeps kids
def fdeeps : List Fm → Nat
  | [] => 0
  | x :: xs => max x.deep (fdeeps xs)
end
theorem fdeeps_eq : ∀ l : List Fm, fdeeps l = maxN Fm.deep l
  | [] => rfl
  | x :: xs => by simp [fdeeps, maxN, fdeeps_eq xs]
theorem Fm.deep_eq (f : Fm) : f.deep = 1 + maxN Fm.deep f.kids := by
  cases f; simp [Fm.deep, Fm.kids, fdeeps_eq]
theorem Fm.deep_le_size (f : Fm) : f.deep ≤ f.size := by
  induction f using Fm.ind with
  | h f ih => rw [Fm.deep_eq, Fm.size_eq]; have := maxN_le_sumN Fm.deep Fm.size f.kids ih; omega
mutual
def Fm.bulk : Fm → Nat
  | .mk _ _ inn kids => 1 + inn.length + fbulks kids
def fbulks : List Fm → Nat
  | [] => 0
  | x :: xs => x.bulk + fbulks xs
end
theorem fbulks_eq : ∀ l : List Fm, fbulks l = sumN Fm.bulk l
  | [] => rfl
  | x :: xs => by simp [fbulks, sumN, fbulks_eq xs]
theorem Fm.bulk_eq (f : Fm) : f.bulk = 1 + f.inn.length + sumN Fm.bulk f.kids := by
  cases f; simp [Fm.bulk, Fm.kids, Fm.inn, fbulks_eq]
theorem Fm.bulk_pos (f : Fm) : 1 ≤ f.bulk := by rw [Fm.bulk_eq]; omega
theorem Fm.size_pos (f : Fm) : 1 ≤ f.size := by rw [Fm.size_eq]; omega
theorem Fm.size_le_bulk (f : Fm) : f.size ≤ f.bulk := by
  induction f using Fm.ind with
  | h f ih => rw [Fm.bulk_eq, Fm.size_eq]; have := sumN_le Fm.size Fm.bulk f.kids ih; omega
theorem Fm.kids_le (f : Fm) : f.kids.length ≤ f.bulk := by
  have := length_le_sumN Fm.bulk f.kids fun x _ => x.bulk_pos
  rw [Fm.bulk_eq]; omega
theorem Fm.kid_le {f g : Fm} (h : g ∈ f.kids) : g.bulk ≤ f.bulk := by
  have := sumN_mem Fm.bulk h
  rw [Fm.bulk_eq f]; omega
-- the nodes, each before its kids
mutual
def Fm.pre : Fm → List Fm
  | .mk o n i kids => .mk o n i kids :: fpres kids
def fpres : List Fm → List Fm
  | [] => []
  | x :: xs => x.pre ++ fpres xs
end
theorem fpres_eq : ∀ l : List Fm, fpres l = l.flatMap Fm.pre
  | [] => rfl
  | x :: xs => by simp [fpres, fpres_eq xs]
theorem Fm.pre_eq (f : Fm) : f.pre = f :: f.kids.flatMap Fm.pre := by
  cases f; simp [Fm.pre, Fm.kids, fpres_eq]
theorem flat_len : ∀ l : List Fm, (∀ x ∈ l, x.pre.length = x.size) → (l.flatMap Fm.pre).length = sumN Fm.size l
  | [], _ => rfl
  | x :: xs, h => by rw [List.flatMap_cons, List.length_append, h x (by simp), flat_len xs (fun y hy => h y (by simp [hy])), sumN]
theorem Fm.pre_len (f : Fm) : f.pre.length = f.size := by
  induction f using Fm.ind with
  | h f ih => rw [Fm.pre_eq, Fm.size_eq, List.length_cons, flat_len _ ih]; omega
end Go.Proofs.YtbpilielamjnoaaGreat
