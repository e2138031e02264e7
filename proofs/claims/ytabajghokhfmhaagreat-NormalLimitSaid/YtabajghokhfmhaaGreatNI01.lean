/- Lemmas for NI, part 2: ratio.Valid, and more. -/
import Derived.OrdersHeld
import Derived.OrdersIn
import Derived.TacticsIn
import Derived.RangeFuncCalls
import Derived.Laws.Rows
import Derived.Laws.CopyRow
import Derived.Lib.SliceRun
import Derived.Test.YtabajghokhfmhaaGreatNI00
set_option linter.unusedSimpArgs false
set_option linter.unusedVariables false
namespace Go.Proofs.YtabajghokhfmhaaGreat
open Go.RowKit
def RatOk (r : Rat2) : Prop := 1 ≤ r.den ∧ r.den ≤ 1048576 ∧ r.num.natAbs ≤ 1099511627776 ∧ Nat.gcd r.num.natAbs r.den.natAbs = 1
instance (r : Rat2) : Decidable (RatOk r) := by unfold RatOk; infer_instance
theorem newS_ok (r : Rat2) (h : 1 ≤ r.den) : ((newS r.num r.den).2 = 0 ∧ (newS r.num r.den).1 = r) ↔ RatOk r := by
  obtain ⟨num, den⟩ := r
  simp only at h
  have hd : den ≠ 0 := by omega
  have hdn : decide (den < 0) = false := by simp; omega
  have hgp : 0 < Nat.gcd num.natAbs den.natAbs := Nat.gcd_pos_of_pos_right _ (by omega)
  have h1 := Nat.div_mul_cancel (Nat.gcd_dvd_left num.natAbs den.natAbs)
  have h2 := Nat.div_mul_cancel (Nat.gcd_dvd_right num.natAbs den.natAbs)
  simp only [newS, if_neg hd, buildS, hdn, Bool.bne_false, RatOk]
  generalize Nat.gcd num.natAbs den.natAbs = g at *
  generalize hq : num.natAbs / g = q at *
  generalize hm : den.natAbs / g = m at *
  split
  · constructor
    · rintro ⟨h3, _⟩; simp at h3
    · rintro ⟨_, h4, h5, h6⟩
      subst h6
      simp at h1 h2
      omega
  · rename_i hlim
    constructor
    · rintro ⟨_, h3⟩
      have h4 := congrArg Rat2.den h3
      have h5 := congrArg Rat2.num h3
      simp only at h4 h5
      have h6 : m = den.natAbs := by omega
      have h7 : g = 1 := by
        rw [h6] at h2
        have : den.natAbs * g = den.natAbs * 1 := by omega
        exact Nat.eq_of_mul_eq_mul_left (by omega) this
      subst h7
      simp at h1 h2
      exact ⟨h, by omega, by omega, rfl⟩
    · rintro ⟨_, h4, h5, h6⟩
      subst h6
      simp at h1 h2
      refine ⟨rfl, ?_⟩
      by_cases hn : num < 0
      · simp only [hn, decide_true, if_true]; congr 1 <;> omega
      · have : decide (num < 0) = false := by simpa using hn
        rw [this]; simp only [Bool.false_eq_true, if_false]; congr 1 <;> omega
set_option maxHeartbeats 400000 in
theorem ratValid_c (r : Rat2) (w : World) (hn : I64 r.num) (hd : I64 r.den) :
    Calls Tryz.prog 129 #[.agg #[.int .i64 r.num, .int .i64 r.den]] w (RetV w (.int .i64 (ErrIf (RatOk r) 1))) := by
  by_cases hlt : r.den < 1
  · have hs : ¬ RatOk r := by unfold RatOk; omega
    have hs := Lib.hid hs
    go_enter Tryz.func129, Tryz.ntmps129
    go_wp2_with fail
    go_ret
    exact ⟨ret_ek hs.out, xE⟩
  · have hs := Lib.hid (newS_ok r (by omega))
    go_enter Tryz.func129, Tryz.ntmps129
    go_wp2_with fail
    refine (new_c r.num r.den _ hn hd).mono ?_
    rintro e w1 ⟨rfl, hb1⟩
    have ho : Own w1 w.heap.size #[.int .i64 r.num, .int .i64 r.den] 72 := oE
    replace hb1 : Ext w w1 := xE
    have hl := ho.lt
    obtain ⟨hoc, hof⟩ := ho.facts
    unfold ratErr
    by_cases he : (newS r.num r.den).2 = 0
    · by_cases hr : (newS r.num r.den).1 = r
      · have h1 : (newS r.num r.den).1.num = r.num := by rw [hr]
        have h2 : (newS r.num r.den).1.den = r.den := by rw [hr]
        rw [h1, h2, he]
        have hok := Lib.hid (hs.out.1 ⟨he, hr⟩)
        clear hr h1 h2 he hs
        go_wp2_with fail
        go_ret
        exact ⟨ret_e0 hok.out, xE⟩
      · have hok : Hid (¬ RatOk r) := fun h => hr (hs.out.2 h).2
        have hne : (((newS r.num r.den).1.num == r.num) && ((newS r.num r.den).1.den == r.den)) = false := by
          rw [Bool.eq_false_iff]; intro h
          simp at h
          apply hr
          cases hx : (newS r.num r.den).1; cases r; simp_all
        rw [he]
        clear hr he hs
        generalize (newS r.num r.den).1.num = x at *
        generalize (newS r.num r.den).1.den = y at *
        go_wp2_with fail
        all_goals first | (exfalso; simp_all; done) | (go_ret; exact ⟨ret_ek hok.out, xE⟩)
    · have hok : Hid (¬ RatOk r) := fun h => he (hs.out.2 h).1
      have he' : ((newS r.num r.den).2 == 0) = false := by simpa using he
      clear he hs
      generalize (newS r.num r.den).2 = z at *
      go_wp2_with fail
      all_goals first | (exfalso; simp_all; done) | (go_ret; exact ⟨ret_ek hok.out, xE⟩)
def GoodP (r : Rat2) : Prop := RatOk r ∧ r.den ≤ 65536
instance (r : Rat2) : Decidable (GoodP r) := by unfold GoodP; infer_instance
end Go.Proofs.YtabajghokhfmhaaGreat
namespace Go.Proofs.YtabajghokhfmhaaGreat
structure Itv where
  lo : Rat2
  hi : Rat2
  loO : Bool
  hiO : Bool
  loI : Bool
  hiI : Bool
  deriving DecidableEq
def smallB (r : Rat2) : Bool := decide (RatOk r) && decide (r.num.natAbs ≤ 1073741824) && decide (r.den ≤ 32768)
theorem smallB_iff {r : Rat2} : smallB r = true ↔ RatOk r ∧ r.num.natAbs ≤ 1073741824 ∧ r.den ≤ 32768 := by
  simp [smallB, and_assoc]
theorem RatOk.ok {r : Rat2} (h : RatOk r) : r.ok := ⟨by have := h.1; omega, h.2.2.2⟩
theorem smallB_ok {r : Rat2} (h : smallB r = true) : r.ok := (smallB_iff.1 h).1.ok
def botE : En := ⟨-1, ⟨0, 0⟩, false⟩
def topE : En := ⟨1, ⟨0, 0⟩, false⟩
def loE (x : Itv) : En := if x.loI then botE else ⟨0, x.lo, x.loO⟩
def hiE (x : Itv) : En := if x.hiI then topE else ⟨0, x.hi, !x.hiO⟩
def betw (lo hi : En) : Itv := ⟨if lo.far ≠ 0 then ⟨0, 0⟩ else lo.at', if hi.far ≠ 0 then ⟨0, 0⟩ else hi.at', if lo.far ≠ 0 then false else lo.aft, if hi.far ≠ 0 then false else !hi.aft, decide (lo.far ≠ 0), decide (hi.far ≠ 0)⟩
def limB (r : Rat2) (o inf : Bool) : Bool := if inf then r == ⟨0, 0⟩ && !o else smallB r
def goodB (x : Itv) : Bool := limB x.lo x.loO x.loI && limB x.hi x.hiO x.hiI && lessE (loE x) (hiE x)
def En.sm (e : En) : Prop := (e.far = 0 ∧ smallB e.at' = true) ∨ e = botE ∨ e = topE
theorem En.sm.ok {e : En} (h : e.sm) : e.ok := by
  rcases h with ⟨h1, h2⟩ | rfl | rfl
  · exact .inl ⟨h1, smallB_ok h2⟩
  · exact .inr ⟨.inl rfl, rfl, rfl⟩
  · exact .inr ⟨.inr rfl, rfl, rfl⟩
theorem limB_lo {x : Itv} (h : limB x.lo x.loO x.loI = true) : (loE x).sm := by
  unfold loE
  unfold limB at h
  split
  · exact .inr (.inl rfl)
  · rename_i hi
    rw [if_neg hi] at h
    exact .inl ⟨rfl, h⟩
theorem limB_hi {x : Itv} (h : limB x.hi x.hiO x.hiI = true) : (hiE x).sm := by
  unfold hiE
  unfold limB at h
  split
  · exact .inr (.inr rfl)
  · rename_i hi
    rw [if_neg hi] at h
    exact .inl ⟨rfl, h⟩
theorem goodB_iff {x : Itv} : goodB x = true ↔ limB x.lo x.loO x.loI = true ∧ limB x.hi x.hiO x.hiI = true ∧ lessE (loE x) (hiE x) = true := by
  simp [goodB, and_assoc]
theorem goodB.lo {x : Itv} (h : goodB x = true) : (loE x).sm := limB_lo (goodB_iff.1 h).1
theorem goodB.hi {x : Itv} (h : goodB x = true) : (hiE x).sm := limB_hi (goodB_iff.1 h).2.1
theorem lessE_far {a b : En} (h : lessE a b = true) : a.far ≤ b.far := by
  unfold lessE at h
  split at h
  · have := of_decide_eq_true h; omega
  · rename_i h1; omega
theorem lessE_inf {a b : En} (h : lessE a b = true) (h0 : a.far = b.far) : a.far = 0 := by
  unfold lessE at h
  rw [if_neg (by omega)] at h
  split at h
  · cases h
  · omega
def insB (x : Itv) (e : En) : Bool := !lessE e (loE x) && lessE e (hiE x)
def covB (l : List Itv) (e : En) : Bool := l.any fun x => insB x e
def setF : Option Itv → List Itv → Bool
  | _, [] => true
  | p, x :: r => goodB x && (match p with | none => true | some y => lessE (hiE y) (loE x)) && setF (some x) r
def setE (l : List Itv) : Int := if setF none l = false then 1 else if 32 < l.length then 4 else 0
def hasB (x : Itv) (r : Rat2) : Bool := insB x ⟨0, r, false⟩
def marks (keep : List Bool → Bool) (ls : List (List Itv)) (E : List En) : List (En × Bool) := E.map fun e => (e, decide (e.far ≠ 1) && keep (ls.map fun l => covB l e))
def pairs (l : List (En × En)) : List Itv := l.map fun i => betw i.1 i.2
def lessR (a b : Rat2) : Bool := decide (a.num * b.den < b.num * a.den)
def putR : List Rat2 → Rat2 → List Rat2
  | [], r => [r]
  | p :: l, r => if lessR p r then p :: putR l r else if p = r then p :: l else r :: p :: l
def ptsX (a : List Rat2) (x : Itv) : List Rat2 :=
  let b := if x.loI then a else putR a x.lo
  if x.hiI then b else putR b x.hi
def ptsL (l : List Itv) : List Rat2 := l.foldl ptsX []
def starts (ps : List Rat2) : List En := botE :: ps.flatMap fun p => [⟨0, p, false⟩, ⟨0, p, true⟩]
def combF (keep : List Bool → Bool) (ls : List (List Itv)) : List Itv := pairs (runZ none (marks keep ls (starts (ptsL ls.flatten) ++ [topE])))
def fewE (l : List Itv) : List Itv × Int := if 32 < l.length then ([], 4) else (l, 0)
noncomputable def toT (e : En) : EnT := @dite _ e.ok (Classical.propDecidable _) (fun h => ⟨e, h⟩) (fun _ => ⟨botE, En.sm.ok (.inr (.inl rfl))⟩)
theorem toT_val {e : En} (h : e.ok) : (toT e).1 = e := by unfold toT; rw [dif_pos h]
theorem toT_lt {a b : En} (ha : a.ok) (hb : b.ok) : ltE (toT a) (toT b) ↔ lessE a b = true := by unfold ltE; rw [toT_val ha, toT_val hb]
theorem ltE_top {x : EnT} (h : ¬ ltE x (toT topE)) : x.1.far = 1 := by
  have ht : (topE).ok := En.sm.ok (.inr (.inr rfl))
  by_cases hf : x.1.far = 1
  · exact hf
  · exfalso
    apply h
    unfold ltE lessE
    have he : topE.far = 1 := rfl
    rw [toT_val ht, he, if_pos hf]
    have : x.1.far < 1 := by
      rcases x.2 with h1 | ⟨h1, -⟩
      · omega
      · omega
    simpa using this
theorem ltE_ntop {a b : EnT} (h : ltE a b) : a.1.far ≠ 1 := by
  intro h1
  have h2 := lessE_far h
  have h3 := lessE_inf h
  rcases b.2 with h4 | ⟨h4, -⟩
  · omega
  · have := h3 (by omega); omega
theorem ltE_bot {x : EnT} : ¬ ltE x (toT botE) := by
  have ht : (botE).ok := En.sm.ok (.inr (.inl rfl))
  intro h
  have h1 := lessE_far h
  have h3 := lessE_inf h
  rw [toT_val ht] at h1 h3
  have : botE.far = -1 := rfl
  rcases x.2 with h4 | ⟨h4, -⟩
  · omega
  · have := h3 (by omega); omega
structure Ends (ls : List (List Itv)) (E : List En) : Prop where
  shape : ∃ es, E = botE :: es ++ [topE]
  sm : ∀ e ∈ E, e.sm
  asc : E.Pairwise fun a b => lessE a b = true
  all : ∀ l ∈ ls, ∀ x ∈ l, loE x ∈ E ∧ hiE x ∈ E
def setP (keep : List Bool → Bool) (ls : List (List Itv)) (x : EnT) : Prop := x.1.far ≠ 1 ∧ keep (ls.map fun l => covB l x.1) = true
theorem Ends.seg {keep : List Bool → Bool} {ls : List (List Itv)} {E : List En} (h : Ends ls E) : ∃ b r, (marks keep ls E).map (fun z => (toT z.1, z.2)) = (toT botE, b) :: r ∧ Seg ltE (setP keep ls) ((toT botE, b) :: r) := by
  obtain ⟨es, hE⟩ := h.shape
  have hok : ∀ e ∈ E, e.ok := fun e he => (h.sm e he).ok
  have e1 : (marks keep ls E).map (fun z => (toT z.1, z.2)) = (((botE :: es).map toT) ++ [toT topE]).map fun e => (e, decide (e.1.far ≠ 1) && keep (ls.map fun l => covB l e.1)) := by
    have : ((botE :: es).map toT) ++ [toT topE] = E.map toT := by rw [hE]; simp
    rw [this]
    unfold marks
    rw [List.map_map, List.map_map]
    refine List.map_congr_left fun e he => ?_
    simp only [Function.comp, toT_val (hok e he)]
  have hmem : ∀ y ∈ E, toT y ∈ ((botE :: es).map toT) ++ [toT topE] := by
    intro y hy
    rw [hE] at hy
    rcases List.mem_append.1 hy with hy | hy
    · exact List.mem_append_left _ (List.mem_map_of_mem hy)
    · rw [List.mem_singleton.1 hy]; simp
  have hseg := seg_of stoE (P := setP keep ls) (fun e => decide (e.1.far ≠ 1) && keep (ls.map fun l => covB l e.1)) ((botE :: es).map toT) (toT topE) ?_ ?_ ?_ ?_ ?_
  · rw [e1]
    exact ⟨_, _, rfl, hseg⟩
  · have : ((botE :: es).map toT) ++ [toT topE] = E.map toT := by rw [hE]; simp
    rw [this, List.pairwise_map]
    exact h.asc.imp_of_mem fun ha hb hab => (toT_lt (hok _ ha) (hok _ hb)).2 hab
  · intro a ha
    unfold setP
    simp
  · intro x hx hp
    exact hp.1 (ltE_top hx)
  · have : (toT topE).1.far = 1 := by rw [toT_val (En.sm.ok (.inr (.inr rfl)))]; rfl
    simp [this]
  · intro a x ha hax hnx
    have hxt : ltE x (toT topE) := by
      refine hnx _ (by simp) ?_
      obtain ⟨e, he, rfl⟩ := List.mem_map.1 ha
      have hasc := h.asc
      rw [hE] at hasc
      have := (List.pairwise_append.1 hasc).2.2 e he topE (by simp)
      exact (toT_lt (hok e (by rw [hE]; exact List.mem_append_left _ he)) (En.sm.ok (.inr (.inr rfl)))).2 this
    have h1 := ltE_ntop hxt
    have h2 := ltE_ntop hax
    have hcov : ls.map (fun l => covB l x.1) = ls.map (fun l => covB l a.1) := by
      refine List.map_congr_left fun l hl => ?_
      unfold covB
      refine Bool.eq_iff_iff.2 ?_
      simp only [List.any_eq_true]
      have hsame : ∀ e ∈ E, lessE x.1 e = lessE a.1 e := by
        intro e he
        have hv := toT_val (hok e he)
        rw [Bool.eq_iff_iff]
        have r1 : lessE x.1 e = true ↔ ltE x (toT e) := by unfold ltE; rw [hv]
        have r2 : lessE a.1 e = true ↔ ltE a (toT e) := by unfold ltE; rw [hv]
        rw [r1, r2]
        exact ⟨fun hx => stoE.trans _ _ _ hax hx, fun hx => hnx _ (hmem e he) hx⟩
      have hi : ∀ y ∈ l, insB y x.1 = insB y a.1 := by
        intro y hy
        obtain ⟨m1, m2⟩ := h.all l hl y hy
        unfold insB
        rw [hsame _ m1, hsame _ m2]
      constructor
      · rintro ⟨y, hy, hyy⟩; exact ⟨y, hy, by rw [← hi y hy]; exact hyy⟩
      · rintro ⟨y, hy, hyy⟩; exact ⟨y, hy, by rw [hi y hy]; exact hyy⟩
    unfold setP
    rw [hcov]
    simp [h1, h2]
theorem pairs_T {zs : List (En × Bool)} (hz : ∀ z ∈ zs, z.1.ok) : pairs (runZ none zs) = (runZ none (zs.map fun z => (toT z.1, z.2))).map fun i => betw i.1.1 i.2.1 := by
  have := runZ_map toT zs none
  rw [Option.map_none] at this
  rw [this, List.map_map]
  unfold pairs
  refine List.map_congr_left fun i hi => ?_
  obtain ⟨h1, z2, hz2, e2⟩ := runZ_mem zs none i hi
  rcases h1 with ⟨z1, hz1, e1⟩ | h1
  · have k1 := hz z1 hz1
    have k2 := hz z2 hz2
    rw [e1] at k1
    rw [e2] at k2
    simp only [Function.comp, toT_val k1, toT_val k2]
  · cases h1
theorem marks_ok {keep : List Bool → Bool} {ls : List (List Itv)} {E : List En} (h : ∀ e ∈ E, e.sm) : ∀ z ∈ marks keep ls E, z.1.ok := by
  intro z hz
  obtain ⟨e, he, rfl⟩ := List.mem_map.1 hz
  exact (h e he).ok
theorem Ends.uniq {keep : List Bool → Bool} {ls : List (List Itv)} {E F : List En} (h : Ends ls E) (k : Ends ls F) : pairs (runZ none (marks keep ls E)) = pairs (runZ none (marks keep ls F)) := by
  rw [pairs_T (marks_ok h.sm), pairs_T (marks_ok k.sm)]
  obtain ⟨b, r, e1, s1⟩ := h.seg (keep := keep)
  obtain ⟨c, s, e2, s2⟩ := k.seg (keep := keep)
  rw [e1, e2, runZ_uniq stoE (fun x => ltE_bot) s1 s2]
end Go.Proofs.YtabajghokhfmhaaGreat
namespace Go.Proofs.YtabajghokhfmhaaGreat
open Go.RowKit
section
variable {P : Program} {ops : Array Oper} {Q : Exit → Act → World → Prop} {md : Region.Mode} {S : World → Prop}
def Gives (P : Program) (ops : Array Oper) (S : World → Prop) (o : Oper) (v : Value) (a : Act) : Prop :=
  (Region.wanted o (yielded ops a.tmps) = true ∧ ∀ w, S w →
    (∃ w', (execOp a.eval o).run P w = .ok (.value v) w' ∧ S w') ∨
    (∃ f args w1, (execOp a.eval o).run P w = .ok (.enter f args) w1 ∧ Calls P f args w1 (fun e w' => e = .returned v ∧ S w')) ∨
    (∃ w', (execOp a.eval o).run P w = .ok .skip w' ∧ v = undef ∧ S w') ∨
    (∃ row args w1, (execOp a.eval o).run P w = .ok (.row row args) w1 ∧ Rows P row args w1 (fun u w' => u = v ∧ S w'))) ∨
  (Region.wanted o (yielded ops a.tmps) = false ∧ v = undef)
theorem Gives.of_same {o : Oper} {v : Value} {a a' : Act} (hy : Gives P ops S o v a) (he : execOp a'.eval o = execOp a.eval o)
    (hw : Region.wanted o (yielded ops a'.tmps) = Region.wanted o (yielded ops a.tmps)) : Gives P ops S o v a' := by
  unfold Gives at *; rw [he, hw]; exact hy
theorem Gives.wpOp {i : Nat} {o : Oper} {v : Value} {a : Act} (hi : ops[i]? = some o) (hy : Gives P ops S o v a)
    {K : Act → World → Prop} {w : World} (hS : S w) (h : ∀ w', S w' → K (a.put o.dst v) w') : wpOp P ops Q i K a w := by
  unfold Go.wpOp
  simp only [hi]
  rcases hy with ⟨hw, hv⟩ | ⟨hw, rfl⟩
  · simp only [hw, if_true, Oper.wp]
    refine .inl ?_
    rcases hv w hS with ⟨w', hr, hS'⟩ | ⟨f, args, w1, hr, hc⟩ | ⟨w', hr, rfl, hS'⟩ | ⟨row, args, w1, hr, hc⟩
    · rw [hr]; exact h w' hS'
    · rw [hr]
      refine Calls.mono hc ?_
      rintro e w' ⟨rfl, hS'⟩
      exact h w' hS'
    · rw [hr]; exact h w' hS'
    · rw [hr]
      refine Rows.mono hc ?_
      rintro u w' ⟨rfl, hS'⟩
      exact h w' hS'
  · simp only [hw, Bool.false_eq_true, if_false]; exact h w hS
def anyF (P : Program) (md : Region.Mode) (ops : Array Oper) (S : World → Prop) (K : Act → Prop) : Nat → Array Bool → Act → Prop
  | 0, listed, a => Region.ready md ops listed = [] ∧ K a
  | fuel + 1, listed, a => (Region.ready md ops listed = [] → K a) ∧
    ∀ i ∈ Region.ready md ops listed, ∃ o v, ops[i]? = some o ∧ Gives P ops S o v a ∧ anyF P md ops S K fuel (listed.setIfInBounds i true) (a.put o.dst v)
theorem anyF_wpAny {K : Act → Prop} (hK : ∀ a w, K a → S w → Q .normal a w) : ∀ (fuel : Nat) (listed : Array Bool) (a : Act) (w : World), anyF P md ops S K fuel listed a → S w → wpAny P md ops Q fuel listed a w
  | 0, _, _, _, h, hS => ⟨h.1, hK _ _ h.2 hS⟩
  | fuel + 1, _, _, _, h, hS => ⟨fun h0 => hK _ _ (h.1 h0) hS, fun i hi => by
      obtain ⟨o, v, ho, hg, hr⟩ := h.2 i hi
      exact hg.wpOp ho hS fun w' hS' => anyF_wpAny hK fuel _ _ _ hr hS'⟩
theorem anyF_first {K : Act → Prop} {i : Nat} {oi : Oper} {v : Value} (hi : ops[i]? = some oi) (hsel : ∀ (j : Nat) (o : Oper) cs b, ops[j]? = some o → o.op ≠ .select cs b) :
    ∀ (fuel : Nat) (listed : Array Bool) (a : Act),
      (∀ j oj, ops[j]? = some oj → j ≠ i → listed.getD j true = false → (∀ e ∈ oj.after, Region.binds md e = true → e.on ≠ i) → oi.apart ops oj = true) →
      i ∈ Region.ready md ops listed → Gives P ops S oi v a →
      anyF P md ops S K fuel (listed.setIfInBounds i true) (a.put oi.dst v) → anyF P md ops S K (fuel + 1) listed a := by
  intro fuel
  induction fuel with
  | zero =>
    intro listed a _ hr hy H
    refine ⟨fun h => (by rw [h] at hr; cases hr), fun j hj => ?_⟩
    by_cases hji : j = i
    · subst hji; exact ⟨oi, v, hi, hy, H⟩
    · have := ready_mono hj hji
      rw [H.1] at this
      cases this
  | succ fuel ih =>
    intro listed a hfree hr hy H
    refine ⟨fun h => (by rw [h] at hr; cases hr), fun j hj => ?_⟩
    by_cases hji : j = i
    · subst hji; exact ⟨oi, v, hi, hy, H⟩
    · obtain ⟨oj', vj, hoj', hgj, hrest⟩ := H.2 j (ready_mono hj hji)
      obtain ⟨hjun, oj, hoj, hall⟩ := mem_ready.1 hj
      obtain rfl : oj' = oj := by rw [hoj] at hoj'; exact (Option.some.inj hoj').symm
      have hnot : ∀ e ∈ oj'.after, Region.binds md e = true → e.on ≠ i := fun e he hb heq => by
        have h1 := hall e he hb
        have h0 := (mem_ready.1 hr).1
        rw [heq] at h1
        rcases Nat.lt_or_ge i listed.size with h' | h'
        · simp [h'] at h0 h1; rw [h0] at h1; cases h1
        · simp [Array.getElem?_eq_none h'] at h1
      obtain ⟨h1, h2, h3⟩ := Oper.apart_spec (hfree j oj' hoj hji hjun hnot)
      have hsi := fun cs b => hsel i oi cs b hi
      have hsj := fun cs b => hsel j oj' cs b hoj
      have hgj' : Gives P ops S oj' vj a := hgj.of_same (execOp_put oj' hsj a oi.dst v h1).symm (wanted_put oj' a oi.dst v h1).symm
      have hyi' : Gives P ops S oi v (a.put oj'.dst vj) := hy.of_same (execOp_put oi hsi a oj'.dst vj h3) (wanted_put oi a oj'.dst vj h3)
      have hfree' : ∀ k ok, ops[k]? = some ok → k ≠ i → (listed.setIfInBounds j true).getD k true = false →
          (∀ e ∈ ok.after, Region.binds md e = true → e.on ≠ i) → oi.apart ops ok = true := fun k ok hk hki hun hno => by
        refine hfree k ok hk hki ?_ hno
        by_cases hjk : j = k
        · subst hjk; exact hjun
        · rw [getD_set_ne true hjk] at hun; exact hun
      refine ⟨oj', vj, hoj, hgj', ih (listed.setIfInBounds j true) _ hfree' (ready_mono hr (Ne.symm hji)) hyi' ?_⟩
      rw [Array.setIfInBounds_comm _ _ hji, ← Act.put_comm a v vj h2]
      exact hrest
def walkF (P : Program) (ops : Array Oper) (S : World → Prop) (K : Act → Prop) : List Oper → Act → Prop
  | [], a => K a
  | o :: rest, a => ∃ v, Gives P ops S o v a ∧ walkF P ops S K rest (a.put o.dst v)
def calmAt (md : Region.Mode) (ops : Array Oper) (i : Nat) : Bool :=
  match ops[i]? with
  | none => false
  | some oi => oi.after.all (fun e => !Region.binds md e || decide (e.on < i)) &&
    (List.range ops.size).all fun j => decide (j ≤ i) || match ops[j]? with
      | some oj => oj.after.any (fun e => Region.binds md e && e.on == i) || oi.apart ops oj
      | none => true
def calm (md : Region.Mode) (ops : Array Oper) : Bool := Region.noSelect ops && (List.range ops.size).all (calmAt md ops)
theorem anyF_of_walk {K : Act → Prop} (hc : calm md ops = true) : ∀ (n i : Nat) (listed : Array Bool) (a : Act), n + i = ops.size → listed.size = ops.size →
    (∀ j, j < ops.size → listed[j]? = some (decide (j < i))) → walkF P ops S K (ops.toList.drop i) a → anyF P md ops S K n listed a := by
  simp only [calm, Bool.and_eq_true, List.all_eq_true, List.mem_range] at hc
  obtain ⟨hsel, hcalm⟩ := hc
  intro n
  induction n with
  | zero =>
    intro i listed a hn hls hl hw
    rw [List.drop_of_length_le (by simp; omega)] at hw
    refine ⟨?_, hw⟩
    unfold Region.ready
    rw [List.filter_eq_nil_iff]
    intro j hj
    have hj' := List.mem_range.1 hj
    have := hl j hj'
    simp [Array.getD_eq_getD_getElem?, this]; omega
  | succ n ih =>
    intro i listed a hn hls hl hw
    have hi : i < ops.size := by omega
    rw [List.drop_eq_getElem_cons (by simpa using hi)] at hw
    obtain ⟨v, hg, hw⟩ := hw
    have hoi : ops[i]? = some ops[i] := by simp [hi]
    have hci := hcalm i hi
    simp only [calmAt, hoi, Bool.and_eq_true, List.all_eq_true, List.mem_range] at hci
    obtain ⟨hc1, hc2⟩ := hci
    have hg' : Gives P ops S ops[i] v a := by simpa using hg
    refine anyF_first hoi (Region.noSelect_spec hsel) n listed a ?_ ?_ hg' (ih (i + 1) _ _ (by omega) (by simpa using hls) ?_ (by simpa using hw))
    · intro j oj hj hji hun hno
      have hjs : j < ops.size := (Array.getElem?_eq_some_iff.1 hj).1
      have h1 := hl j hjs
      have hlt : ¬ j < i := by
        intro h; simp [Array.getD_eq_getD_getElem?, h1, h] at hun
      have h2 := hc2 j hjs
      simp only [hj, Bool.or_eq_true, decide_eq_true_eq] at h2
      rcases h2 with h2 | h2 | h2
      · omega
      · obtain ⟨e, he, hb⟩ := Array.any_eq_true'.1 h2
        simp only [Bool.and_eq_true, beq_iff_eq] at hb
        exact absurd hb.2 (hno e he hb.1)
      · exact h2
    · rw [mem_ready]
      refine ⟨by simp [Array.getD_eq_getD_getElem?, hl i hi], _, hoi, fun e he hb => ?_⟩
      have := Array.all_eq_true_iff_forall_mem.1 hc1 e he
      simp only [hb, Bool.not_true, Bool.false_or, decide_eq_true_eq] at this
      simp [Array.getD_eq_getD_getElem?, hl e.on (by omega), this]
    · intro j hj
      by_cases hji : i = j
      · subst hji; simp [hls, hi]
      · rw [Array.getElem?_setIfInBounds_ne hji, hl j hj]
        congr 1
        simp only [decide_eq_decide]; omega
theorem wp_region_calm {id : Nat} {a : Act} {w : World} (hm : P.follows .mixedOrders = true) (hc : calm .any ops = true) (hS : S w.drew)
    (h : walkF P ops S (fun a => ∀ w, S w → Q .normal a w) ops.toList a) : (Code.region id ops true).wp P Q a w :=
  wp_region_any hm (anyF_wpAny (K := fun a => ∀ w, S w → Q .normal a w) (fun a w hK hS => hK w hS) _ _ _ _ (anyF_of_walk hc ops.size 0 _ a (by omega) (by simp) (by intro j hj; simp [hj]) (by simpa using h)) hS)
theorem put_inj {A : Act} {d : Tmp} {u v : Value} (hd : d < A.tmps.size) (h : A.put (some d) u = A.put (some d) v) : u = v := by
  have h1 := congrArg (fun x : Act => x.tmps[d]?) h
  simpa [Act.put, hd] using h1
def agrees (A a : Act) : List Operand → Prop
  | [] => True
  | x :: xs => A.eval x = a.eval x ∧ agrees A a xs
theorem agrees_all {A a : Act} (h : ∀ x, A.eval x = a.eval x) : ∀ l, agrees A a l
  | [] => trivial
  | x :: xs => ⟨h x, agrees_all h xs⟩
theorem walkF_nil {K : Act → Prop} {a : Act} (h : K a) : walkF P ops S K [] a := h
theorem walkF_skip {K : Act → Prop} {o : Oper} {rest : List Oper} {a : Act} (hw : Region.wanted o (yielded ops a.tmps) = false) (h : walkF P ops S K rest (a.put o.dst undef)) : walkF P ops S K (o :: rest) a :=
  ⟨undef, .inr ⟨hw, rfl⟩, h⟩
theorem walkF_step {K : Act → Prop} {o : Oper} {rest : List Oper} {a : Act} {d : Tmp} {v : Value} (hd : o.dst = some d) (hw : Region.wanted o (yielded ops a.tmps) = true)
    (hv : ∀ w, S w → ∀ A : Act, agrees A a o.op.operands.toList → ∀ K' : Act → World → Prop, (∀ w', S w' → K' (A.put (some d) v) w') → o.wp P A w K' (fun _ _ _ => False))
    (h : walkF P ops S K rest (a.put (some d) v)) : walkF P ops S K (o :: rest) a := by
  obtain ⟨dst, op, type, pos, after, guard⟩ := o
  simp only at hd
  subst hd
  refine ⟨v, .inl ⟨hw, fun w hS => ?_⟩, h⟩
  let A : Act := ⟨a.tmps ++ Array.replicate (d + 1) undef, a.defers⟩
  have hA : ∀ x, A.eval x = a.eval x := by
    intro x
    cases x with
    | tmp t =>
      simp only [Act.eval, A, Array.getD_eq_getD_getElem?]
      by_cases ht : t < a.tmps.size
      · rw [Array.getElem?_append_left ht]
      · rw [Array.getElem?_append_right (Nat.le_of_not_lt ht), Array.getElem?_eq_none (Nat.le_of_not_lt ht)]
        rw [Array.getElem?_replicate]
        split <;> rfl
    | _ => rfl
  have hAe : A.eval = a.eval := funext hA
  have hsz : d < A.tmps.size := by
    simp only [A, Array.size_append, Array.size_replicate]
    exact Nat.lt_of_lt_of_le (Nat.lt_succ_self d) (Nat.le_add_left _ _)
  have h1 := hv w hS A (agrees_all hA _) (fun x w' => x = A.put (some d) v ∧ S w') (fun w' hS' => ⟨rfl, hS'⟩)
  unfold Oper.wp at h1
  rw [hAe] at h1
  generalize (execOp a.eval ⟨some d, op, type, pos, after, guard⟩).run P w = r at *
  cases r with
  | ok n w' =>
    cases n <;> simp only [Oper.upon] at h1
    case value u => exact .inl ⟨w', by rw [put_inj hsz h1.1], h1.2⟩
    case skip => exact .inr (.inr (.inl ⟨w', rfl, (put_inj hsz h1.1).symm, h1.2⟩))
    case defer dd =>
      have h2 := congrArg Act.defers h1.1
      have h3 := congrArg List.length h2
      simp [Act.put] at h3
    case enter f args =>
      refine .inr (.inl ⟨f, args, w', rfl, Calls.mono h1 fun e w'' he => ?_⟩)
      cases e with
      | returned u => exact ⟨by rw [put_inj hsz he.1], he.2⟩
      | panicked c => exact he.elim
      | outgrown => obtain ⟨_, _, hf⟩ := he; exact hf.elim
    case row row args => exact .inr (.inr (.inr ⟨row, args, w', rfl, Rows.mono h1 fun u w'' he => ⟨put_inj hsz he.1, he.2⟩⟩))
  | halt x w' => cases x <;> simp only [Oper.upon] at h1
end
end Go.Proofs.YtabajghokhfmhaaGreat
namespace Go.Proofs.YtabajghokhfmhaaGreat
open Go.RowKit
abbrev Prop1 := Value → World → Prop
abbrev Env := List (Tmp × Prop1)
def Stable (W : World) (R : Prop1) : Prop := ∀ v w w', Ext W w → R v w → Ext w w' → R v w'
def knows (A a : Act) (w : World) (E : Env) : List Operand → Prop
  | [] => True
  | x :: xs => (match x with
      | .tmp t => (match E.lookup t with
        | some R => R (A.eval x) w
        | none => A.eval x = a.eval x)
      | _ => A.eval x = a.eval x) ∧ knows A a w E xs
def Fr (w : World) (v : Value) (w' : World) : Prop := ∀ g, v = .pointer (some ⟨g, 0, none⟩) → w.heap.size ≤ g ∧ g < w'.heap.size
def Dist (D : List Tmp) (A : Act) : Prop := ∀ d ∈ D, ∀ d' ∈ D, d ≠ d' → ∀ g g', A.tmps.getD d undef = .pointer (some ⟨g, 0, none⟩) → A.tmps.getD d' undef = .pointer (some ⟨g', 0, none⟩) → g ≠ g'
def RunsI (P : Program) (D : List Tmp) (W : World) (a : Act) (E : Env) (o : Oper) (R : Prop1) : Prop :=
  ∀ A w, Ext W w → knows A a w E o.op.operands.toList → ∀ K : Act → World → Prop, (∀ v w', Ext w w' → R v w' → (∀ d ∈ D, o.dst = some d → Fr w v w') → K (A.put o.dst v) w') → o.wp P A w K (fun _ _ _ => False)
def doesI (P : Program) (ops : Array Oper) (D : List Tmp) (W : World) (a : Act) (E : Env) (o : Oper) (R : Prop1) : Prop :=
  (o.guard = none ∧ RunsI P D W a E o R) ∨
  ∃ g b tg Rg, o.guard = some (g, b) ∧ (ops[g]?).bind (·.dst) = some tg ∧ E.lookup tg = some Rg ∧
    ((∀ v w, Rg v w → v = .bool b) ∧ RunsI P D W a E o R ∨ (∀ v w, Rg v w → v ≠ .bool b) ∧ ∀ w, R undef w)
def fins (K : Act → World → Prop) (w : World) : Env → Act → Prop
  | [], a => K a w
  | (d, R) :: rest, a => ∀ v, R v w → fins K w rest (a.put (some d) v)
def walkI (P : Program) (ops : Array Oper) (D : List Tmp) (W : World) (a : Act) (K : Act → World → Prop) : List Oper → Env → Prop
  | [], E => ∀ w, Ext W w → fins K w E a
  | o :: rest, E => ∃ d R, o.dst = some d ∧ d < a.tmps.size ∧ Stable W R ∧ doesI P ops D W a E o R ∧ walkI P ops D W a K rest (E ++ [(d, R)])
def afters (ops : Array Oper) (i : Nat) : List Nat := match ops[i]? with
  | some o => (o.after.toList.filter (Region.binds .any)).map (·.on)
  | none => []
def need (ops : Array Oper) : Nat → Nat → Nat → Bool
  | 0, _, _ => false
  | f + 1, i, j => (afters ops i).any fun k => k == j || need ops f k j
def okPre (ops : Array Oper) (m i : Nat) : Bool := match ops[i]? with
  | some oi => (match oi.dst with
      | some d => (List.range m).all fun j => j == i || (ops[j]?).bind (·.dst) != some d
      | none => false) &&
    (oi.looksAt ops).all fun t => (List.range m).all fun j => (ops[j]?).bind (·.dst) != some t || (afters ops i).contains j
  | none => false
def okI (ops : Array Oper) (m : Nat) : Bool :=
  decide (m ≤ ops.size) && Region.noSelect ops && (List.range ops.size).all (fun i => (afters ops i).all fun j => decide (j < i)) &&
  (List.range m).all (okPre ops m) && (List.range ops.size).all (fun i => decide (i < m) || (List.range i).all fun j => need ops i i j)
section
variable {P : Program} {ops : Array Oper} {Q : Exit → Act → World → Prop}
structure StepI (P : Program) (ops : Array Oper) (D : List Tmp) (W : World) (a : Act) (E : Env) (i : Nat) (d : Tmp) (R : Prop1) : Prop where
  lt : d < a.tmps.size
  st : Stable W R
  go : ∃ o, ops[i]? = some o ∧ o.dst = some d ∧ doesI P ops D W a (E.take i) o R
theorem walkI_env {D : List Tmp} {W : World} {a : Act} {K : Act → World → Prop} : ∀ (l : List Oper) (E0 : Env), (∀ j o, l[j]? = some o → ops[E0.length + j]? = some o) → walkI P ops D W a K l E0 →
    ∃ E : Env, E.length = l.length ∧ (∀ i d R, E[i]? = some (d, R) → StepI P ops D W a (E0 ++ E) (E0.length + i) d R) ∧ ∀ w, Ext W w → fins K w (E0 ++ E) a := by
  intro l
  induction l with
  | nil => intro E0 _ h; exact ⟨[], rfl, by simp, by simpa [walkI] using h⟩
  | cons o rest ih =>
    intro E0 hl h
    obtain ⟨d, R, h1, h2, h3, h4, h5⟩ := h
    obtain ⟨E, e1, e2, e3⟩ := ih (E0 ++ [(d, R)]) (fun j o' hj => by
      have := hl (j + 1) o' (by simpa using hj)
      rw [← this]; congr 1; simp; omega) h5
    refine ⟨(d, R) :: E, by simp [e1], fun i d' R' hi => ?_, by simpa using e3⟩
    cases i with
    | zero =>
      simp only [List.getElem?_cons_zero, Option.some.injEq, Prod.mk.injEq] at hi
      obtain ⟨rfl, rfl⟩ := hi
      refine ⟨h2, h3, o, hl 0 o rfl, h1, ?_⟩
      have : (E0 ++ (d, R) :: E).take (E0.length + 0) = E0 := by simp
      rw [this]; exact h4
    | succ i =>
      have := e2 i d' R' (by simpa using hi)
      rw [List.append_assoc, List.singleton_append] at this
      have e : (E0 ++ [(d, R)]).length + i = E0.length + (i + 1) := by simp; omega
      rwa [e] at this
structure InvI (ops : Array Oper) (D : List Tmp) (m : Nat) (E : Env) (W : World) (a : Act) (listed : Array Bool) (A : Act) (w : World) : Prop where
  size : listed.size = ops.size
  clo : ∀ i, listed.getD i false = true → ∀ j ∈ afters ops i, listed.getD j false = true
  post : ∀ i, m ≤ i → listed.getD i false = false
  ext : Ext W w
  defs : A.defers = a.defers
  tsz : A.tmps.size = a.tmps.size
  same : ∀ t, (∀ i, i < m → listed.getD i false = true → (ops[i]?).bind (·.dst) ≠ some t) → A.tmps[t]? = a.tmps[t]?
  has : ∀ i d R, listed.getD i false = true → E[i]? = some (d, R) → R (A.tmps.getD d undef) w
  dlt : ∀ i d, i < m → listed.getD i false = true → (ops[i]?).bind (·.dst) = some d → d ∈ D → ∀ g, A.tmps.getD d undef = .pointer (some ⟨g, 0, none⟩) → g < w.heap.size
  dne : ∀ i j d d', i < m → j < m → i ≠ j → listed.getD i false = true → listed.getD j false = true → (ops[i]?).bind (·.dst) = some d → (ops[j]?).bind (·.dst) = some d' → d ∈ D → d' ∈ D →
    ∀ g g', A.tmps.getD d undef = .pointer (some ⟨g, 0, none⟩) → A.tmps.getD d' undef = .pointer (some ⟨g', 0, none⟩) → g ≠ g'
theorem need_listed {listed : Array Bool} (hc : ∀ i, listed.getD i false = true → ∀ j ∈ afters ops i, listed.getD j false = true) : ∀ (f i j : Nat), need ops f i j = true → (∀ k ∈ afters ops i, listed.getD k false = true) → listed.getD j false = true := by
  intro f
  induction f with
  | zero => intro i j h; simp [need] at h
  | succ f ih =>
    intro i j h hi
    simp only [need, List.any_eq_true, Bool.or_eq_true, beq_iff_eq] at h
    obtain ⟨k, hk, rfl | h⟩ := h
    · exact hi _ hk
    · exact ih k j h (hc k (hi k hk))
theorem mem_afters {i j : Nat} : j ∈ afters ops i ↔ ∃ o, ops[i]? = some o ∧ ∃ e ∈ o.after, Region.binds .any e = true ∧ e.on = j := by
  unfold afters
  cases h : ops[i]? with
  | none => simp
  | some o =>
    simp only [List.mem_map, List.mem_filter, Array.mem_toList_iff, Option.some.injEq]
    constructor
    · rintro ⟨e, ⟨h1, h2⟩, h3⟩; exact ⟨o, rfl, e, h1, h2, h3⟩
    · rintro ⟨_, rfl, e, h1, h2, h3⟩; exact ⟨e, ⟨h1, h2⟩, h3⟩
theorem ready_afters {i : Nat} {listed : Array Bool} : i ∈ Region.ready .any ops listed ↔ listed.getD i true = false ∧ (∃ o, ops[i]? = some o) ∧ ∀ j ∈ afters ops i, listed.getD j false = true := by
  rw [mem_ready]
  constructor
  · rintro ⟨h1, o, h2, h3⟩
    refine ⟨h1, ⟨o, h2⟩, fun j hj => ?_⟩
    obtain ⟨o', h4, e, h5, h6, rfl⟩ := mem_afters.1 hj
    rw [h2] at h4; cases h4
    exact h3 e h5 h6
  · rintro ⟨h1, ⟨o, h2⟩, h3⟩
    exact ⟨h1, o, h2, fun e he hb => h3 _ (mem_afters.2 ⟨o, h2, e, he, hb, rfl⟩)⟩
theorem getD_tf {listed : Array Bool} {i : Nat} (h : i < listed.size) : listed.getD i true = listed.getD i false := by
  simp [Array.getD_eq_getD_getElem?, h]
theorem env_get {E : Env} {i : Nat} (h : i < E.length) : ∃ d R, E[i]? = some (d, R) := ⟨E[i].1, E[i].2, by rw [List.getElem?_eq_getElem h]⟩
theorem lookup_getD {E : Env} {t : Tmp} {R : Prop1} (h : E.lookup t = some R) : ∃ i : Nat, E[i]? = some (t, R) := by
  induction E with
  | nil => simp at h
  | cons x xs ih =>
    obtain ⟨d, S⟩ := x
    rw [List.lookup_cons] at h
    cases hb : t == d with
    | true =>
      simp only [hb] at h
      cases h
      exact ⟨0, by simp [eq_of_beq hb]⟩
    | false =>
      simp only [hb] at h
      obtain ⟨i, hi⟩ := ih h
      exact ⟨i + 1, by simpa using hi⟩
theorem lookup_none {E : Env} {t : Tmp} (h : E.lookup t = none) : ∀ (i : Nat) (d : Tmp) (R : Prop1), E[i]? = some (d, R) → d ≠ t := by
  induction E with
  | nil => simp
  | cons x xs ih =>
    obtain ⟨d, S⟩ := x
    rw [List.lookup_cons] at h
    cases hb : t == d with
    | true => simp [hb] at h
    | false =>
      simp only [hb] at h
      intro i d' R hi
      cases i with
      | zero => simp at hi; obtain ⟨rfl, -⟩ := hi; intro e; subst e; simp at hb
      | succ i => exact ih h i d' R (by simpa using hi)
theorem wp_weaken {o : Oper} {A : Act} {w : World} {K : Act → World → Prop} (h : o.wp P A w K (fun _ _ _ => False)) : o.wp P A w K Q := by
  unfold Oper.wp at *
  generalize (execOp A.eval o).run P w = r at *
  cases r with
  | ok n w' =>
    cases n <;> simp only [Oper.upon] at h ⊢
    case enter f args =>
      refine Calls.mono h fun e w'' he => ?_
      cases e with
      | returned u => exact he
      | panicked c => exact he.elim
      | outgrown => obtain ⟨_, _, hf⟩ := he; exact hf.elim
    all_goals exact h
  | halt x w' => cases x <;> simp only [Oper.upon] at h
theorem wpAny_tail {m : Nat} (hlt : ∀ i j, j ∈ afters ops i → j < i) (hpost : ∀ i, m ≤ i → i < ops.size → ∀ j, j < i → need ops i i j = true) : ∀ (n i : Nat) (listed : Array Bool) (A : Act) (w : World), n + i = ops.size → m ≤ i → listed.size = ops.size →
    (∀ j, j < ops.size → listed.getD j false = decide (j < i)) → wpList P ops Q (ops.toList.drop i) A w → wpAny P .any ops Q n listed A w := by
  intro n
  induction n with
  | zero =>
    intro i listed A w hn hm hs hl h
    have hr : Region.ready .any ops listed = [] := by
      rw [List.eq_nil_iff_forall_not_mem]
      intro j hj
      obtain ⟨h1, ⟨o, h2⟩, -⟩ := ready_afters.1 hj
      have hj' : j < ops.size := (Array.getElem?_eq_some_iff.1 h2).1
      rw [getD_tf (by omega), hl j hj'] at h1
      simp at h1; omega
    rw [List.drop_of_length_le (by simp; omega)] at h
    exact ⟨hr, h⟩
  | succ n ih =>
    intro i listed A w hn hm hs hl h
    have hi : i < ops.size := by omega
    have hready : ∀ j, j ∈ Region.ready .any ops listed → j = i := by
      intro j hj
      obtain ⟨h1, ⟨o, h2⟩, h3⟩ := ready_afters.1 hj
      have hj' : j < ops.size := (Array.getElem?_eq_some_iff.1 h2).1
      rw [getD_tf (by omega), hl j hj'] at h1
      simp at h1
      rcases Nat.lt_or_ge i j with h4 | h4
      · have hcl : ∀ i', listed.getD i' false = true → ∀ j ∈ afters ops i', listed.getD j false = true := by
          intro i' hi' k hk
          have hk' := hlt i' k hk
          by_cases hb : i' < ops.size
          · rw [hl i' hb] at hi'
            rw [hl k (by omega)]
            simp at hi' ⊢; omega
          · simp [Array.getD_eq_getD_getElem?, Array.getElem?_eq_none (show listed.size ≤ i' by omega)] at hi'
        have := need_listed hcl j j i (hpost j (by omega) hj' i h4) h3
        rw [hl i hi] at this
        simp at this
      · omega
    have hii : i ∈ Region.ready .any ops listed := by
      rw [ready_afters]
      refine ⟨by rw [getD_tf (by omega), hl i hi]; simp, ⟨ops[i], by simp [hi]⟩, fun j hj => ?_⟩
      have := hlt i j hj
      rw [hl j (by omega)]; simp; exact this
    refine ⟨fun h0 => absurd hii (by rw [h0]; exact List.not_mem_nil), fun j hj => ?_⟩
    obtain rfl := hready j hj
    rw [List.drop_eq_getElem_cons (by simpa using hi)] at h
    have key : ∀ (A' : Act) (w' : World), wpList P ops Q (ops.toList.drop (j + 1)) A' w' → wpAny P .any ops Q n (listed.setIfInBounds j true) A' w' := by
      intro A' w' h'
      refine ih (j + 1) _ A' w' (by omega) (by omega) (by simpa using hs) (fun k hk => ?_) h'
      by_cases hkj : j = k
      · subst hkj; simp [Array.getD_eq_getD_getElem?, hs, hi]
      · rw [getD_set_ne _ hkj, hl k hk]
        simp only [decide_eq_decide]; omega
    unfold wpList at h
    unfold wpOp
    simp only [hi, getElem?_pos]
    simp only [Array.getElem_toList] at h
    split
    · rename_i hw
      rw [if_pos hw] at h
      exact h.imp (Oper.wp_mono key) id
    · rename_i hw
      rw [if_neg hw] at h
      exact key _ _ h
theorem fins_done {K : Act → World → Prop} {w : World} : ∀ (E : Env) (a A : Act), A.defers = a.defers → A.tmps.size = a.tmps.size → (∀ (i : Nat) (d : Tmp) (R : Prop1), E[i]? = some (d, R) → d < a.tmps.size ∧ R (A.tmps.getD d undef) w) → (∀ t, (∀ (i : Nat) (d : Tmp) (R : Prop1), E[i]? = some (d, R) → d ≠ t) → A.tmps[t]? = a.tmps[t]?) → fins K w E a → K A w := by
  intro E
  induction E with
  | nil =>
    intro a A hd hs _ ht h
    have : A = a := by
      cases A; cases a
      simp only at hd hs ht
      subst hd
      congr 1
      refine Array.ext_getElem? fun i => ht i (by simp)
    subst this; exact h
  | cons x xs ih =>
    obtain ⟨d, R⟩ := x
    intro a A hd hs hh ht h
    obtain ⟨h1, h2⟩ := hh 0 d R rfl
    refine ih (a.put (some d) (A.tmps.getD d undef)) A hd (by simpa [Act.put] using hs) (fun i d' R' hi => ?_) (fun t hx => ?_) (h _ h2)
    · have := hh (i + 1) d' R' (by simpa using hi)
      exact ⟨by simpa [Act.put] using this.1, this.2⟩
    · by_cases hdt : d = t
      · subst hdt
        simp only [Act.put]
        rw [Array.getElem?_setIfInBounds_self_of_lt h1]
        have : d < A.tmps.size := by rw [hs]; exact h1
        simp [Array.getD_eq_getD_getElem?, this]
      · rw [ht t fun i d' R' hi => ?_]
        · simp only [Act.put]; rw [Array.getElem?_setIfInBounds_ne hdt]
        · cases i with
          | zero => simp at hi; obtain ⟨rfl, -⟩ := hi; exact hdt
          | succ i => exact hx i d' R' (by simpa using hi)
theorem wpAny_region_D (m : Nat) (D : List Tmp) {a : Act} {W : World} (hc : okI ops m = true) (hD : (D.all fun d => (List.range m).any fun i => (ops[i]?).bind (·.dst) == some d) = true)
    (h : walkI P ops D W a (fun A w => Dist D A → wpList P ops Q (ops.toList.drop m) A w) (ops.toList.take m) []) : wpAny P .any ops Q ops.size (Array.replicate ops.size false) a { W with drawn := W.drawn + 1 } := by
  simp only [okI, Bool.and_eq_true, decide_eq_true_eq, List.all_eq_true, List.mem_range, Bool.or_eq_true] at hc
  obtain ⟨⟨⟨⟨hm1, hsel⟩, hlt'⟩, hpre⟩, hpost'⟩ := hc
  have hlt : ∀ i j, j ∈ afters ops i → j < i := by
    intro i j hj
    by_cases hi : i < ops.size
    · exact hlt' i hi j hj
    · obtain ⟨o, ho, -⟩ := mem_afters.1 hj
      rw [Array.getElem?_eq_none (by omega)] at ho; cases ho
  have hpost : ∀ i, m ≤ i → i < ops.size → ∀ j, j < i → need ops i i j = true := by
    intro i h1 h2 j hj
    rcases hpost' i h2 with h3 | h3
    · omega
    · exact h3 j hj
  obtain ⟨E, e1, e2, e3⟩ := walkI_env (ops := ops) (ops.toList.take m) [] (fun j o hj => by
    rw [List.getElem?_take] at hj
    split at hj
    · simpa using hj
    · cases hj) h
  simp only [List.nil_append, List.length_nil, Nat.zero_add] at e2 e3
  have hEl : E.length = m := by rw [e1]; simp; omega
  have dstE : ∀ (i : Nat) (d : Tmp) (R : Prop1), E[i]? = some (d, R) → (ops[i]?).bind (·.dst) = some d ∧ i < m := by
    intro i d R hi
    obtain ⟨o, h1, h2, -⟩ := (e2 i d R hi).go
    exact ⟨by simp [h1, h2], by rw [← hEl]; exact (List.getElem?_eq_some_iff.1 hi).1⟩
  have distinct : ∀ (i j : Nat) (d : Tmp), i < m → j < m → (ops[i]?).bind (·.dst) = some d → (ops[j]?).bind (·.dst) = some d → i = j := by
    intro i j d hi hj h1 h2
    have := hpre i hi
    unfold okPre at this
    cases ho : ops[i]? with
    | none => simp [ho] at h1
    | some o =>
      simp only [ho, Option.bind_some] at h1 this
      simp only [h1, Bool.and_eq_true, List.all_eq_true, List.mem_range, Bool.or_eq_true, beq_iff_eq, bne_iff_ne] at this
      rcases this.1 j hj with h3 | h3
      · exact h3.symm
      · exact absurd h2 h3
  have distOf : ∀ (listed : Array Bool) (A : Act) (w : World), InvI ops D m E W a listed A w → (∀ i, i < m → listed.getD i false = true) → Dist D A := by
    intro listed A w hI hall d hd d' hd' hne g g' hg hg'
    simp only [List.all_eq_true, List.any_eq_true, List.mem_range, beq_iff_eq] at hD
    obtain ⟨i, hi, h1⟩ := hD d hd
    obtain ⟨j, hj, h2⟩ := hD d' hd'
    refine hI.dne i j d d' hi hj (fun e => ?_) (hall i hi) (hall j hj) h1 h2 hd hd' g g' hg hg'
    subst e
    rw [h1] at h2
    exact hne (Option.some.inj h2)
  have main : ∀ (n : Nat) (listed : Array Bool) (A : Act) (w : World), (List.range ops.size).countP (fun i => !listed.getD i false) = n → InvI ops D m E W a listed A w → wpAny P .any ops Q n listed A w := by
    intro n
    induction n with
    | zero =>
      intro listed A w hn hI
      by_cases hmn : m < ops.size
      · exfalso
        rw [List.countP_eq_zero] at hn
        have := hn m (List.mem_range.2 hmn)
        rw [hI.post m (Nat.le_refl _)] at this
        simp at this
      · have hall : ∀ i, i < ops.size → listed.getD i false = true := by
          intro i hi
          rw [List.countP_eq_zero] at hn
          have := hn i (List.mem_range.2 hi)
          simpa using this
        have hmm : m = ops.size := by omega
        have hall' : ∀ i, i < m → listed.getD i false = true := fun i hi => hall i (by omega)
        refine wpAny_tail (m := m) hlt hpost 0 ops.size listed A w (by omega) (by omega) hI.size (fun j hj => by rw [hall j hj]; simp [hj]) ?_
        have hdist : Dist D A := distOf listed A w hI hall'
        have := fins_done E a A hI.defs hI.tsz (fun i d R hi => ⟨(e2 i d R hi).lt, hI.has i d R (hall i (by have := (dstE i d R hi).2; omega)) hi⟩) (fun t ht => hI.same t fun i hi _ hdi => by
          have hiE : i < E.length := by omega
          obtain ⟨d, R, hx'⟩ := env_get hiE
          have h5 := (dstE i d R hx').1
          rw [hdi] at h5
          cases h5
          exact ht i _ R hx' rfl) (e3 w hI.ext)
        have := this hdist
        rw [hmm] at this; exact this
    | succ n ih =>
      intro listed A w hn hI
      have hsz := hI.size
      by_cases hall : ∀ i, i < m → listed.getD i false = true
      · -- all of the first part are done
        have hdone := fins_done E a A hI.defs hI.tsz (fun i d R hi => ⟨(e2 i d R hi).lt, hI.has i d R (hall i (dstE i d R hi).2) hi⟩) (fun t ht => hI.same t fun i hi _ hdi => by
          have hiE : i < E.length := by omega
          obtain ⟨d, R, hx'⟩ := env_get hiE
          have h5 := (dstE i d R hx').1
          rw [hdi] at h5
          cases h5
          exact ht i _ R hx' rfl) (e3 w hI.ext)
        have hdone := hdone (distOf listed A w hI hall)
        have hl : ∀ j, j < ops.size → listed.getD j false = decide (j < m) := by
          intro j hj
          by_cases hjm : j < m
          · rw [hall j hjm]; simp [hjm]
          · rw [hI.post j (by omega)]; simp [hjm]
        have hcount : n + 1 + m = ops.size := by
          have h1 : (List.range ops.size).countP (fun i => !listed.getD i false) = (List.range ops.size).countP (fun i => decide (m ≤ i)) := by
            refine List.countP_congr fun i hi => ?_
            rw [hl i (List.mem_range.1 hi)]
            by_cases hx : i < m <;> simp [hx] <;> omega
          have h2 : ∀ k, (List.range k).countP (fun i => decide (m ≤ i)) = k - m := by
            intro k
            induction k with
            | zero => simp
            | succ k ihk =>
              rw [List.range_succ, List.countP_append, ihk]
              by_cases hx : m ≤ k
              · simp [hx]; omega
              · simp [hx]; omega
          rw [h1, h2] at hn; omega
        exact wpAny_tail (m := m) hlt hpost (n + 1) m listed A w hcount (Nat.le_refl _) hsz hl hdone
      · refine ⟨fun h0 => ?_, fun i hi => ?_⟩
        · -- some op is ready
          exfalso
          apply hall
          intro i
          induction i using Nat.strongRecOn with
          | ind i ihi =>
            intro him
            cases hx : listed.getD i false with
            | true => rfl
            | false =>
              have : i ∈ Region.ready .any ops listed := by
                rw [ready_afters]
                refine ⟨by rw [getD_tf (by omega)]; exact hx, ⟨ops[i]'(by omega), by simp [show i < ops.size by omega]⟩, fun j hj => ?_⟩
                have := hlt i j hj
                exact ihi j this (by omega)
              rw [h0] at this; cases this
        · obtain ⟨h1, ⟨oi, h2⟩, h3⟩ := ready_afters.1 hi
          have hio : i < ops.size := (Array.getElem?_eq_some_iff.1 h2).1
          have him : i < m := by
            rcases Nat.lt_or_ge i m with h | h
            · exact h
            · exfalso
              apply hall
              intro j hj
              exact need_listed hI.clo i i j (hpost i h hio j (by omega)) h3
          rw [getD_tf (by omega)] at h1
          have hiE : i < E.length := by omega
          obtain ⟨d, R, hx'⟩ := env_get hiE
          have hst := e2 i d R hx'
          obtain ⟨o', ho', hdst, hdo⟩ := hst.go
          obtain rfl : o' = oi := by rw [h2] at ho'; exact (Option.some.inj ho').symm
          have hok := hpre i him
          simp only [okPre, h2, hdst, Bool.and_eq_true, List.all_eq_true, List.mem_range, Bool.or_eq_true, beq_iff_eq, bne_iff_ne, List.contains_iff_mem] at hok
          -- what the operands are
          have hslot : ∀ t, t ∈ o'.looksAt ops → (∀ R', (E.take i).lookup t = some R' → R' (A.tmps.getD t undef) w) ∧ ((E.take i).lookup t = none → A.tmps[t]? = a.tmps[t]?) := by
            intro t ht
            refine ⟨fun R' hR' => ?_, fun hn' => ?_⟩
            · obtain ⟨j, hj⟩ := lookup_getD hR'
              have hji : j < i := by
                have := (List.getElem?_eq_some_iff.1 hj).1
                rw [List.length_take] at this; omega
              rw [List.getElem?_take, if_pos hji] at hj
              have hdj := dstE j t R' hj
              rcases hok.2 t ht j hdj.2 with h4 | h4
              · exact absurd hdj.1 h4
              · exact hI.has j t R' (h3 j h4) hj
            · refine hI.same t fun j hj hlj hdj => ?_
              rcases hok.2 t ht j hj with h4 | h4
              · exact h4 hdj
              · have hji := hlt i j h4
                have hjE : j < E.length := by omega
                obtain ⟨d', R', hy'⟩ := env_get hjE
                have h5 := (dstE j d' R' hy').1
                rw [hdj] at h5
                cases h5
                exact lookup_none hn' j t R' (by rw [List.getElem?_take, if_pos hji]; exact hy') rfl
          have hknow : ∀ l : List Operand, (∀ x ∈ l, ∀ t, x = .tmp t → t ∈ o'.looksAt ops) → knows A a w (E.take i) l := by
            intro l
            induction l with
            | nil => intro _; trivial
            | cons x xs ihx =>
              intro hl
              refine ⟨?_, ihx fun y hy => hl y (by simp [hy])⟩
              cases x with
              | tmp t =>
                have hs := hslot t (hl _ (by simp) t rfl)
                simp only []
                cases hlk : (E.take i).lookup t with
                | some R' =>
                  simp only []
                  have := hs.1 R' hlk
                  simpa [Act.eval] using this
                | none =>
                  simp only []
                  have := hs.2 hlk
                  simp only [Act.eval, Array.getD_eq_getD_getElem?, this]
              | _ => rfl
          have hops : knows A a w (E.take i) o'.op.operands.toList := hknow _ fun x hx t ht => by
            subst ht
            exact List.mem_append_left _ (List.mem_filterMap.2 ⟨.tmp t, hx, rfl⟩)
          -- behind it
          have key : ∀ v w', Ext w w' → R v w' → (∀ e ∈ D, o'.dst = some e → Fr w v w') → wpAny P .any ops Q n (listed.setIfInBounds i true) (A.put o'.dst v) w' := by
            intro v w' hww hR hFr
            have hdA : d < A.tmps.size := by rw [hI.tsz]; exact hst.lt
            refine ih _ _ _ ?_ ?_
            · have h6 : (List.range ops.size).countP (fun k => !listed.getD k false) = (List.range ops.size).countP (fun k => !(listed.setIfInBounds i true).getD k false) + 1 := by
                have gen : ∀ (l : List Nat), l.Nodup → i ∈ l → l.countP (fun k => !listed.getD k false) = l.countP (fun k => !(listed.setIfInBounds i true).getD k false) + 1 := by
                  intro l
                  induction l with
                  | nil => intro _ h; cases h
                  | cons x xs ihl =>
                    intro hnd hmem
                    rw [List.nodup_cons] at hnd
                    rcases List.mem_cons.1 hmem with rfl | hmem
                    · have h7 : xs.countP (fun k => !listed.getD k false) = xs.countP (fun k => !(listed.setIfInBounds i true).getD k false) := by
                        refine List.countP_congr fun k hk => ?_
                        rw [getD_set_ne _ (fun e => hnd.1 (by rw [e]; exact hk))]
                      rw [List.countP_cons, List.countP_cons, h7]
                      have h8 : (listed.setIfInBounds i true).getD i false = true := by simp [Array.getD_eq_getD_getElem?, show i < listed.size by omega]
                      rw [h1, h8]; simp
                    · have hne : i ≠ x := fun e => hnd.1 (by rw [← e]; exact hmem)
                      rw [List.countP_cons, List.countP_cons, ihl hnd.2 hmem, getD_set_ne _ hne]; omega
                exact gen _ List.nodup_range (List.mem_range.2 hio)
              omega
            · refine ⟨by simpa using hI.size, fun k hk j hj => ?_, fun k hk => ?_, hI.ext.then hww, by rw [hdst]; exact hI.defs, by rw [hdst]; simpa [Act.put] using hI.tsz, fun t ht => ?_, fun k d' R' hk hE' => ?_, fun k d' hk hlk hdk hdD g hg => ?_, fun k l d1 d2 hk hl hkl hlk hll hdk hdl h1D h2D g g' hg hg' => ?_⟩
              · by_cases hki : i = k
                · subst hki
                  have := h3 j hj
                  exact getD_set_true this
                · rw [getD_set_ne _ hki] at hk
                  exact getD_set_true (hI.clo k hk j hj)
              · rw [getD_set_ne _ (by omega)]; exact hI.post k hk
              · have hdt : d ≠ t := by
                  intro e; subst e
                  exact ht i him (by simp [Array.getD_eq_getD_getElem?, show i < listed.size by omega]) (by simp [h2, hdst])
                rw [hdst]
                simp only [Act.put]
                rw [Array.getElem?_setIfInBounds_ne hdt]
                exact hI.same t fun k hk hlk => ht k hk (getD_set_true hlk)
              · by_cases hki : i = k
                · subst hki
                  rw [hx'] at hE'
                  cases hE'
                  rw [hdst]
                  simp only [Act.put]
                  have : (A.tmps.setIfInBounds d v).getD d undef = v := by simp [Array.getD_eq_getD_getElem?, hdA]
                  rw [this]; exact hR
                · rw [getD_set_ne _ hki] at hk
                  have h7 := hI.has k d' R' hk hE'
                  have hne : d ≠ d' := fun e => by
                    subst e
                    have h8 := dstE k d R' hE'
                    exact hki (distinct i k d him h8.2 (by simp [h2, hdst]) h8.1)
                  rw [hdst]
                  simp only [Act.put]
                  have : (A.tmps.setIfInBounds d v).getD d' undef = A.tmps.getD d' undef := by simp [Array.getD_eq_getD_getElem?, Array.getElem?_setIfInBounds_ne hne]
                  rw [this]
                  exact (e2 k d' R' hE').st _ _ _ hI.ext h7 hww
              · by_cases hki : i = k
                · subst hki
                  obtain rfl : d' = d := by rw [h2, Option.bind_some, hdst] at hdk; exact (Option.some.inj hdk).symm
                  rw [hdst] at hg
                  simp only [Act.put] at hg
                  have : (A.tmps.setIfInBounds d' v).getD d' undef = v := by simp [Array.getD_eq_getD_getElem?, hdA]
                  rw [this] at hg
                  exact (hFr d' hdD hdst g hg).2
                · rw [getD_set_ne _ hki] at hlk
                  have hne : d ≠ d' := fun e => by
                    subst e
                    exact hki (distinct i k d him hk (by simp [h2, hdst]) hdk)
                  rw [hdst] at hg
                  simp only [Act.put] at hg
                  have : (A.tmps.setIfInBounds d v).getD d' undef = A.tmps.getD d' undef := by simp [Array.getD_eq_getD_getElem?, Array.getElem?_setIfInBounds_ne hne]
                  rw [this] at hg
                  have := hI.dlt k d' hk hlk hdk hdD g hg
                  have := hww.size
                  omega
              · have slotO : ∀ k d', k < m → k ≠ i → (ops[k]?).bind (·.dst) = some d' → (A.put o'.dst v).tmps.getD d' undef = A.tmps.getD d' undef := by
                  intro k d' hk hki hdk
                  have hne : d ≠ d' := fun e => by
                    subst e
                    exact hki (distinct i k d him hk (by simp [h2, hdst]) hdk).symm
                  rw [hdst]
                  simp only [Act.put]
                  simp [Array.getD_eq_getD_getElem?, Array.getElem?_setIfInBounds_ne hne]
                have slotI : ∀ d', (ops[i]?).bind (·.dst) = some d' → (A.put o'.dst v).tmps.getD d' undef = v ∧ o'.dst = some d' := by
                  intro d' hdk
                  obtain rfl : d' = d := by rw [h2, Option.bind_some, hdst] at hdk; exact (Option.some.inj hdk).symm
                  refine ⟨?_, hdst⟩
                  rw [hdst]
                  simp only [Act.put]
                  simp [Array.getD_eq_getD_getElem?, hdA]
                by_cases hki : i = k
                · subst hki
                  have a1 := slotI d1 hdk
                  rw [a1.1] at hg
                  rw [slotO l d2 hl (Ne.symm hkl) hdl] at hg'
                  rw [getD_set_ne _ hkl] at hll
                  have b1 := hFr d1 h1D a1.2 g hg
                  have b2 := hI.dlt l d2 hl hll hdl h2D g' hg'
                  omega
                · rw [getD_set_ne _ hki] at hlk
                  rw [slotO k d1 hk (Ne.symm hki) hdk] at hg
                  by_cases hli : i = l
                  · subst hli
                    have a1 := slotI d2 hdl
                    rw [a1.1] at hg'
                    have b1 := hFr d2 h2D a1.2 g' hg'
                    have b2 := hI.dlt k d1 hk hlk hdk h1D g hg
                    omega
                  · rw [getD_set_ne _ hli] at hll
                    rw [slotO l d2 hl (Ne.symm hli) hdl] at hg'
                    exact hI.dne k l d1 d2 hk hl hkl hlk hll hdk hdl h1D h2D g g' hg hg'
          unfold wpOp
          simp only [h2]
          have runs : RunsI P D W a (E.take i) o' R → o'.wp P A w (wpAny P .any ops Q n (listed.setIfInBounds i true)) Q := fun hr => wp_weaken (hr A w hI.ext hops _ key)
          rcases hdo with ⟨hg, hr⟩ | ⟨g, b, tg, Rg, hg, htg, hlk, hcase⟩
          · rw [if_pos (by simp [Region.wanted, hg])]
            exact .inl (runs hr)
          · have hsg := (hslot tg (List.mem_append_right _ (by simp [hg, htg]))).1 Rg hlk
            obtain ⟨jg, hjg⟩ := lookup_getD hlk
            have hjg' : E[jg]? = some (tg, Rg) := by
              rw [List.getElem?_take] at hjg
              split at hjg
              · exact hjg
              · cases hjg
            have htsz : tg < A.tmps.size := by rw [hI.tsz]; exact (e2 jg tg Rg hjg').lt
            have hyl : ∀ c, A.tmps.getD tg undef = .bool c → yielded ops A.tmps g = some c := by
              intro c hcv
              have : A.tmps[tg]? = some (.bool c) := by
                rw [← hcv]; simp [Array.getD_eq_getD_getElem?, htsz]
              simp [yielded, htg, this]
            rcases hcase with ⟨h4, hr⟩ | ⟨h4, h5⟩
            · rw [if_pos (by simp [Region.wanted, hg, hyl b (h4 _ _ hsg)])]
              exact .inl (runs hr)
            · rw [if_neg (by
                simp only [Region.wanted, hg, beq_iff_eq]
                intro hy
                refine h4 _ _ hsg ?_
                unfold yielded at hy
                simp only [htg, Option.bind_some] at hy
                split at hy
                · rename_i c hc
                  cases hy
                  simp [Array.getD_eq_getD_getElem?, hc]
                · cases hy)]
              exact key undef w (Ext.rfl' w) (h5 w) (fun _ _ _ g hg => by cases hg)
  have h0 : (List.range ops.size).countP (fun i => !(Array.replicate ops.size false).getD i false) = ops.size := by
    have : (List.range ops.size).countP (fun i => !(Array.replicate ops.size false).getD i false) = (List.range ops.size).length := by
      rw [List.countP_eq_length]
      intro i hi
      have := List.mem_range.1 hi
      simp [Array.getD_eq_getD_getElem?, this]
    rw [this, List.length_range]
  have hf : ∀ i, (Array.replicate ops.size false).getD i false = false := by
    intro i
    by_cases h : i < ops.size
    · simp [Array.getD_eq_getD_getElem?, h]
    · simp [Array.getD_eq_getD_getElem?, Array.getElem?_eq_none, show ops.size ≤ i by omega]
  exact main ops.size _ a _ h0 ⟨by simp, fun i hi => absurd hi (by rw [hf]; simp), fun i _ => hf i, (Ext.rfl' W).drew', rfl, rfl, fun _ _ => rfl, fun i d R hi => absurd hi (by rw [hf]; simp), fun i d _ hi => absurd hi (by rw [hf]; simp), fun i j d d' _ _ _ hi => absurd hi (by rw [hf]; simp)⟩
theorem wp_region_D (m : Nat) (D : List Tmp) {id : Nat} {a : Act} {W : World} (hm : P.follows .mixedOrders = true) (hc : okI ops m = true) (hD : (D.all fun d => (List.range m).any fun i => (ops[i]?).bind (·.dst) == some d) = true)
    (h : walkI P ops D W a (fun A w => Dist D A → wpList P ops Q (ops.toList.drop m) A w) (ops.toList.take m) []) : (Code.region id ops true).wp P Q a W :=
  wp_region_any hm (wpAny_region_D m D hc hD h)
theorem wp_region_I (m : Nat) {id : Nat} {a : Act} {W : World} (hm : P.follows .mixedOrders = true) (hc : okI ops m = true)
    (h : walkI P ops [] W a (fun A w => wpList P ops Q (ops.toList.drop m) A w) (ops.toList.take m) []) : (Code.region id ops true).wp P Q a W := by
  refine wp_region_D m [] hm hc rfl ?_
  have : (fun A w => Dist [] A → wpList P ops Q (ops.toList.drop m) A w) = fun A w => wpList P ops Q (ops.toList.drop m) A w := by
    funext A w
    exact propext ⟨fun h => h (fun _ h => by cases h), fun h _ => h⟩
  rw [this]; exact h
abbrev Is (u : Value) : Prop1 := fun v _ => v = u
theorem walkI_step {D : List Tmp} {W : World} {a : Act} {K : Act → World → Prop} {o : Oper} {rest : List Oper} {E : Env} {d : Tmp} (R : Prop1) (hd : o.dst = some d) (hl : d < a.tmps.size) (hg : o.guard = none) (hs : Stable W R)
    (hr : ∀ A w, Ext W w → knows A a w E o.op.operands.toList → ∀ K : Act → World → Prop, (∀ v w', Ext w w' → R v w' → K (A.put (some d) v) w') → o.wp P A w K (fun _ _ _ => False))
    (h : walkI P ops D W a K rest (E ++ [(d, R)])) (hn : d ∉ D := by simp) : walkI P ops D W a K (o :: rest) E :=
  ⟨d, R, hd, hl, hs, .inl ⟨hg, by
    unfold RunsI; rw [hd]
    exact fun A w h1 h2 K hK => hr A w h1 h2 K fun v w' h3 h4 => hK v w' h3 h4 fun e he hde => by cases hde; exact absurd he hn⟩, h⟩
theorem walkI_is {D : List Tmp} {W : World} {a : Act} {K : Act → World → Prop} {o : Oper} {rest : List Oper} {E : Env} {d : Tmp} {u : Value} (hd : o.dst = some d) (hl : d < a.tmps.size) (hg : o.guard = none)
    (hr : ∀ A w, Ext W w → knows A a w E o.op.operands.toList → ∀ K : Act → World → Prop, (∀ w', Ext w w' → K (A.put (some d) u) w') → o.wp P A w K (fun _ _ _ => False))
    (h : walkI P ops D W a K rest (E ++ [(d, Is u)])) (hn : d ∉ D := by simp) : walkI P ops D W a K (o :: rest) E :=
  walkI_step (Is u) hd hl hg (fun _ _ _ _ h _ => h) (fun A w hw hk K hK => hr A w hw hk K fun w' hw' => hK u w' hw' rfl) h hn
theorem walkI_yes {D : List Tmp} {W : World} {a : Act} {K : Act → World → Prop} {o : Oper} {rest : List Oper} {E : Env} {d g tg : Nat} {b : Bool} (R : Prop1) (hd : o.dst = some d) (hl : d < a.tmps.size) (hg : o.guard = some (g, b)) (htg : (ops[g]?).bind (·.dst) = some tg) (hlk : E.lookup tg = some (Is (.bool b))) (hs : Stable W R)
    (hr : ∀ A w, Ext W w → knows A a w E o.op.operands.toList → ∀ K : Act → World → Prop, (∀ v w', Ext w w' → R v w' → K (A.put (some d) v) w') → o.wp P A w K (fun _ _ _ => False))
    (h : walkI P ops D W a K rest (E ++ [(d, R)])) (hn : d ∉ D := by simp) : walkI P ops D W a K (o :: rest) E :=
  ⟨d, R, hd, hl, hs, .inr ⟨g, b, tg, _, hg, htg, hlk, .inl ⟨fun _ _ h => h, by
    unfold RunsI; rw [hd]
    exact fun A w h1 h2 K hK => hr A w h1 h2 K fun v w' h3 h4 => hK v w' h3 h4 fun e he hde => by cases hde; exact absurd he hn⟩⟩, h⟩
theorem walkI_yesis {D : List Tmp} {W : World} {a : Act} {K : Act → World → Prop} {o : Oper} {rest : List Oper} {E : Env} {d g tg : Nat} {b : Bool} {u : Value} (hd : o.dst = some d) (hl : d < a.tmps.size) (hg : o.guard = some (g, b)) (htg : (ops[g]?).bind (·.dst) = some tg) (hlk : E.lookup tg = some (Is (.bool b)))
    (hr : ∀ A w, Ext W w → knows A a w E o.op.operands.toList → ∀ K : Act → World → Prop, (∀ w', Ext w w' → K (A.put (some d) u) w') → o.wp P A w K (fun _ _ _ => False))
    (h : walkI P ops D W a K rest (E ++ [(d, Is u)])) (hn : d ∉ D := by simp) : walkI P ops D W a K (o :: rest) E :=
  walkI_yes (Is u) hd hl hg htg hlk (fun _ _ _ _ h _ => h) (fun A w hw hk K hK => hr A w hw hk K fun w' hw' => hK u w' hw' rfl) h hn
theorem walkI_no {D : List Tmp} {W : World} {a : Act} {K : Act → World → Prop} {o : Oper} {rest : List Oper} {E : Env} {d g tg : Nat} {b : Bool} {u : Value} (hd : o.dst = some d) (hl : d < a.tmps.size) (hg : o.guard = some (g, b)) (htg : (ops[g]?).bind (·.dst) = some tg) (hlk : E.lookup tg = some (Is u)) (hbc : u ≠ .bool b)
    (h : walkI P ops D W a K rest (E ++ [(d, Is undef)])) : walkI P ops D W a K (o :: rest) E :=
  ⟨d, Is undef, hd, hl, fun _ _ _ _ h _ => h, .inr ⟨g, b, tg, _, hg, htg, hlk, .inr ⟨fun _ _ h => by rw [h]; exact hbc, fun _ => rfl⟩⟩, h⟩
theorem wiA {D : List Tmp} {W : World} {a : Act} {K : Act → World → Prop} {o : Oper} {rest : List Oper} {E : Env} {d : Tmp} {u : Value} (hd : o.dst = some d) (hl : d < a.tmps.size) (hg : o.guard = none) (h : walkI P ops D W a K rest (E ++ [(d, Is u)])) (hr : ∀ A w, Ext W w → knows A a w E o.op.operands.toList → ∀ K : Act → World → Prop, (∀ w', Ext w w' → K (A.put (some d) u) w') → o.wp P A w K (fun _ _ _ => False) := by intro A w' hS hA K hK; simp only [List.map_cons, List.map_nil, knows, Is, Op.operands, Call.operands, List.lookup_cons, List.lookup_nil, Nat.reduceBEq, Bool.false_eq_true, if_false, if_true, Act.eval, Array.getD_eq_getD_getElem?, List.getElem?_toArray, List.getElem?_cons_succ, List.getElem?_cons_zero, Option.getD_some, and_true, true_and, List.append_toArray, List.nil_append, List.cons_append, List.toList_toArray, Array.toList_append, Option.toArray, List.append_nil] at hA; obtain ⟨hSc, hSf, hSs⟩ := hS.cells; go_simp; exact hK _ xN) (hn : d ∉ D := by simp) : walkI P ops D W a K (o :: rest) E := walkI_is hd hl hg hr h hn
theorem wyA {D : List Tmp} {W : World} {a : Act} {K : Act → World → Prop} {o : Oper} {rest : List Oper} {E : Env} {d g tg : Tmp} {u : Value} {b : Bool} (hd : o.dst = some d) (hl : d < a.tmps.size) (hg : o.guard = some (g, b)) (htg : (ops[g]?).bind (·.dst) = some tg) (hlk : E.lookup tg = some (Is (.bool b))) (h : walkI P ops D W a K rest (E ++ [(d, Is u)])) (hr : ∀ A w, Ext W w → knows A a w E o.op.operands.toList → ∀ K : Act → World → Prop, (∀ w', Ext w w' → K (A.put (some d) u) w') → o.wp P A w K (fun _ _ _ => False) := by intro A w' hS hA K hK; simp only [List.map_cons, List.map_nil, knows, Is, Op.operands, Call.operands, List.lookup_cons, List.lookup_nil, Nat.reduceBEq, Bool.false_eq_true, if_false, if_true, Act.eval, Array.getD_eq_getD_getElem?, List.getElem?_toArray, List.getElem?_cons_succ, List.getElem?_cons_zero, Option.getD_some, and_true, true_and, List.append_toArray, List.nil_append, List.cons_append, List.toList_toArray, Array.toList_append, Option.toArray, List.append_nil] at hA; obtain ⟨hSc, hSf, hSs⟩ := hS.cells; go_simp; exact hK _ xN) (hn : d ∉ D := by simp) : walkI P ops D W a K (o :: rest) E := walkI_yesis hd hl hg htg hlk hr h hn
theorem walkI_nil {D : List Tmp} {W : World} {a : Act} {K : Act → World → Prop} {E : Env} (h : ∀ w, Ext W w → fins K w E a) : walkI P ops D W a K [] E := h
end
end Go.Proofs.YtabajghokhfmhaaGreat
namespace Go.Proofs.YtabajghokhfmhaaGreat.Ph
open Go.RowKit
section
variable {P : Program} {ops : Array Oper} {Q : Exit → Act → World → Prop}
end
end Go.Proofs.YtabajghokhfmhaaGreat.Ph
namespace Go.Proofs.YtabajghokhfmhaaGreat
open Go.RowKit
end Go.Proofs.YtabajghokhfmhaaGreat
namespace Go.Proofs.YtabajghokhfmhaaGreat
open Go.RowKit Go.Shelf
theorem wpList_load_mid {P : Program} {ops : Array Oper} {rest : List Oper} {o : Oper} {a : Act} {w : World} {Q : Exit → Act → World → Prop} (hgd : o.guard = none) (ty : TypeId) (x : Operand) (ho : o.op = .load ty x)
    (b m : Nat) (hx : a.eval x = .pointer (some ⟨b, m, none⟩)) (cs : List Value) (d : TypeDesc) (hc : ∀ j u, cs[j]? = some u → w.cell? ⟨b, m + j, none⟩ = some u)
    (hu : P.underlying ty = some d) (hd : (match d with | .struct _ | .array _ _ => true | _ => false) = true) (hi : (P.info? ty).map (·.size) = some cs.length)
    (h : wpList P ops Q rest (a.put o.dst (.agg cs.toArray)) w) : wpList P ops Q (o :: rest) a w := by
  refine wpList_plain hgd fun _ hK => ?_
  have hl : (loadCells ⟨b, m, none⟩ cs.length).run P w = .ok cs.toArray w :=
    run_loadCells_list (P := P) w ⟨b, m, none⟩ cs (fun j v hv => by rw [addo]; exact hc j v hv)
  have hv : (loadVar ty ⟨b, m, none⟩).run P w = .ok (.agg cs.toArray) w := by
    cases hq : P.info? ty with
    | none => simp [hq] at hi
    | some i =>
      have hs : i.size = cs.length := by simpa [hq] using hi
      have hagg : (isAgg ty).run P w = .ok true w := by
        unfold isAgg
        rw [Sem.run_bind, run_underlying hu w]
        cases d <;> simp_all
      simp [loadVar, Sem.run_bind, hagg, sizeOf, typeInfo, hq, hs, hl]
  unfold Oper.wp execOp
  simp only [ho, hx, Instr.loadAt, Instr.sureAddr, Sem.run_bind, Sem.run_pure, Result.andThen_ok, hv]
  exact hK _ _ h
theorem oper_load_mid {P : Program} {o : Oper} {a : Act} {w : World} {K : Act → World → Prop} {Q : Exit → Act → World → Prop} (ty : TypeId) (x : Operand) (ho : o.op = .load ty x)
    (b m : Nat) (hx : a.eval x = .pointer (some ⟨b, m, none⟩)) (cs : List Value) (d : TypeDesc) (hc : ∀ j u, cs[j]? = some u → w.cell? ⟨b, m + j, none⟩ = some u)
    (hu : P.underlying ty = some d) (hd : (match d with | .struct _ | .array _ _ => true | _ => false) = true) (hi : (P.info? ty).map (·.size) = some cs.length)
    (h : K (a.put o.dst (.agg cs.toArray)) w) : o.wp P a w K Q := by
  have hl : (loadCells ⟨b, m, none⟩ cs.length).run P w = .ok cs.toArray w :=
    run_loadCells_list (P := P) w ⟨b, m, none⟩ cs (fun j v hv => by rw [addo]; exact hc j v hv)
  have hv : (loadVar ty ⟨b, m, none⟩).run P w = .ok (.agg cs.toArray) w := by
    cases hq : P.info? ty with
    | none => simp [hq] at hi
    | some i =>
      have hs : i.size = cs.length := by simpa [hq] using hi
      have hagg : (isAgg ty).run P w = .ok true w := by
        unfold isAgg
        rw [Sem.run_bind, run_underlying hu w]
        cases d <;> simp_all
      simp [loadVar, Sem.run_bind, hagg, sizeOf, typeInfo, hq, hs, hl]
  unfold Oper.wp execOp
  simp only [ho, hx, Instr.loadAt, Instr.sureAddr, Sem.run_bind, Sem.run_pure, Result.andThen_ok, hv]
  exact h
theorem Src.free {α : Type} {E : PH → List Value → α → Prop} {sz : Nat} {H H' : PH} {w : World} {v : Value} {xs : List α} (h : Src w H E sz v xs) (hE : ∀ cs x, E H cs x → E H' cs x) : Src w H' E sz v xs := by
  obtain ⟨a, cap, h1, h2, h3⟩ := h
  refine ⟨a, cap, h1, h2, ?_⟩
  rcases h3 with h3 | ⟨ad, c, h3, h4, h5⟩
  · exact .inl h3
  · exact .inr ⟨ad, c, h3, h4.mono hE, h5⟩
section
variable {α : Type} {E : PH → List Value → α → Prop} {hm : Mono E} {sz : Nat} {T : TypeId} {w0 w : World} {H0 H : PH} {L : List Chunk} {xs : List α}
theorem Cells.take {c : List Value} (h : Cells H E sz c xs) (k : Nat) : Cells H E sz (c.take (k * sz)) (xs.take k) := by
  induction xs generalizing c k with
  | nil =>
    have : c = [] := h
    subst this; simp; exact rfl
  | cons x xs ih =>
    obtain ⟨cs, rest, rfl, h1, h2, h3⟩ := h
    cases k with
    | zero => simp; exact rfl
    | succ k =>
      refine ⟨cs, rest.take (k * sz), ?_, h1, h2, ih h3 k⟩
      rw [show (k + 1) * sz = cs.length + k * sz by rw [h1, Nat.add_mul]; omega, List.take_length_add_append]
theorem Cells.putRow {x : α} {cs : List Value} (hx : E H cs x) (hs : cs.length = sz) : ∀ {xs : List α} {c : List Value} (k : Nat), k < xs.length → Cells H E sz c xs → Cells H E sz (c.take (k * sz) ++ cs ++ c.drop (k * sz + sz)) (xs.set k x)
  | [], _, k, hk, _ => by simp at hk
  | y :: ys, c, 0, _, hc => by
    obtain ⟨ds, rest, rfl, h1, h2, h3⟩ := hc
    refine ⟨cs, rest, ?_, hs, hx, h3⟩
    rw [Nat.zero_mul, Nat.zero_add, List.take_zero, List.nil_append, List.drop_left' h1]
  | y :: ys, c, k + 1, hk, hc => by
    obtain ⟨ds, rest, rfl, h1, h2, h3⟩ := hc
    refine ⟨ds, rest.take (k * sz) ++ cs ++ rest.drop (k * sz + sz), ?_, h1, h2, Cells.putRow hx hs k (by simpa using hk) h3⟩
    rw [show (k + 1) * sz = ds.length + k * sz by rw [h1, Nat.add_mul]; omega, List.take_length_add_append, show ds.length + k * sz + sz = ds.length + (k * sz + sz) by omega, List.drop_length_add_append]
    simp
theorem setRow_block (w : World) (g k : Nat) (c : Array Value) (h : k ≠ g) : (w.setRow g c).heap[k]? = w.heap[k]? := setRow_other w g k c (fun e => h e)
theorem Mem.putRow {g cap n : Nat} {cur : Array Value} {x : α} {cs : List Value} (h : Mem w0 H0 L H w) (i : Nat) (hi : L[i]? = some (own hm sz T (.slice (some ⟨g, 0, none⟩) n cap) xs)) (hn : n = xs.length) (k : Nat) (hk : k < xs.length) (hx : E H cs x) (hs : cs.length = sz)
    (hg : w.heap[g]? = some (.cells cur T (0, 0))) : Mem w0 H0 (L.set i (own hm sz T (.slice (some ⟨g, 0, none⟩) n cap) (xs.set k x))) H (w.setRow g (cur.toList.take (k * sz) ++ cs ++ cur.toList.drop (k * sz + sz)).toArray) := by
  subst hn
  have h4 : OwnC H w E sz T (.slice (some ⟨g, 0, none⟩) xs.length cap) xs := h.ok i _ hi
  rcases h4 with ⟨h4, -⟩ | ⟨g', cap', cur', e, k1, k2, k3, k4, k5⟩
  · cases h4
  · cases e
    rw [hg] at k1
    cases k1
    have hkn : k * sz + sz ≤ xs.length * sz := by
      have := Nat.mul_le_mul_right sz (show k + 1 ≤ xs.length from hk); rw [Nat.add_mul] at this; omega
    have hnc : xs.length * sz ≤ cap * sz := Nat.mul_le_mul_right _ k2
    have hcl : cur.toList.length = cap * sz := by simpa using k4
    refine h.put i hi (c' := own hm sz T _ (xs.set k x)) (.inr ⟨g, cap, (cur.toList.take (k * sz) ++ cs ++ cur.toList.drop (k * sz + sz)).toArray, by simp, setRow_heap w g cur _ T _ hg, by simpa using k2, k3, ?_, ?_⟩) (fun k hk => .inl hk) ?_ fun j hj hne => setRow_block _ _ _ _ (fun e => hne (by rw [e]; rfl))
    · simp only [List.size_toArray, List.length_append, List.length_take, List.length_drop, hcl, hs]; omega
    · have := Cells.putRow (H := H) hx hs k hk k5
      rw [List.length_set]
      have e1 : (cur.toList.take (k * sz) ++ cs ++ cur.toList.drop (k * sz + sz)).toArray.toList.take (xs.length * sz) = (cur.toList.take (xs.length * sz)).take (k * sz) ++ cs ++ (cur.toList.take (xs.length * sz)).drop (k * sz + sz) := by
        simp only []
        rw [List.take_take, Nat.min_eq_left (by omega), List.drop_take]
        have hl : (cur.toList.take (k * sz) ++ cs).length = k * sz + sz := by rw [List.length_append, List.length_take, hs]; omega
        rw [List.take_append, hl, List.take_of_length_le (by omega)]
      rw [e1]; exact this
    · have hbase := (h.fr i _ hi g rfl).1
      exact h.ex.trans ⟨rfl, rfl, rfl, by simp [World.setRow], fun j hj => setRow_block _ _ _ _ (by omega)⟩
theorem Mem.cut {g cap n : Nat} {cur cur' : Array Value} (h : Mem w0 H0 L H w) (i : Nat) (hi : L[i]? = some (own hm sz T (.slice (some ⟨g, 0, none⟩) n cap) xs)) (hn : n = xs.length) (k : Nat) (hk : k ≤ xs.length)
    (hg : w.heap[g]? = some (.cells cur T (0, 0))) (hs : cur'.size = cur.size) (ht : cur'.toList.take (k * sz) = cur.toList.take (k * sz)) : Mem w0 H0 (L.set i (own hm sz T (.slice (some ⟨g, 0, none⟩) k cap) (xs.take k))) H (w.setRow g cur') := by
  subst hn
  have h4 : OwnC H w E sz T (.slice (some ⟨g, 0, none⟩) xs.length cap) xs := h.ok i _ hi
  rcases h4 with ⟨h4, -⟩ | ⟨g', cap', cur1, e, k1, k2, k3, k4, k5⟩
  · cases h4
  · cases e
    rw [hg] at k1
    cases k1
    have hkl : (xs.take k).length = k := by rw [List.length_take]; omega
    have hkn : k * sz ≤ xs.length * sz := Nat.mul_le_mul_right sz hk
    refine h.put i hi (c' := own hm sz T _ (xs.take k)) (.inr ⟨g, cap, cur', by rw [hkl], setRow_heap w g cur _ T _ hg, by omega, k3, by rw [hs]; exact k4, ?_⟩) (fun k hk => .inl hk) (h.ex.trans ⟨rfl, rfl, rfl, by simp [World.setRow], fun j hj => setRow_block _ _ _ _ (by have := (h.fr i _ hi g rfl).1; omega)⟩) fun j hj hne => setRow_block _ _ _ _ (fun e => hne (by rw [e]; rfl))
    have := Cells.take k5 k
    rw [List.take_take, Nat.min_eq_left hkn] at this
    rw [hkl, ht]; exact this
end
section
variable {P : Program} {α : Type} {E : PH → List Value → α → Prop} {hm : Mono E} {sz : Nat} {T : TypeId} {w0 w : World} {H0 H : PH} {L : List Chunk} {xs : List α}
theorem Mem.cur {g n cap : Nat} (h : Mem w0 H0 L H w) (i : Nat) (hi : L[i]? = some (own hm sz T (.slice (some ⟨g, 0, none⟩) n cap) xs)) : ∃ cur, w.heap[g]? = some (.cells cur T (0, 0)) ∧ cur.size = cap * sz ∧ xs.length ≤ cap ∧ n = xs.length := by
  have h4 : OwnC H w E sz T (.slice (some ⟨g, 0, none⟩) n cap) xs := h.ok i _ hi
  rcases h4 with ⟨h4, -⟩ | ⟨g', cap', cur1, e, k1, k2, k3, k4, k5⟩
  · cases h4
  · cases e; exact ⟨cur1, k1, k4, k2, rfl⟩
theorem wpList_store_M {ops : Array Oper} {rest : List Oper} {o : Oper} {a : Act} {Q : Exit → Act → World → Prop} (hgd : o.guard = none) (ty : TypeId) (x y : Operand) (ho : o.op = .store ty x y)
    {g n cap : Nat} (k : Nat) (hx : a.eval x = .pointer (some ⟨g, k * sz, none⟩)) {cs : List Value} (hy : a.eval y = .agg cs.toArray) {x' : α} (h : Mem w0 H0 L H w) (i : Nat) (hi : L[i]? = some (own hm sz T (.slice (some ⟨g, 0, none⟩) n cap) xs)) (hk : k < xs.length)
    (hE : E H cs x') (hcs : cs.length = sz) (hone : ∀ u ∈ cs, u.oneCell' = true) (hinfo : (P.info? ty).map (·.size) = some sz)
    (hn : ∀ w', Mem w0 H0 (L.set i (own hm sz T (.slice (some ⟨g, 0, none⟩) n cap) (xs.set k x'))) H w' → wpList P ops Q rest (a.put o.dst undef) w') : wpList P ops Q (o :: rest) a w := by
  obtain ⟨cur, hg, hc1, hc2, rfl⟩ := h.cur i hi
  have hkn : k * sz + sz ≤ cap * sz := by
    have := Nat.mul_le_mul_right sz (show k + 1 ≤ cap by omega); rw [Nat.add_mul] at this; omega
  have hst := run_storeCells_at (P := P) g (k * sz) T cs 0 cur w hg (by omega) hone
  simp only [Nat.add_zero] at hst
  rw [hcs] at hst
  refine wpList_plain hgd fun _ hK => ?_
  have hv : (storeVar ty ⟨g, k * sz, none⟩ (.agg cs.toArray)).run P w = .ok () (w.setRow g (cur.toList.take (k * sz) ++ cs ++ cur.toList.drop (k * sz + sz)).toArray) := by
    cases hq : P.info? ty with
    | none => simp [hq] at hinfo
    | some j =>
      have hs : cs.length = j.size := by simp [hq] at hinfo; omega
      simp [storeVar, sizeOf, typeInfo, hq, Value.cells, hs, hst]
  unfold Oper.wp execOp
  simp only [ho, hx, hy, Instr.storeAt, Instr.sureAddr, Sem.run_bind, Sem.run_pure, Result.andThen_ok, hv]
  exact hK _ _ (hn _ (h.putRow i hi rfl k hk hE hcs hg))
theorem zeroCells_one {z : Array Value} (hz : z.all (·.oneCell') = true) (n : Nat) : ∀ v ∈ (Builtin.zeroCells z n).toList, v.oneCell' = true := by
  intro v hv
  simp [Builtin.zeroCells] at hv
  obtain ⟨j, hj, rfl⟩ := hv
  have hpos : 0 < z.size := Nat.pos_of_ne_zero fun e => by rw [e] at hj; simp at hj
  have hlt : j % z.size < z.size := Nat.mod_lt _ hpos
  have := (Array.all_eq_true.1 hz) (j % z.size) hlt
  simpa [hlt] using this
theorem wpList_clear_M {ops : Array Oper} {rest : List Oper} {o : Oper} {a : Act} {Q : Exit → Act → World → Prop} (hgd : o.guard = none) (s : Operand) (t : TypeId) (ho : o.op = .call { callee := .builtin .clear, args := #[s], argTypes := #[t] })
    {g n cap c : Nat} (k : Nat) (hs : a.eval s = .slice (some ⟨g, k * sz, none⟩) (n - k) c) {z : Value} (ht : P.underlying t = some (.slice T)) (hz : ∀ w, (zeroValue T).run P w = .ok z w) (hzs : z.cells.size = sz) (hz1 : z.cells.all (·.oneCell') = true)
    (h : Mem w0 H0 L H w) (i : Nat) (hi : L[i]? = some (own hm sz T (.slice (some ⟨g, 0, none⟩) n cap) xs)) (hk : k ≤ xs.length)
    (hn : ∀ w', Mem w0 H0 (L.set i (own hm sz T (.slice (some ⟨g, 0, none⟩) k cap) (xs.take k))) H w' → wpList P ops Q rest (a.put o.dst (.tuple #[])) w') : wpList P ops Q (o :: rest) a w := by
  obtain ⟨cur, hg, hc1, hc2, rfl⟩ := h.cur i hi
  have hzl : (Builtin.zeroCells z.cells (xs.length - k)).toList.length = (xs.length - k) * sz := by rw [Array.length_toList, size_zeroCells, hzs]
  have hle : k * sz + (xs.length - k) * sz ≤ cap * sz := by
    rw [← Nat.add_mul]; exact Nat.mul_le_mul_right _ (by omega)
  have hst := run_storeCells_at (P := P) g (k * sz) T (Builtin.zeroCells z.cells (xs.length - k)).toList 0 cur w hg (by omega) (zeroCells_one hz1 _)
  simp only [Nat.add_zero] at hst
  have hM := h.cut i hi rfl k hk hg (cur' := (cur.toList.take (k * sz) ++ (Builtin.zeroCells z.cells (xs.length - k)).toList ++ cur.toList.drop (k * sz + (Builtin.zeroCells z.cells (xs.length - k)).toList.length)).toArray)
    (by simp only [List.size_toArray, List.length_append, List.length_take, List.length_drop, hzl, Array.length_toList]; omega)
    (by simp only []; rw [List.append_assoc, List.take_append_of_le_length (by rw [List.length_take, Array.length_toList]; omega), List.take_take, Nat.min_self])
  refine wpList_plain hgd fun _ hK => ?_
  have hr : (Builtin.clear_ #[t] o.type #[.slice (some ⟨g, k * sz, none⟩) (xs.length - k) c]).run P w = .ok (.tuple #[]) (w.setRow g (cur.toList.take (k * sz) ++ (Builtin.zeroCells z.cells (xs.length - k)).toList ++ cur.toList.drop (k * sz + (Builtin.zeroCells z.cells (xs.length - k)).toList.length)).toArray) := by
    cases hq : xs.length - k with
    | zero =>
      have hz0 : Builtin.zeroCells z.cells 0 = #[] := by simp [Builtin.zeroCells]
      rw [hz0]
      have e1 : (cur.toList.take (k * sz) ++ (#[] : Array Value).toList ++ cur.toList.drop (k * sz + (#[] : Array Value).toList.length)).toArray = cur := by simp
      rw [e1, setRow_self w g cur T (0, 0) hg]
      simp [Builtin.clear_, run_underlying ht]
    | succ m =>
      rw [hq] at hst
      simp [Builtin.clear_, run_underlying ht, hz, hst]
  unfold Oper.wp execOp
  simp only [ho, resolve, invoke, builtin, Sem.run_bind, Sem.run_pure, Result.andThen_ok, List.map_toArray, List.map_cons, List.map_nil, hs, hr]
  exact hK _ _ (hn _ hM)
end
end Go.Proofs.YtabajghokhfmhaaGreat
namespace Go.Proofs.YtabajghokhfmhaaGreat
open Go.RowKit
theorem sliceArr {α : Type} {E : PH → List Value → α → Prop} {sz : Nat} {w : World} {b n : Nat} {cur : Array Value} {T : TypeId} {xs : List α} (hO : Own w b cur T) (hc : Cells (ph w) E sz cur.toList xs) (hn : n = xs.length) (hm : n ≤ maxLen) :
    SliceRep E sz (ph w) (.slice (some ⟨b, 0, none⟩) n n) xs := by
  subst hn
  refine ⟨_, _, rfl, Nat.le_refl _, hm, .inr ⟨b, 0, rfl, hc.row (fun _ _ h => h) fun j u hu => ?_⟩⟩
  rw [← cell_ph, Nat.zero_add, hO.facts.1]
  simpa using hu
end Go.Proofs.YtabajghokhfmhaaGreat
namespace Go.Proofs.YtabajghokhfmhaaGreat
open Go.RowKit Go.Shelf
def enC (e : En) : List Value := [.int .i64 e.far, .int .i64 e.at'.num, .int .i64 e.at'.den, .bool e.aft]
def enA (e : En) : Value := .agg #[.int .i64 e.far, .int .i64 e.at'.num, .int .i64 e.at'.den, .bool e.aft]
def itC (x : Itv) : List Value := [.int .i64 x.lo.num, .int .i64 x.lo.den, .int .i64 x.hi.num, .int .i64 x.hi.den, .bool x.loO, .bool x.hiO, .bool x.loI, .bool x.hiI]
def itA (x : Itv) : Value := .agg #[.int .i64 x.lo.num, .int .i64 x.lo.den, .int .i64 x.hi.num, .int .i64 x.hi.den, .bool x.loO, .bool x.hiO, .bool x.loI, .bool x.hiI]
def raA (r : Rat2) : Value := .agg #[.int .i64 r.num, .int .i64 r.den]
def Rat2.I (r : Rat2) : Prop := I64 r.num ∧ I64 r.den
def Itv.I (x : Itv) : Prop := x.lo.I ∧ x.hi.I
def ItvR (_ : PH) (cs : List Value) (x : Itv) : Prop := cs = itC x ∧ x.I
theorem mono_ItvR : Mono ItvR := fun _ _ _ _ _ h => h
abbrev ItvsR : PH → Value → List Itv → Prop := SliceRep ItvR 8
def En.I (e : En) : Prop := I64 e.far ∧ e.at'.I
def EnR (_ : PH) (cs : List Value) (e : En) : Prop := cs = enC e ∧ e.I
theorem mono_EnR : Mono EnR := fun _ _ _ _ _ h => h
def En.bd (e : En) : Prop := -1 ≤ e.far ∧ e.far ≤ 1 ∧ -1073741824 ≤ e.at'.num ∧ e.at'.num ≤ 1073741824 ∧ 0 ≤ e.at'.den ∧ e.at'.den ≤ 32768
theorem En.sm.bd {e : En} (h : e.sm) : e.bd := by
  unfold En.bd
  rcases h with ⟨h1, h2⟩ | rfl | rfl
  · obtain ⟨⟨h3, -⟩, h4, h5⟩ := smallB_iff.1 h2
    omega
  · simp [botE]
  · simp [topE]
theorem mul_bd {x y : Int} (h1 : -1073741824 ≤ x) (h2 : x ≤ 1073741824) (h3 : 0 ≤ y) (h4 : y ≤ 32768) : -35184372088832 ≤ x * y ∧ x * y ≤ 35184372088832 := by
  have e1 : x * y ≤ 1073741824 * 32768 := Int.le_trans (Int.mul_le_mul_of_nonneg_right h2 h3) (Int.mul_le_mul_of_nonneg_left h4 (by omega))
  have e2 : -1073741824 * 32768 ≤ x * y := by
    have : -1073741824 * y ≤ x * y := Int.mul_le_mul_of_nonneg_right h1 h3
    omega
  omega
theorem wrap_id {x : Int} (h1 : -9223372036854775808 ≤ x) (h2 : x ≤ 9223372036854775807) : IntKind.i64.wrap x = x := by rw [IntKind.wrap_i64]; omega
theorem wrap64_id {x : Int} (h1 : -9223372036854775808 ≤ x) (h2 : x ≤ 9223372036854775807) : wrap64 x = x := by rw [← IntWalk.i64_left]; exact wrap_id h1 h2
set_option maxRecDepth 100000 in
set_option maxHeartbeats 1000000 in
theorem less_c (a b : En) (w : World) (ha : a.bd) (hb : b.bd) : Calls Tryz.prog 184 #[enA a, enA b] w (RetV w (.bool (lessE a b))) := by
  obtain ⟨f, ⟨n, d⟩, t⟩ := a
  obtain ⟨f', ⟨n', d'⟩, t'⟩ := b
  obtain ⟨-, -, a1, a2, a3, a4⟩ := ha
  obtain ⟨-, -, b1, b2, b3, b4⟩ := hb
  dsimp only at a1 a2 a3 a4 b1 b2 b3 b4
  have m1 := mul_bd a1 a2 b3 b4
  have m2 := mul_bd b1 b2 a3 a4
  have w1 : IntKind.i64.wrap (n * d') = n * d' := wrap_id (by omega) (by omega)
  have w2 : IntKind.i64.wrap (n' * d) = n' * d := wrap_id (by omega) (by omega)
  clear a1 a2 a3 a4 b1 b2 b3 b4
  unfold enA
  dsimp only
  have hx : Ext w ((w.alloc (.cells #[.int .i64 f, .int .i64 n, .int .i64 d, .bool t] 214)).alloc (.cells #[.int .i64 f', .int .i64 n', .int .i64 d', .bool t'] 214)) := xE
  by_cases hf : f = f'
  · subst hf
    by_cases h0 : f = 0
    · subst h0
      have hs : Hid (lessE ⟨0, ⟨n, d⟩, t⟩ ⟨0, ⟨n', d'⟩, t'⟩ = if n * d' ≠ n' * d then decide (n * d' < n' * d) else (!t && t')) := by
        show _ = _
        unfold lessE
        rw [if_neg (by simp), if_neg (by simp)]
      have w3 : wrap64 (n * d') = n * d' := wrap64_id (by omega) (by omega)
      have w4 : wrap64 (n' * d) = n' * d := wrap64_id (by omega) (by omega)
      generalize lessE _ _ = q at hs ⊢
      by_cases hxy : n * d' = n' * d
      · rw [if_neg (by simpa using hxy)] at hs
        replace hxy := Lib.hid hxy
        go_enter Tryz.func184, Tryz.ntmps184
        go_wp2_with fail
        go_quiet (fail)
        rw [hxy.out]
        generalize n' * d = y at *
        cases t <;> (go_wp2_with fail; go_ret; exact ⟨ret_bool (by rw [hs.out]; first | rfl | simp), xE⟩)
      · rw [if_pos hxy] at hs
        go_enter Tryz.func184, Tryz.ntmps184
        go_wp2_with fail
        go_quiet (fail)
        have hb : (n * d' != n' * d) = true := by simpa using hxy
        generalize n * d' = x at *
        generalize n' * d = y at *
        clear w1 w2 w3 w4
        go_wp2_with fail
        go_ret
        exact ⟨ret_bool hs.out.symm, xE⟩
    · have hs : Hid (lessE ⟨f, ⟨n, d⟩, t⟩ ⟨f, ⟨n', d'⟩, t'⟩ = false) := by
        show _ = _
        unfold lessE
        rw [if_neg (by simp), if_pos h0]
      generalize lessE _ _ = q at hs ⊢
      have hb : (f != 0) = true := by simpa using h0
      go_enter Tryz.func184, Tryz.ntmps184
      go_wp2_with fail
      go_ret
      exact ⟨ret_bool hs.out.symm, xE⟩
  · have hs : Hid (lessE ⟨f, ⟨n, d⟩, t⟩ ⟨f', ⟨n', d'⟩, t'⟩ = decide (f < f')) := by
      show _ = _
      unfold lessE
      rw [if_pos hf]
    generalize lessE _ _ = q at hs ⊢
    have hb : (f != f') = true := by simpa using hf
    go_enter Tryz.func184, Tryz.ntmps184
    go_wp2_with fail
    go_ret
    exact ⟨ret_bool hs.out.symm, xE⟩
end Go.Proofs.YtabajghokhfmhaaGreat
