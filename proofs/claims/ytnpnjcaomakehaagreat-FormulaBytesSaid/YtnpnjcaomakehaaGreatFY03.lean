/- Lemmas for FY, part 4: plain laws of formulas: what is formed, and the order of package priorartref07, and more. -/
import Derived.Deep.CutBlock
import Derived.TacticsInMore
import Derived.WalkMore
import Derived.WideLaws
import Derived.Test.YtnpnjcaomakehaaGreatFY00
import Derived.Test.YtnpnjcaomakehaaGreatFY02
set_option linter.unusedSimpArgs false
set_option linter.unusedVariables false
namespace Go.Proofs.YtnpnjcaomakehaaGreat
open Go.RowKit
def formed1 (f : Fm) : Bool :=
  if (f.op ≠ 2 ∧ f.inn ≠ []) ∨ (f.op ≠ 2 ∧ f.op ≠ 1 ∧ f.n ≠ 0) then false
  else if f.op = 0 then f.kids.isEmpty
  else if f.op = 1 then f.kids.isEmpty && decide (0 ≤ f.n) && decide (f.n < 64)
  else if f.op = 2 then f.kids.isEmpty && decide (0 ≤ f.n) && decide (f.n < 32) && decide (setE f.inn = 0)
  else if f.op = 3 ∨ f.op = 6 then decide (f.kids.length = 1)
  else decide (f.op = 4) || decide (f.op = 5)
def wholeB (f : Fm) : Bool := f.pre.all formed1
theorem wholeB_eq (f : Fm) : wholeB f = (formed1 f && f.kids.all wholeB) := by
  unfold wholeB
  rw [Fm.pre_eq, List.all_cons]
  congr 1
  induction f.kids with
  | nil => rfl
  | cons x xs ih => rw [List.flatMap_cons, List.all_append, List.all_cons, ih]
def validF (f : Fm) : Int := if 96 < f.size ∨ 8 < f.deep then 4 else if wholeB f then 0 else 1
theorem validF_0 {f : Fm} (h : validF f = 0) : f.size ≤ 96 ∧ f.deep ≤ 8 ∧ wholeB f = true := by
  unfold validF at h
  split at h
  · cases h
  · split at h
    · rename_i h1 h2; exact ⟨by omega, by omega, h2⟩
    · cases h
def oneI (b : Bool) : Int := if b then 1 else 0
def ordI (x : Itv) : List Int := [oneI x.loI, oneI x.loO, x.lo.num, x.lo.den, oneI x.hiI, oneI x.hiO, x.hi.num, x.hi.den]
def ordF (f : Fm) : List Int := [f.op, f.n, (f.inn.length : Int)] ++ f.inn.flatMap ordI ++ [(f.kids.length : Int)]
def cmpZ : List Int → List Int → Int
  | x :: xs, y :: ys => if x < y then -1 else if y < x then 1 else cmpZ xs ys
  | _, _ => 0
mutual
def cmpF : Fm → Fm → Int
  | .mk o n i k, .mk o' n' i' k' => if cmpZ (ordF (.mk o n i k)) (ordF (.mk o' n' i' k')) ≠ 0 then cmpZ (ordF (.mk o n i k)) (ordF (.mk o' n' i' k')) else cmpFs k k'
def cmpFs : List Fm → List Fm → Int
  | x :: xs, y :: ys => if cmpF x y ≠ 0 then cmpF x y else cmpFs xs ys
  | _, _ => 0
end
theorem cmpF_eq (a b : Fm) : cmpF a b = if cmpZ (ordF a) (ordF b) ≠ 0 then cmpZ (ordF a) (ordF b) else cmpFs a.kids b.kids := by
  cases a; cases b; rfl
theorem cmpZ_self : ∀ l : List Int, cmpZ l l = 0
  | [] => rfl
  | x :: xs => by simp [cmpZ, cmpZ_self xs]
theorem cmpZ_0 : ∀ {a b : List Int}, cmpZ a b = 0 → a.length = b.length → a = b
  | [], [], _, _ => rfl
  | [], _ :: _, _, h => by simp at h
  | _ :: _, [], _, h => by simp at h
  | x :: xs, y :: ys, h, hl => by
    rw [cmpZ] at h
    split at h
    · cases h
    · split at h
      · cases h
      · rename_i h1 h2
        have : x = y := by omega
        rw [this, cmpZ_0 h (by simpa using hl)]
theorem cmpZ_pre : ∀ {a b c d : List Int}, cmpZ (a ++ c) (b ++ d) = 0 → a.length = b.length → a = b
  | [], [], _, _, _, _ => rfl
  | [], _ :: _, _, _, _, h => by simp at h
  | _ :: _, [], _, _, _, h => by simp at h
  | x :: xs, y :: ys, c, d, h, hl => by
    rw [List.cons_append, List.cons_append, cmpZ] at h
    split at h
    · cases h
    · split at h
      · cases h
      · rename_i h1 h2
        have : x = y := by omega
        rw [this, cmpZ_pre h (by simpa using hl)]
theorem oneI_inj {a b : Bool} (h : oneI a = oneI b) : a = b := by cases a <;> cases b <;> first | rfl | cases h
theorem ordI_inj {x y : Itv} (h : ordI x = ordI y) : x = y := by
  obtain ⟨⟨a, b⟩, ⟨c, d⟩, p, q, r, s⟩ := x
  obtain ⟨⟨a', b'⟩, ⟨c', d'⟩, p', q', r', s'⟩ := y
  simp only [ordI, List.cons.injEq, and_true] at h
  obtain ⟨h1, h2, h3, h4, h5, h6, h7, h8⟩ := h
  have := oneI_inj h1; have := oneI_inj h2; have := oneI_inj h5; have := oneI_inj h6
  subst_vars; rfl
theorem ordIs_len : ∀ l : List Itv, (l.flatMap ordI).length = 8 * l.length
  | [] => rfl
  | x :: xs => by rw [List.flatMap_cons, List.length_append, ordIs_len xs]; simp [ordI]; omega
theorem ordIs_inj : ∀ {l m : List Itv}, l.length = m.length → l.flatMap ordI = m.flatMap ordI → l = m
  | [], [], _, _ => rfl
  | [], _ :: _, h, _ => by simp at h
  | _ :: _, [], h, _ => by simp at h
  | x :: xs, y :: ys, hl, h => by
    rw [List.flatMap_cons, List.flatMap_cons] at h
    obtain ⟨h1, h2⟩ := List.append_inj h (by simp [ordI])
    rw [ordI_inj h1, ordIs_inj (by simpa using hl) h2]
theorem ordF_len (f : Fm) : (ordF f).length = 4 + 8 * f.inn.length := by
  unfold ordF
  rw [List.length_append, List.length_append, ordIs_len]
  simp; omega
theorem ordF_0 {a b : Fm} (h : cmpZ (ordF a) (ordF b) = 0) : a.op = b.op ∧ a.n = b.n ∧ a.inn = b.inn ∧ a.kids.length = b.kids.length := by
  have h1 : [a.op, a.n, (a.inn.length : Int)] = [b.op, b.n, (b.inn.length : Int)] := by
    unfold ordF at h
    rw [List.append_assoc, List.append_assoc] at h
    exact cmpZ_pre h rfl
  simp only [List.cons.injEq, and_true] at h1
  obtain ⟨h2, h3, h4⟩ := h1
  have h5 : a.inn.length = b.inn.length := by omega
  have h6 := cmpZ_0 h (by rw [ordF_len, ordF_len, h5])
  unfold ordF at h6
  obtain ⟨h7, h8⟩ := List.append_inj h6 (by rw [List.length_append, List.length_append, ordIs_len, ordIs_len, h5]; rfl)
  obtain ⟨-, h9⟩ := List.append_inj h7 rfl
  refine ⟨h2, h3, ordIs_inj h5 h9, ?_⟩
  simp at h8; omega
theorem cmpFs_0 : ∀ {l m : List Fm}, (∀ x ∈ l, ∀ y, cmpF x y = 0 ↔ x = y) → l.length = m.length → (cmpFs l m = 0 ↔ l = m)
  | [], [], _, _ => by simp [cmpFs]
  | [], _ :: _, _, h => by simp at h
  | _ :: _, [], _, h => by simp at h
  | x :: xs, y :: ys, hx, hl => by
    have ih := cmpFs_0 (l := xs) (m := ys) (fun z hz => hx z (by simp [hz])) (by simpa using hl)
    have h1 := hx x (by simp) y
    rw [cmpFs]
    split
    · rename_i h
      constructor
      · intro h2; exact absurd h2 h
      · intro h2; cases h2; exact absurd (h1.2 rfl) h
    · rename_i h
      rw [ih]
      have : x = y := h1.1 (by omega)
      subst this
      simp
theorem cmpF_0 (a : Fm) : ∀ b, cmpF a b = 0 ↔ a = b := by
  induction a using Fm.ind with
  | h a ih =>
    intro b
    rw [cmpF_eq]
    by_cases h : cmpZ (ordF a) (ordF b) = 0
    · obtain ⟨h1, h2, h3, h4⟩ := ordF_0 h
      rw [if_neg (by simpa using h), cmpFs_0 ih h4]
      constructor
      · intro h5
        rw [a.eta, b.eta, h1, h2, h3, h5]
      · intro h5; rw [h5]
    · rw [if_pos h]
      constructor
      · intro h5; exact absurd h5 h
      · intro h5; rw [h5] at h; exact absurd (cmpZ_self _) h
structure Cl where
  refs : List Int
  body : Fm
def noF : Fm := .mk 0 0 [] []
section
variable {α : Type} {f : List (Option α) → Cl → Option α}
end
/-! alternatives -/
end Go.Proofs.YtnpnjcaomakehaaGreat
namespace Go.Proofs.YtnpnjcaomakehaaGreat
open Go.RowKit Go.Shelf
set_option maxRecDepth 100000 in
set_option maxHeartbeats 1000000 in
theorem rsmall_c (r : Rat2) (w : World) : Calls Tryz.prog 179 #[raA r] w (RetV w (.bool (smallB r))) := by
  have hs : Hid (smallB r = (decide (RatOk r) && decide (r.num ≤ 1073741824) && decide (-1073741824 ≤ r.num) && decide (r.den ≤ 32768))) := by
    show _ = _
    rw [Bool.eq_iff_iff, smallB_iff]
    simp only [Bool.and_eq_true, decide_eq_true_eq]
    constructor
    · rintro ⟨h, h1, h2⟩; exact ⟨⟨⟨h, by omega⟩, by omega⟩, h2⟩
    · rintro ⟨⟨⟨h, h1⟩, h2⟩, h3⟩; exact ⟨h, by omega, h3⟩
  have hv := fun w => rvalid_c r w
  have he := errIf_beq (p := RatOk r) (k := 1) (by decide)
  generalize ErrIf (RatOk r) 1 = z at hv he
  generalize decide (RatOk r) = ok at *
  generalize smallB r = q at *
  obtain ⟨n, d⟩ := r
  unfold raA at *
  dsimp only at *
  have hw := Ext.new w (.cells #[.int .i64 n, .int .i64 d] 90)
  have hO := Proofs.YtnpnjcaomakehaaGreat.Own.new w #[.int .i64 n, .int .i64 d] 90
  replace hv := Lib.hid hv
  go_enter Tryz.func179, Tryz.ntmps179
  go_wp2_with fail
  generalize w.alloc _ = W at *
  refine RetV_at (hv.out _) ?_
  intro w1 hx1
  replace hO := hO.keep hx1
  replace hw := hw.then hx1
  obtain ⟨c1, f1⟩ := hO.facts
  have z1 := hO.lt
  clear hx1
  cases ok with
  | false =>
    go_wp2_with fail
    go_ret
    exact ⟨ret_bool (by rw [hs.out]; simp), xE⟩
  | true =>
    by_cases h1 : n ≤ 1073741824
    · by_cases h2 : -1073741824 ≤ n
      · go_wp2_with fail
        go_ret
        exact ⟨ret_bool (by rw [hs.out]; simp [h1, h2]), xE⟩
      · go_wp2_with fail
        go_ret
        exact ⟨ret_bool (by rw [hs.out]; simp; intros; omega), xE⟩
    · go_wp2_with fail
      go_ret
      exact ⟨ret_bool (by rw [hs.out]; simp; intros; omega), xE⟩
theorem goodB_inf {x : Itv} (hi : (x.loI || x.hiI) = true) : goodB x = (limB x.lo x.loO x.loI && limB x.hi x.hiO x.hiI) := by
  rw [Bool.eq_iff_iff, goodB_iff, Bool.and_eq_true]
  constructor
  · rintro ⟨h1, h2, -⟩; exact ⟨h1, h2⟩
  · rintro ⟨h1, h2⟩
    refine ⟨h1, h2, ?_⟩
    have s2 := limB_hi h2
    unfold loE hiE at *
    cases h3 : x.loI <;> cases h4 : x.hiI <;> simp [h3, h4] at hi ⊢ <;> simp [lessE, botE, topE]
theorem goodB_fin {x : Itv} (h1 : x.loI = false) (h2 : x.hiI = false) : goodB x = (smallB x.lo && smallB x.hi && if x.lo = x.hi then !x.loO && !x.hiO else lessR x.lo x.hi) := by
  unfold goodB limB loE hiE
  rw [h1, h2]
  simp only [Bool.false_eq_true, if_false]
  cases h3 : smallB x.lo
  · rfl
  cases h4 : smallB x.hi
  · rfl
  simp only [Bool.true_and]
  unfold lessE lessR
  rw [if_neg (by simp), if_neg (by simp)]
  by_cases h : x.lo.num * x.hi.den = x.hi.num * x.lo.den
  · have he := Rat2.same (smallB_ok h3) (smallB_ok h4) h
    rw [if_neg (by simpa using h), if_pos he]
  · rw [if_pos h, if_neg (fun e => h (by rw [e]))]
theorem gl1 {lI rI lO rO p p' zl zr q : Bool} (h1 : (lI || rI) = true → q = ((if lI then zl && !lO else p) && if rI then zr && !rO else p')) (h2 : ((lI && (!zl || lO)) || (rI && (!zr || rO))) = true) : q = false := by
  cases lI <;> cases rI <;> cases lO <;> cases rO <;> cases zl <;> cases zr <;> simp_all
theorem gl2 {lI rI lO rO p p' zl zr zq ls q : Bool} (h1 : (lI || rI) = true → q = ((if lI then zl && !lO else p) && if rI then zr && !rO else p')) (h2 : lI = false → rI = false → q = (p && p' && if zq then !lO && !rO else ls)) (h3 : ((!lI && !p) || (!rI && !p')) = true) : q = false := by
  cases lI <;> cases rI <;> cases p <;> cases p' <;> simp_all
theorem gl3 {lI rI lO rO p p' zl zr q : Bool} (h1 : (lI || rI) = true → q = ((if lI then zl && !lO else p) && if rI then zr && !rO else p')) (h2 : ((lI && (!zl || lO)) || (rI && (!zr || rO))) = false) (h3 : ((!lI && !p) || (!rI && !p')) = false) (h4 : (lI || rI) = true) : q = true := by
  cases lI <;> cases rI <;> cases lO <;> cases rO <;> cases zl <;> cases zr <;> cases p <;> cases p' <;> simp_all
theorem smallB_bd {r : Rat2} (h : smallB r = true) : r.bd := (smallB_iff.1 h).1.bd
set_option maxRecDepth 100000 in
set_option maxHeartbeats 8000000 in
theorem rgood_c (x : Itv) (w : World) : Calls Tryz.prog 165 #[itA x] w (RetV w (.bool (goodB x))) := by
  have h1 := fun w => rsmall_c x.lo w
  have h2 := fun w => rsmall_c x.hi w
  have h3 := fun (a : smallB x.lo = true) (b : smallB x.hi = true) w => rless_c x.lo x.hi w (smallB_bd a) (smallB_bd b)
  have hinf := goodB_inf (x := x)
  have hfin := goodB_fin (x := x)
  unfold limB at hinf
  obtain ⟨⟨a, b⟩, ⟨c, d⟩, lO, rO, lI, rI⟩ := x
  unfold itA raA at *
  dsimp only at *
  have e1 : ((⟨a, b⟩ : Rat2) == ⟨0, 0⟩) = (a == 0 && b == 0) := by rw [Bool.eq_iff_iff]; simp
  have e2 : ((⟨c, d⟩ : Rat2) == ⟨0, 0⟩) = (c == 0 && d == 0) := by rw [Bool.eq_iff_iff]; simp
  have e3 : decide ((⟨a, b⟩ : Rat2) = ⟨c, d⟩) = (a == c && b == d) := by rw [Bool.eq_iff_iff]; simp
  rw [e1, e2] at hinf
  have hfin2 : lI = false → rI = false → goodB ⟨⟨a, b⟩, ⟨c, d⟩, lO, rO, lI, rI⟩ = (smallB ⟨a, b⟩ && smallB ⟨c, d⟩ && if (a == c && b == d) then !lO && !rO else lessR ⟨a, b⟩ ⟨c, d⟩) := fun q1 q2 => by
    rw [hfin q1 q2, ← e3]; simp
  clear e1 e2 e3 hfin
  generalize smallB ⟨a, b⟩ = p at *
  generalize smallB ⟨c, d⟩ = p' at *
  generalize lessR ⟨a, b⟩ ⟨c, d⟩ = ls at *
  generalize goodB _ = q at *
  have hw := Ext.new w (.cells #[.int .i64 a, .int .i64 b, .int .i64 c, .int .i64 d, .bool lO, .bool rO, .bool lI, .bool rI] 92)
  have hO := Proofs.YtnpnjcaomakehaaGreat.Own.new w #[.int .i64 a, .int .i64 b, .int .i64 c, .int .i64 d, .bool lO, .bool rO, .bool lI, .bool rI] 92
  replace h1 := Lib.hid h1
  replace h2 := Lib.hid h2
  replace h3 := Lib.hid h3
  replace hinf := Lib.hid hinf
  replace hfin2 := Lib.hid hfin2
  obtain ⟨z1, hz1⟩ : ∃ z, (a == 0) = z := ⟨_, rfl⟩
  obtain ⟨z2, hz2⟩ : ∃ z, (b == 0) = z := ⟨_, rfl⟩
  obtain ⟨z3, hz3⟩ : ∃ z, (c == 0) = z := ⟨_, rfl⟩
  obtain ⟨z4, hz4⟩ : ∃ z, (d == 0) = z := ⟨_, rfl⟩
  go_enter Tryz.func165, Tryz.ntmps165
  go_upto_region 1 with (fail)
  generalize w.heap.size = b1 at *
  generalize w.alloc _ = W at *
  obtain ⟨c1, f1⟩ := hO.facts
  have zz1 := hO.lt
  go_cut [30] (fun v wx => v = .bool ((lI && (!(a == 0 && b == 0) || lO)) || (rI && (!(c == 0 && d == 0) || rO))) ∧ wx = W)
  case first =>
    cases lI with
    | false =>
      cases rI with
      | false => (go_wp2_with fail; go_meet; (case rel => exact ⟨by simp [*], rfl⟩))
      | true => cases rO <;> cases z3 <;> cases z4 <;> (go_wp2_with fail; go_meet; (case rel => exact ⟨by simp [*], rfl⟩))
    | true =>
      cases lO with
      | true => cases z1 <;> cases z2 <;> (go_wp2_with fail; go_meet; (case rel => exact ⟨by simp [*], rfl⟩))
      | false =>
        cases z1 with
        | false => cases z2 <;> (go_wp2_with fail; go_meet; (case rel => exact ⟨by simp [*], rfl⟩))
        | true =>
          cases z2 with
          | false => (go_wp2_with fail; go_meet; (case rel => exact ⟨by simp [*], rfl⟩))
          | true =>
            cases rI with
            | false => (go_wp2_with fail; go_meet; (case rel => exact ⟨by simp [*], rfl⟩))
            | true => cases rO <;> cases z3 <;> cases z4 <;> (go_wp2_with fail; go_meet; (case rel => exact ⟨by simp [*], rfl⟩))
  case rest =>
    obtain ⟨rfl, rfl⟩ := hcut
    obtain ⟨bad, hbad⟩ : ∃ bad, ((lI && (!(a == 0 && b == 0) || lO)) || (rI && (!(c == 0 && d == 0) || rO))) = bad := ⟨_, rfl⟩
    rw [hbad]
    obtain ⟨zl, hzl⟩ : ∃ z, (a == 0 && b == 0) = z := ⟨_, rfl⟩
    obtain ⟨zr, hzr⟩ : ∃ z, (c == 0 && d == 0) = z := ⟨_, rfl⟩
    obtain ⟨zq, hzq⟩ : ∃ z, (a == c && b == d) = z := ⟨_, rfl⟩
    have hinf2 : Hid ((lI || rI) = true → q = ((if lI then zl && !lO else p) && if rI then zr && !rO else p')) := Lib.hid (by rw [← hzl, ← hzr]; exact hinf.out)
    have hfin3 : Hid (lI = false → rI = false → q = (p && p' && if zq then !lO && !rO else ls)) := Lib.hid (by rw [← hzq]; exact hfin2.out)
    have hbad2 : Hid (((lI && (!zl || lO)) || (rI && (!zr || rO))) = bad) := Lib.hid (by rw [← hzl, ← hzr]; exact hbad)
    clear hinf hfin2 hz1 hz2 hz3 hz4 hbad hzl hzr
    cases bad with
    | true =>
      have hq : Hid (q = false) := Lib.hid (gl1 hinf2.out hbad2.out)
      go_wp2_with fail
      go_ret
      exact ⟨ret_bool hq.out.symm, xE⟩
    | false =>
      go_wp2_with fail
      refine RetV_at (h1.out _) ?_
      intro w1 hx1
      replace hO := hO.keep hx1
      replace hw := hw.then hx1
      clear hx1 c1 f1 zz1
      obtain ⟨c1, f1⟩ := hO.facts
      have zz1 := hO.lt
      go_wp2_with fail
      refine RetV_at (h2.out _) ?_
      intro w2 hx2
      replace hO := hO.keep hx2
      replace hw := hw.then hx2
      clear hx2 c1 f1 zz1
      obtain ⟨c1, f1⟩ := hO.facts
      have zz1 := hO.lt
      go_upto_region 5 with (fail)
      go_cut [52] (fun v wx => v = .bool ((!lI && !p) || (!rI && !p')) ∧ wx = w2)
      case first =>
        cases lI with
        | true =>
          cases rI with
          | true => (go_wp2_with fail; go_meet; (case rel => exact ⟨by simp, rfl⟩))
          | false => cases p' <;> (go_wp2_with fail; go_meet; (case rel => exact ⟨by simp, rfl⟩))
        | false =>
          cases p with
          | false => (go_wp2_with fail; go_meet; (case rel => exact ⟨by simp, rfl⟩))
          | true =>
            cases rI with
            | true => (go_wp2_with fail; go_meet; (case rel => exact ⟨by simp, rfl⟩))
            | false => cases p' <;> (go_wp2_with fail; go_meet; (case rel => exact ⟨by simp, rfl⟩))
      case rest =>
        obtain ⟨rfl, rfl⟩ := hcut
        obtain ⟨bd, hbd⟩ : ∃ bd, ((!lI && !p) || (!rI && !p')) = bd := ⟨_, rfl⟩
        rw [hbd]
        replace hbd := Lib.hid hbd
        cases bd with
        | true =>
          have hq : Hid (q = false) := Lib.hid (gl2 hinf2.out hfin3.out hbd.out)
          go_wp2_with fail
          go_ret
          exact ⟨ret_bool hq.out.symm, xE⟩
        | false =>
          by_cases hli : (lI || rI) = true
          · have hq : Hid (q = true) := Lib.hid (gl3 hinf2.out hbad2.out hbd.out hli)
            cases lI with
            | true =>
              go_wp2_with fail
              go_ret
              exact ⟨ret_bool hq.out.symm, xE⟩
            | false =>
              obtain rfl : rI = true := by simpa using hli
              go_wp2_with fail
              go_ret
              exact ⟨ret_bool hq.out.symm, xE⟩
          · obtain ⟨rfl, rfl⟩ : lI = false ∧ rI = false := by simpa using hli
            have hpp := hbd.out
            obtain ⟨rfl, rfl⟩ : p = true ∧ p' = true := by simpa using hpp
            have hq : Hid (q = if zq then !lO && !rO else ls) := Lib.hid (by simpa using hfin3.out rfl rfl)
            clear hpp hbd hli
            cases zq with
            | true =>
              have he : a = c ∧ b = d := by simpa using hzq
              obtain ⟨rfl, rfl⟩ := he
              clear hzq h1 h2 h3 hinf2 hfin3 hbad2
              cases lO <;> (go_wp2_with fail; go_ret; exact ⟨ret_bool (by rw [hq.out]; simp), xE⟩)
            | false =>
              have h3' := h3.out (by first | trivial | rfl) (by first | trivial | rfl)
              replace h3' := Lib.hid h3'
              clear h1 h2 h3 hinf2 hfin3 hbad2
              by_cases hac : a = c
              · have hbd2 : ¬ b = d := by rintro rfl; simp [hac] at hzq
                subst hac
                have hbdb : (b == d) = false := by simpa using hbd2
                clear hzq hbd2
                go_wp2_with fail
                refine RetV_at (h3'.out _) ?_
                intro w5 hx5
                go_wp2_with fail
                go_ret
                exact ⟨ret_bool (by rw [hq.out]; rfl), xE⟩
              · have hacb : (a == c) = false := by simpa using hac
                clear hzq
                go_wp2_with fail
                refine RetV_at (h3'.out _) ?_
                intro w5 hx5
                go_wp2_with fail
                go_ret
                exact ⟨ret_bool (by rw [hq.out]; rfl), xE⟩
end Go.Proofs.YtnpnjcaomakehaaGreat
namespace Go.Proofs.YtnpnjcaomakehaaGreat
theorem goodB.smlo {x : Itv} (h : goodB x = true) (hi : x.loI = false) : smallB x.lo = true := by
  have := (goodB_iff.1 h).1
  unfold limB at this
  rwa [if_neg (by rw [hi]; simp)] at this
theorem goodB.smhi {x : Itv} (h : goodB x = true) (hi : x.hiI = false) : smallB x.hi = true := by
  have := (goodB_iff.1 h).2.1
  unfold limB at this
  rwa [if_neg (by rw [hi]; simp)] at this
end Go.Proofs.YtnpnjcaomakehaaGreat
namespace Go.Proofs.YtnpnjcaomakehaaGreat
open Go.RowKit Go.Shelf
theorem less_apart {a b : Itv} (ha : goodB a = true) (hb : goodB b = true) : lessE (hiE a) (loE b) = if a.hiI || b.loI then false else if a.hi = b.lo then a.hiO && b.loO else lessR a.hi b.lo := by
  unfold hiE loE
  cases h1 : a.hiI
  · cases h2 : b.loI
    · have s1 := goodB.smhi ha h1
      have s2 := goodB.smlo hb h2
      simp only [Bool.false_eq_true, if_false, Bool.or_false]
      unfold lessE lessR
      rw [if_neg (by simp), if_neg (by simp)]
      by_cases h : a.hi.num * b.lo.den = b.lo.num * a.hi.den
      · have he := Rat2.same (smallB_ok s1) (smallB_ok s2) h
        rw [if_neg (by simpa using h), if_pos he]; simp
      · rw [if_pos h, if_neg (fun e => h (by rw [e]))]
    · simp [lessE, botE]
  · simp only [if_true, Bool.true_or]
    cases h2 : b.loI <;> simp [lessE, topE, botE]
set_option maxRecDepth 100000 in
set_option maxHeartbeats 4000000 in
theorem apart_c (x y : Itv) (w : World) (hx : goodB x = true) (hy : goodB y = true) : Calls Tryz.prog 166 #[itA x, itA y] w (RetV w (.bool (lessE (hiE x) (loE y)))) := by
  have hs := Lib.hid (less_apart hx hy)
  have hl : (x.hiI || y.loI) = false → ∀ w, Calls Tryz.prog 180 #[raA x.hi, raA y.lo] w (RetV w (.bool (lessR x.hi y.lo))) := fun h w => by
    obtain ⟨h1, h2⟩ : x.hiI = false ∧ y.loI = false := by simpa using h
    exact rless_c x.hi y.lo w (smallB_bd (goodB.smhi hx h1)) (smallB_bd (goodB.smlo hy h2))
  generalize lessE (hiE x) (loE y) = q at *
  clear hx hy
  obtain ⟨⟨a, b⟩, ⟨c, d⟩, lO, rO, lI, rI⟩ := x
  obtain ⟨⟨a', b'⟩, ⟨c', d'⟩, lO', rO', lI', rI'⟩ := y
  unfold itA raA at *
  dsimp only at *
  generalize lessR _ _ = ls at *
  replace hl := Lib.hid hl
  have hw := (Ext.new w (.cells #[.int .i64 a, .int .i64 b, .int .i64 c, .int .i64 d, .bool lO, .bool rO, .bool lI, .bool rI] 92)).alloc' (.cells #[.int .i64 a', .int .i64 b', .int .i64 c', .int .i64 d', .bool lO', .bool rO', .bool lI', .bool rI'] 92)
  cases rI with
  | true =>
    go_enter Tryz.func166, Tryz.ntmps166
    go_wp2_with fail
    go_ret
    exact ⟨ret_bool (by rw [hs.out]; simp), hw⟩
  | false =>
    cases lI' with
    | true =>
      go_enter Tryz.func166, Tryz.ntmps166
      go_wp2_with fail
      go_ret
      exact ⟨ret_bool (by rw [hs.out]; simp), hw⟩
    | false =>
      have hl2 := hl.out (by rfl)
      by_cases h1 : c = a'
      · subst h1
        by_cases h2 : d = b'
        · subst h2
          cases rO <;>
            (go_enter Tryz.func166, Tryz.ntmps166
             go_wp2_with fail
             go_ret
             exact ⟨ret_bool (by rw [hs.out]; simp), hw⟩)
        · have hb : (d == b') = false := by simpa using h2
          replace hl2 := Lib.hid hl2
          have hs2 : Hid (q = ls) := Lib.hid (by rw [hs.out]; simp [h2])
          clear h2
          go_enter Tryz.func166, Tryz.ntmps166
          go_wp2_with fail
          refine RetV_at (hl2.out _) ?_
          intro w5 hx5
          go_wp2_with fail
          go_ret
          exact ⟨ret_bool (by rw [hs2.out]), hw.then hx5⟩
      · have hb : (c == a') = false := by simpa using h1
        replace hl2 := Lib.hid hl2
        have hs2 : Hid (q = ls) := Lib.hid (by rw [hs.out]; simp [h1])
        clear h1
        go_enter Tryz.func166, Tryz.ntmps166
        go_wp2_with fail
        refine RetV_at (hl2.out _) ?_
        intro w5 hx5
        go_wp2_with fail
        go_ret
        exact ⟨ret_bool (by rw [hs2.out]), hw.then hx5⟩
set_option maxRecDepth 100000 in
set_option maxHeartbeats 8000000 in
theorem rvalid4_c (v : Value) (l : List Itv) (w : World) (hr : ItvsR (ph w) v l) : Calls Tryz.prog 144 #[v] w (RetV w (.int .i64 (setE l))) := by
  obtain ⟨a, c, rfl, hlen, hr⟩ := hr.form
  have hE : Hid (setE l = if setF none l = false then 1 else if 32 < l.length then 4 else 0) := rfl
  go_enter Tryz.func144, Tryz.ntmps144
  go_wp2_with fail
  go_loopw [3] (fun i wr => ∃ k : Nat, k ≤ l.length ∧ i = .int .i64 k ∧ Hid (setF none l = setF (prv l k) (l.drop k) ∧ ∀ x ∈ l.take k, goodB x = true) ∧ Ext w wr) (fun i _ => l.length - (intOf i).toNat)
  case atStart => exact ⟨0, Nat.zero_le _, rfl, Lib.hid ⟨rfl, by simp⟩, Ext.rfl' _⟩
  case round =>
    obtain ⟨k, hk, rfl, ho, hx⟩ := hrel
    by_cases hlt : k < l.length
    · obtain ⟨b, o, rfl, h0, h1, h2, h3, h4, h5, h6, h7, hbl, hI⟩ := ItvsR.at (hr.mono mono_ItvR hx.ple) k hlt
      have hja : decide (k < l.length) = true := decide_eq_true hlt
      have hgood := fun w => rgood_c l[k] w
      have hg0 := fun (hg : goodB l[k] = false) => setF_good hlt hg
      have hg1 := fun (hg : goodB l[k] = true) => take_all hlt hg ho.out.2
      have hk0 := fun (h : k = 0) (hg : goodB l[k] = true) => show setF (prv l k) (l.drop k) = setF (prv l (k + 1)) (l.drop (k + 1)) by
        subst h; rw [setF_zero hlt, hg, Bool.true_and]
      have hk1 := fun (h : 0 < k) => setF_drop hlt h
      have hap := fun (h : 0 < k) (hg : goodB l[k] = true) w => apart_c (l[k - 1]'(by omega)) l[k] w (ho.out.2 _ (by rw [List.mem_take_iff_getElem]; exact ⟨k - 1, by omega, rfl⟩)) hg
      have hrow := fun (h : 0 < k) => ItvsR.at (hr.mono mono_ItvR hx.ple) (k - 1) (by omega)
      obtain ⟨y, hy⟩ : ∃ y, ∀ h : 0 < k, y = l[k - 1]'(by omega) := by
        by_cases h : 0 < k
        · exact ⟨l[k - 1]'(by omega), fun _ => rfl⟩
        · exact ⟨l[k], fun h' => absurd h' h⟩
      have hap' : ∀ (h : 0 < k) (hg : goodB l[k] = true) w, Calls Tryz.prog 166 #[itA y, itA l[k]] w (RetV w (.bool (lessE (hiE y) (loE l[k])))) := fun h hg w => by
        rw [hy h]; exact hap h hg w
      have hk1' : ∀ h : 0 < k, setF (prv l k) (l.drop k) = (goodB l[k] && lessE (hiE y) (loE l[k]) && setF (prv l (k + 1)) (l.drop (k + 1))) := fun h => by
        rw [hy h]; exact hk1 h
      have hrow' : ∀ h : 0 < k, wr.cell? ⟨b, o + (k - 1) * 8, none⟩ = some (.int .i64 y.lo.num) ∧ wr.cell? ⟨b, o + (k - 1) * 8 + 1, none⟩ = some (.int .i64 y.lo.den) ∧ wr.cell? ⟨b, o + (k - 1) * 8 + 2, none⟩ = some (.int .i64 y.hi.num) ∧ wr.cell? ⟨b, o + (k - 1) * 8 + 3, none⟩ = some (.int .i64 y.hi.den) ∧ wr.cell? ⟨b, o + (k - 1) * 8 + 4, none⟩ = some (.bool y.loO) ∧ wr.cell? ⟨b, o + (k - 1) * 8 + 5, none⟩ = some (.bool y.hiO) ∧ wr.cell? ⟨b, o + (k - 1) * 8 + 6, none⟩ = some (.bool y.loI) ∧ wr.cell? ⟨b, o + (k - 1) * 8 + 7, none⟩ = some (.bool y.hiI) := fun h => by
        obtain ⟨b', o', e, q0, q1, q2, q3, q4, q5, q6, q7, -⟩ := hrow h
        cases e
        rw [hy h]
        exact ⟨q0, q1, q2, q3, q4, q5, q6, q7⟩
      clear hap hk1 hrow hy
      generalize lessE (hiE y) (loE l[k]) = lt at *
      unfold itA at hgood hap'
      generalize goodB l[k] = gd at *
      generalize l[k] = x at *
      clear hI
      obtain ⟨⟨p, q⟩, ⟨r, s⟩, lO, rO, lI, rI⟩ := x
      obtain ⟨⟨p', q'⟩, ⟨r', s'⟩, lO', rO', lI', rI'⟩ := y
      dsimp only at *
      replace hgood := Lib.hid hgood
      replace hap' := Lib.hid hap'
      replace hk0 := Lib.hid hk0
      replace hk1' := Lib.hid hk1'
      replace hg0 := Lib.hid hg0
      replace hg1 := Lib.hid hg1
      replace hrow' := Lib.hid hrow'
      have hE1 : Hid (setF none l = false → setE l = 1) := Lib.hid fun h => by rw [hE.out, if_pos h]
      go_wp2_with fail
      refine RetV_at (hgood.out _) ?_
      intro w2 hx2
      replace hx := hx.then hx2
      replace h0 := hx2.cell1 h0
      replace h1 := hx2.cell1 h1
      replace h2 := hx2.cell1 h2
      replace h3 := hx2.cell1 h3
      replace h4 := hx2.cell1 h4
      replace h5 := hx2.cell1 h5
      replace h6 := hx2.cell1 h6
      replace h7 := hx2.cell1 h7
      replace hbl := cell_lt h0
      cases gd with
      | false =>
        have h9 : Hid (setE l = 1) := Lib.hid (hE1.out (by rw [ho.out.1]; exact hg0.out rfl))
        clear hrow' hap' hk0 hk1'
        go_wp2_with fail
        (refine wp_region_I 19 (by kernel_rfl) (by kernel_rfl) ?_; simp only [List.toList_toArray, List.take_succ_cons, List.take_zero, List.drop_succ_cons, List.drop_zero])
        iterate 3 (refine wiA rfl (by simp) rfl ?_; (try simp only [List.nil_append, List.cons_append]))
        iterate 15 (refine walkI_no rfl (by simp) rfl rfl rfl ?_ ?_; (focus (simp [undef]; done)); (try simp only [List.nil_append, List.cons_append]))
        (refine wiA rfl (by simp) rfl ?_; (try simp only [List.nil_append, List.cons_append]))
        (refine walkI_nil ?_; simp only [List.nil_append, List.cons_append, fins, Is, forall_eq, Act.put, List.setIfInBounds_toArray, List.set_cons_zero, List.set_cons_succ])
        intro w3 hx3
        go_wp2_with fail
        go_ret
        exact ⟨ret_int h9.out.symm, hx.then hx3⟩
      | true =>
        by_cases hk00 : k = 0
        · have h8 : Hid (setF none l = setF (prv l (k + 1)) (l.drop (k + 1)) ∧ ∀ x ∈ l.take (k + 1), goodB x = true) := Lib.hid ⟨by rw [ho.out.1]; exact hk0.out hk00 (by first | trivial | rfl), hg1.out (by first | trivial | rfl)⟩
          have hkb : decide (0 < k) = false := by simpa using hk00
          clear hk0 hk1' hrow' hap'
          replace hk00 := Lib.hid hk00
          go_wp2_with fail
          (refine wp_region_I 19 (by kernel_rfl) (by kernel_rfl) ?_; simp only [List.toList_toArray, List.take_succ_cons, List.take_zero, List.drop_succ_cons, List.drop_zero])
          iterate 3 (refine wiA rfl (by simp) rfl ?_; (try simp only [List.nil_append, List.cons_append]))
          iterate 3 (refine wyA rfl (by simp) rfl rfl rfl ?_; (try simp only [List.nil_append, List.cons_append]))
          iterate 11 (refine walkI_no rfl (by simp) rfl rfl rfl ?_ ?_; (focus (simp [undef]; done)); (try simp only [List.nil_append, List.cons_append]))
          (refine wyA rfl (by simp) rfl rfl rfl ?_; (try simp only [List.nil_append, List.cons_append]))
          (refine wiA rfl (by simp) rfl ?_; (try simp only [List.nil_append, List.cons_append]))
          (refine walkI_nil ?_; simp only [List.nil_append, List.cons_append, fins, Is, forall_eq, Act.put, List.setIfInBounds_toArray, List.set_cons_zero, List.set_cons_succ])
          intro w3 hx3
          go_wp2_with fail
          go_roundw
          case rel => exact ⟨k + 1, by omega, by go_num, h8.out, hx.then hx3⟩
          case measure => simp [intOf]; omega
        · have hkb : decide (0 < k) = true := by simp; omega
          have hkp : 0 < k := by omega
          have hkm : IntKind.i64.wrap ((k : Int) - 1) = ((k - 1 : Nat) : Int) := by rw [IntKind.wrap_i64]; omega
          obtain ⟨q0, q1, q2, q3, q4, q5, q6, q7⟩ := hrow'.out hkp
          replace q0 := hx2.cell1 q0
          replace q1 := hx2.cell1 q1
          replace q2 := hx2.cell1 q2
          replace q3 := hx2.cell1 q3
          replace q4 := hx2.cell1 q4
          replace q5 := hx2.cell1 q5
          replace q6 := hx2.cell1 q6
          replace q7 := hx2.cell1 q7
          have hk1m : k - 1 < l.length := by omega
          have hk1i : ((k - 1 : Nat) : Int) < (l.length : Int) := by omega
          have hc := hap'.out hkp (by first | trivial | rfl)
          replace hc := Lib.hid hc
          have hs := hk1'.out hkp
          replace hs := Lib.hid hs
          clear hrow' hk0 hap' hk1'
          go_wp2_with fail
          (refine wp_region_I 19 (by kernel_rfl) (by kernel_rfl) ?_; simp only [List.toList_toArray, List.take_succ_cons, List.take_zero, List.drop_succ_cons, List.drop_zero])
          iterate 3 (refine wiA rfl (by simp) rfl ?_; (try simp only [List.nil_append, List.cons_append]))
          iterate 12 (refine wyA rfl (by simp) rfl rfl rfl ?_; (try simp only [List.nil_append, List.cons_append]))
          (refine walkI_yesis (u := ?_) rfl (by simp) rfl rfl rfl ?_ ?_; rotate_left; (focus (intro A w' hS hA K hK; (simp only [List.map_cons, List.map_nil, knows, Is, Op.operands, Call.operands, List.lookup_cons, List.lookup_nil, Nat.reduceBEq, Bool.false_eq_true, if_false, if_true, Act.eval, Array.getD_eq_getD_getElem?, List.getElem?_toArray, List.getElem?_cons_succ, List.getElem?_cons_zero, Option.getD_some, and_true, true_and, List.append_toArray, List.nil_append, List.cons_append, List.toList_toArray, Array.toList_append, Option.toArray, List.append_nil] at hA); first | (go_simp; refine RetV_at (hc.out w') ?_; intro w6 hx6; exact hK _ hx6) | (obtain ⟨hSc, hSf, hSs⟩ := hS.cells; go_simp; exact hK _ xN))); (try simp only [List.nil_append, List.cons_append]))
          iterate 2 (refine wyA rfl (by simp) rfl rfl rfl ?_; (try simp only [List.nil_append, List.cons_append]))
          (refine wiA rfl (by simp) rfl ?_; (try simp only [List.nil_append, List.cons_append]))
          (refine walkI_nil ?_; simp only [List.nil_append, List.cons_append, fins, Is, forall_eq, Act.put, List.setIfInBounds_toArray, List.set_cons_zero, List.set_cons_succ])
          intro w3 hx3
          replace hx := hx.then hx3
          cases lt with
          | false =>
            have h9 : Hid (setE l = 1) := Lib.hid (hE1.out (by rw [ho.out.1, hs.out]; rfl))
            go_wp2_with fail
            go_ret
            exact ⟨ret_int h9.out.symm, hx⟩
          | true =>
            have h8 : Hid (setF none l = setF (prv l (k + 1)) (l.drop (k + 1)) ∧ ∀ x ∈ l.take (k + 1), goodB x = true) := Lib.hid ⟨by rw [ho.out.1, hs.out]; simp, hg1.out (by first | trivial | rfl)⟩
            clear q0 q1 q2 q3 q4 q5 q6 q7 h0 h1 h2 h3 h4 h5 h6 h7
            go_wp2_with fail
            go_roundw
            case rel => exact ⟨k + 1, by omega, by go_num, h8.out, hx⟩
            case measure => simp [intOf]; omega
    · have hja : decide (k < l.length) = false := by simpa using hlt
      have hk2 : k = l.length := by omega
      have h9 : Hid (setE l = if 32 < l.length then 4 else 0) := Lib.hid (by
        have h1 := ho.out.1
        rw [hk2, List.drop_length] at h1
        rw [hE.out, if_neg (by rw [h1]; simp [setF])])
      by_cases h32 : 32 < l.length
      · rw [if_pos h32] at h9
        go_wp2_with fail
        go_ret
        exact ⟨ret_int h9.out.symm, hx⟩
      · rw [if_neg h32] at h9
        go_wp2_with fail
        go_ret
        exact ⟨ret_int h9.out.symm, hx⟩
end Go.Proofs.YtnpnjcaomakehaaGreat
namespace Go.Proofs.YtnpnjcaomakehaaGreat
open Go.RowKit
theorem formed1_mk (op n : Int) (inn : List Itv) (kids : List Fm) : formed1 (.mk op n inn kids) = if (op ≠ 2 ∧ inn ≠ []) ∨ (op ≠ 2 ∧ op ≠ 1 ∧ n ≠ 0) then false
  else if op = 0 then kids.isEmpty
  else if op = 1 then kids.isEmpty && decide (0 ≤ n) && decide (n < 64)
  else if op = 2 then kids.isEmpty && decide (0 ≤ n) && decide (n < 32) && decide (setE inn = 0)
  else if op = 3 ∨ op = 6 then decide (kids.length = 1)
  else decide (op = 4) || decide (op = 5) := rfl
theorem emp_len {α : Type} (l : List α) : l.isEmpty = ((l.length : Int) == 0) := by
  rw [Bool.eq_iff_iff, List.isEmpty_iff, ← List.length_eq_zero_iff]; simp; 
theorem len1 {α : Type} (l : List α) : decide (l.length = 1) = ((l.length : Int) == 1) := by
  rw [Bool.eq_iff_iff]; simp; omega
set_option maxHeartbeats 1000000 in
theorem formed_c (f : Fm) (cs : List Value) (w : World) (hr : FmR (ph w) cs f) : Calls Tryz.prog 60 #[.agg cs.toArray] w (RetV w (.bool (formed1 f))) := by
  obtain ⟨a3, c3, a4, c4, rfl, -, -, hil, hkl, hi, hk⟩ := hr.form
  unfold fmC
  obtain ⟨op, n, inn, kids⟩ := f
  simp only [Fm.op, Fm.n, Fm.inn, Fm.kids] at *
  clear hr
  by_cases h2 : op = 2
  · subst h2
    by_cases hk0 : kids.length = 0
    · by_cases hn0 : 0 ≤ n
      · by_cases hn1 : n < 32
        · have hv : Hid (formed1 (.mk 2 n inn kids) = (setE inn == 0)) := by
            show _ = _
            rw [formed1_mk]
            have : kids.isEmpty = true := by rw [List.isEmpty_iff]; exact List.eq_nil_of_length_eq_zero hk0
            simp [this, hn0, hn1]
            rfl
          have hc := Lib.hid hi
          clear hi hk
          have b1 : decide (0 ≤ n) = true := by simpa using hn0
          have b2 : decide (n < 32) = true := by simpa using hn1
          have b3 : ((kids.length : Int) == 0) = true := by simpa using hk0
          go_enter Tryz.func60, Tryz.ntmps60
          go_wp2_with fail
          refine RetV_at (valid_c _ inn _ (hc.out.mono mono_ItvR (Ext.ple xE))) ?_
          intro w1 hx1
          generalize setE inn = e at *
          go_wp2_with fail
          go_ret
          exact ⟨ret_bool hv.out.symm, xE⟩
        · have hv : Hid (formed1 (.mk 2 n inn kids) = false) := by
            show _ = _
            rw [formed1_mk]
            simp [hn1]
          have b1 : decide (0 ≤ n) = true := by simpa using hn0
          have b2 : decide (n < 32) = false := by simpa using hn1
          have b3 : ((kids.length : Int) == 0) = true := by simpa using hk0
          clear hi hk
          go_enter Tryz.func60, Tryz.ntmps60
          go_wp2_with fail
          go_ret
          exact ⟨ret_bool hv.out.symm, xE⟩
      · have hv : Hid (formed1 (.mk 2 n inn kids) = false) := by
          show _ = _
          rw [formed1_mk]
          simp [hn0]
        have b1 : decide (0 ≤ n) = false := by simpa using hn0
        have b3 : ((kids.length : Int) == 0) = true := by simpa using hk0
        clear hi hk
        go_enter Tryz.func60, Tryz.ntmps60
        go_wp2_with fail
        go_ret
        exact ⟨ret_bool hv.out.symm, xE⟩
    · have hv : Hid (formed1 (.mk 2 n inn kids) = false) := by
        show _ = _
        rw [formed1_mk]
        have : kids.isEmpty = false := by cases kids <;> simp_all
        simp [this]
      have b3 : ((kids.length : Int) == 0) = false := by simpa using hk0
      clear hi hk
      go_enter Tryz.func60, Tryz.ntmps60
      go_wp2_with fail
      go_ret
      exact ⟨ret_bool hv.out.symm, xE⟩
  have a2 : (op == 2) = false := by simpa using h2
  have c2' : (op != 2) = true := by simpa using h2
  by_cases hin : 0 < inn.length
  · have hv : Hid (formed1 (.mk op n inn kids) = false) := by
      show _ = _
      rw [formed1_mk]
      have : inn ≠ [] := by intro e; subst e; simp at hin
      simp [h2, this]
    have b1 : decide (0 < (inn.length : Int)) = true := by simpa using hin
    clear hi hk
    go_enter Tryz.func60, Tryz.ntmps60
    go_wp2_with fail
    go_ret
    exact ⟨ret_bool hv.out.symm, xE⟩
  have hin' : inn = [] := List.eq_nil_of_length_eq_zero (by omega)
  subst hin'
  have b1 : decide (0 < (([] : List Itv).length : Int)) = false := by simp
  by_cases h1 : op = 1
  · subst h1
    by_cases hk0 : kids.length = 0
    · have b3 : ((kids.length : Int) == 0) = true := by simpa using hk0
      by_cases hn0 : 0 ≤ n
      · have hv : Hid (formed1 (.mk 1 n [] kids) = decide (n < 64)) := by
          show _ = _
          rw [formed1_mk]
          have : kids.isEmpty = true := by rw [List.isEmpty_iff]; exact List.eq_nil_of_length_eq_zero hk0
          simp [this, hn0]
        have b2 : decide (0 ≤ n) = true := by simpa using hn0
        clear hi hk
        go_enter Tryz.func60, Tryz.ntmps60
        go_wp2_with fail
        go_ret
        exact ⟨ret_bool hv.out.symm, xE⟩
      · have hv : Hid (formed1 (.mk 1 n [] kids) = false) := by
          show _ = _
          rw [formed1_mk]
          simp [hn0]
        have b2 : decide (0 ≤ n) = false := by simpa using hn0
        clear hi hk
        go_enter Tryz.func60, Tryz.ntmps60
        go_wp2_with fail
        go_ret
        exact ⟨ret_bool hv.out.symm, xE⟩
    · have hv : Hid (formed1 (.mk 1 n [] kids) = false) := by
        show _ = _
        rw [formed1_mk]
        have : kids.isEmpty = false := by cases kids <;> simp_all
        simp [this]
      have b3 : ((kids.length : Int) == 0) = false := by simpa using hk0
      clear hi hk
      go_enter Tryz.func60, Tryz.ntmps60
      go_wp2_with fail
      go_ret
      exact ⟨ret_bool hv.out.symm, xE⟩
  have a1 : (op == 1) = false := by simpa using h1
  have c1' : (op != 1) = true := by simpa using h1
  by_cases hn : n = 0
  · subst hn
    clear hi hk
    by_cases h0 : op = 0
    · subst h0
      have hv : Hid (formed1 (.mk 0 0 [] kids) = ((kids.length : Int) == 0)) := by show _ = _; rw [formed1_mk, ← emp_len]; simp
      go_enter Tryz.func60, Tryz.ntmps60
      go_wp2_with fail
      go_ret
      exact ⟨ret_bool hv.out.symm, xE⟩
    have a0 : (op == 0) = false := by simpa using h0
    by_cases h3 : op = 3
    · subst h3
      have hv : Hid (formed1 (.mk 3 0 [] kids) = ((kids.length : Int) == 1)) := by show _ = _; rw [formed1_mk, ← len1]; simp
      go_enter Tryz.func60, Tryz.ntmps60
      go_wp2_with fail
      go_ret
      exact ⟨ret_bool hv.out.symm, xE⟩
    have a3' : (op == 3) = false := by simpa using h3
    by_cases h6 : op = 6
    · subst h6
      have hv : Hid (formed1 (.mk 6 0 [] kids) = ((kids.length : Int) == 1)) := by show _ = _; rw [formed1_mk, ← len1]; simp
      go_enter Tryz.func60, Tryz.ntmps60
      go_wp2_with fail
      go_ret
      exact ⟨ret_bool hv.out.symm, xE⟩
    have a6 : (op == 6) = false := by simpa using h6
    by_cases h4 : op = 4
    · subst h4
      have hv : Hid (formed1 (.mk 4 0 [] kids) = true) := by show _ = _; rw [formed1_mk]; simp
      go_enter Tryz.func60, Tryz.ntmps60
      go_wp2_with fail
      go_ret
      exact ⟨ret_bool hv.out.symm, xE⟩
    have a4' : (op == 4) = false := by simpa using h4
    have hv : Hid (formed1 (.mk op 0 [] kids) = (op == 5)) := by show _ = _; rw [formed1_mk, if_neg (by simp), if_neg h0, if_neg h1, if_neg h2, if_neg (by omega), decide_eq_false h4, Bool.false_or, Bool.eq_iff_iff]; simp
    go_enter Tryz.func60, Tryz.ntmps60
    go_wp2_with fail
    go_ret
    exact ⟨ret_bool hv.out.symm, xE⟩
  · have hv : Hid (formed1 (.mk op n [] kids) = false) := by
      show _ = _
      rw [formed1_mk]
      simp [h2, h1, hn]
    have b2 : (n == 0) = false := by simpa using hn
    have b4 : (n != 0) = true := by simpa using hn
    clear hi hk
    go_enter Tryz.func60, Tryz.ntmps60
    go_wp2_with fail
    go_ret
    exact ⟨ret_bool hv.out.symm, xE⟩
set_option maxHeartbeats 1000000 in
theorem rformed_c (f : Fm) (cs : List Value) (w : World) (hr : FmR (ph w) cs f) : Calls Tryz.prog 115 #[.agg cs.toArray] w (RetV w (.bool (formed1 f))) := by
  obtain ⟨a3, c3, a4, c4, rfl, -, -, hil, hkl, hi, hk⟩ := hr.form
  unfold fmC
  obtain ⟨op, n, inn, kids⟩ := f
  simp only [Fm.op, Fm.n, Fm.inn, Fm.kids] at *
  clear hr
  by_cases h2 : op = 2
  · subst h2
    by_cases hk0 : kids.length = 0
    · by_cases hn0 : 0 ≤ n
      · by_cases hn1 : n < 32
        · have hv : Hid (formed1 (.mk 2 n inn kids) = (setE inn == 0)) := by
            show _ = _
            rw [formed1_mk]
            have : kids.isEmpty = true := by rw [List.isEmpty_iff]; exact List.eq_nil_of_length_eq_zero hk0
            simp [this, hn0, hn1]
            rfl
          have hc := Lib.hid hi
          clear hi hk
          have b1 : decide (0 ≤ n) = true := by simpa using hn0
          have b2 : decide (n < 32) = true := by simpa using hn1
          have b3 : ((kids.length : Int) == 0) = true := by simpa using hk0
          go_enter Tryz.func115, Tryz.ntmps115
          go_wp2_with fail
          refine RetV_at (rvalid4_c _ inn _ (hc.out.mono mono_ItvR (Ext.ple xE))) ?_
          intro w1 hx1
          generalize setE inn = e at *
          go_wp2_with fail
          go_ret
          exact ⟨ret_bool hv.out.symm, xE⟩
        · have hv : Hid (formed1 (.mk 2 n inn kids) = false) := by
            show _ = _
            rw [formed1_mk]
            simp [hn1]
          have b1 : decide (0 ≤ n) = true := by simpa using hn0
          have b2 : decide (n < 32) = false := by simpa using hn1
          have b3 : ((kids.length : Int) == 0) = true := by simpa using hk0
          clear hi hk
          go_enter Tryz.func115, Tryz.ntmps115
          go_wp2_with fail
          go_ret
          exact ⟨ret_bool hv.out.symm, xE⟩
      · have hv : Hid (formed1 (.mk 2 n inn kids) = false) := by
          show _ = _
          rw [formed1_mk]
          simp [hn0]
        have b1 : decide (0 ≤ n) = false := by simpa using hn0
        have b3 : ((kids.length : Int) == 0) = true := by simpa using hk0
        clear hi hk
        go_enter Tryz.func115, Tryz.ntmps115
        go_wp2_with fail
        go_ret
        exact ⟨ret_bool hv.out.symm, xE⟩
    · have hv : Hid (formed1 (.mk 2 n inn kids) = false) := by
        show _ = _
        rw [formed1_mk]
        have : kids.isEmpty = false := by cases kids <;> simp_all
        simp [this]
      have b3 : ((kids.length : Int) == 0) = false := by simpa using hk0
      clear hi hk
      go_enter Tryz.func115, Tryz.ntmps115
      go_wp2_with fail
      go_ret
      exact ⟨ret_bool hv.out.symm, xE⟩
  have a2 : (op == 2) = false := by simpa using h2
  have c2' : (op != 2) = true := by simpa using h2
  by_cases hin : 0 < inn.length
  · have hv : Hid (formed1 (.mk op n inn kids) = false) := by
      show _ = _
      rw [formed1_mk]
      have : inn ≠ [] := by intro e; subst e; simp at hin
      simp [h2, this]
    have b1 : decide (0 < (inn.length : Int)) = true := by simpa using hin
    clear hi hk
    go_enter Tryz.func115, Tryz.ntmps115
    go_wp2_with fail
    go_ret
    exact ⟨ret_bool hv.out.symm, xE⟩
  have hin' : inn = [] := List.eq_nil_of_length_eq_zero (by omega)
  subst hin'
  have b1 : decide (0 < (([] : List Itv).length : Int)) = false := by simp
  by_cases h1 : op = 1
  · subst h1
    by_cases hk0 : kids.length = 0
    · have b3 : ((kids.length : Int) == 0) = true := by simpa using hk0
      by_cases hn0 : 0 ≤ n
      · have hv : Hid (formed1 (.mk 1 n [] kids) = decide (n < 64)) := by
          show _ = _
          rw [formed1_mk]
          have : kids.isEmpty = true := by rw [List.isEmpty_iff]; exact List.eq_nil_of_length_eq_zero hk0
          simp [this, hn0]
        have b2 : decide (0 ≤ n) = true := by simpa using hn0
        clear hi hk
        go_enter Tryz.func115, Tryz.ntmps115
        go_wp2_with fail
        go_ret
        exact ⟨ret_bool hv.out.symm, xE⟩
      · have hv : Hid (formed1 (.mk 1 n [] kids) = false) := by
          show _ = _
          rw [formed1_mk]
          simp [hn0]
        have b2 : decide (0 ≤ n) = false := by simpa using hn0
        clear hi hk
        go_enter Tryz.func115, Tryz.ntmps115
        go_wp2_with fail
        go_ret
        exact ⟨ret_bool hv.out.symm, xE⟩
    · have hv : Hid (formed1 (.mk 1 n [] kids) = false) := by
        show _ = _
        rw [formed1_mk]
        have : kids.isEmpty = false := by cases kids <;> simp_all
        simp [this]
      have b3 : ((kids.length : Int) == 0) = false := by simpa using hk0
      clear hi hk
      go_enter Tryz.func115, Tryz.ntmps115
      go_wp2_with fail
      go_ret
      exact ⟨ret_bool hv.out.symm, xE⟩
  have a1 : (op == 1) = false := by simpa using h1
  have c1' : (op != 1) = true := by simpa using h1
  by_cases hn : n = 0
  · subst hn
    clear hi hk
    by_cases h0 : op = 0
    · subst h0
      have hv : Hid (formed1 (.mk 0 0 [] kids) = ((kids.length : Int) == 0)) := by show _ = _; rw [formed1_mk, ← emp_len]; simp
      go_enter Tryz.func115, Tryz.ntmps115
      go_wp2_with fail
      go_ret
      exact ⟨ret_bool hv.out.symm, xE⟩
    have a0 : (op == 0) = false := by simpa using h0
    by_cases h3 : op = 3
    · subst h3
      have hv : Hid (formed1 (.mk 3 0 [] kids) = ((kids.length : Int) == 1)) := by show _ = _; rw [formed1_mk, ← len1]; simp
      go_enter Tryz.func115, Tryz.ntmps115
      go_wp2_with fail
      go_ret
      exact ⟨ret_bool hv.out.symm, xE⟩
    have a3' : (op == 3) = false := by simpa using h3
    by_cases h6 : op = 6
    · subst h6
      have hv : Hid (formed1 (.mk 6 0 [] kids) = ((kids.length : Int) == 1)) := by show _ = _; rw [formed1_mk, ← len1]; simp
      go_enter Tryz.func115, Tryz.ntmps115
      go_wp2_with fail
      go_ret
      exact ⟨ret_bool hv.out.symm, xE⟩
    have a6 : (op == 6) = false := by simpa using h6
    by_cases h4 : op = 4
    · subst h4
      have hv : Hid (formed1 (.mk 4 0 [] kids) = true) := by show _ = _; rw [formed1_mk]; simp
      go_enter Tryz.func115, Tryz.ntmps115
      go_wp2_with fail
      go_ret
      exact ⟨ret_bool hv.out.symm, xE⟩
    have a4' : (op == 4) = false := by simpa using h4
    have hv : Hid (formed1 (.mk op 0 [] kids) = (op == 5)) := by show _ = _; rw [formed1_mk, if_neg (by simp), if_neg h0, if_neg h1, if_neg h2, if_neg (by omega), decide_eq_false h4, Bool.false_or, Bool.eq_iff_iff]; simp
    go_enter Tryz.func115, Tryz.ntmps115
    go_wp2_with fail
    go_ret
    exact ⟨ret_bool hv.out.symm, xE⟩
  · have hv : Hid (formed1 (.mk op n [] kids) = false) := by
      show _ = _
      rw [formed1_mk]
      simp [h2, h1, hn]
    have b2 : (n == 0) = false := by simpa using hn
    have b4 : (n != 0) = true := by simpa using hn
    clear hi hk
    go_enter Tryz.func115, Tryz.ntmps115
    go_wp2_with fail
    go_ret
    exact ⟨ret_bool hv.out.symm, xE⟩
set_option maxHeartbeats 400000 in
theorem fdeep_c (f : Fm) : ∀ (cs : List Value) (w : World), FmR (ph w) cs f → f.deep < 1000000 →
    Calls Tryz.prog 59 #[.agg cs.toArray] w (RetV w (.int .i64 f.deep)) := by
  induction f using Fm.ind with
  | h f ih =>
    intro cs w hr hs
    obtain ⟨a3, c3, a4, c4, rfl, -, -, -, hlen, -, hp⟩ := hr.form
    unfold fmC
    rw [Fm.deep_eq] at hs
    go_enter Tryz.func59, Tryz.ntmps59
    go_wp2
    go_loopw [3, 9] (fun n i wr => ∃ k : Nat, k ≤ f.kids.length ∧ i = .int .i64 k ∧ n = .int .i64 (maxN Fm.deep (f.kids.take k) : Nat) ∧ Ext w wr) (fun _ i _ => f.kids.length - (intOf i).toNat)
    case atStart => exact ⟨0, Nat.zero_le _, rfl, by simp [maxN], xE⟩
    case round =>
      obtain ⟨k, hk, rfl, rfl, hb⟩ := hrel
      skip
      have hst := maxN_take_le Fm.deep f.kids k
      by_cases hlt : k < f.kids.length
      · have hp' := hp.mono mono_FmR hb.ple
        obtain ⟨b, o, b3, d3, b4, d4, rfl, h0, h1, h2, h3, hE, hbl⟩ := FmsR.at hp' k hlt
        unfold fmC at hE
        have H3 := Lib.hid (maxN_take Fm.deep f.kids k hlt)
        have hst2 := maxN_take_le Fm.deep f.kids (k+1)
        rw [H3.out] at hst2
        have H := Lib.hid ih
        clear ih hp hp'
        go_wp2_with fail
        refine (H.out _ (by simp) _ _ (mono_FmR _ _ _ _ (Ext.ple xE) hE) (by omega)).mono ?_
        rintro e w1 ⟨rfl, hb1⟩
        go_wp2_with fail
        go_roundw
        case rel => exact ⟨k + 1, by omega, by go_num, by rw [H3.out]; go_num, xE⟩
        case measure => simp [intOf]; omega
      · have hst2 : f.kids.take k = f.kids := List.take_of_length_le (by omega)
        have H3 := Lib.hid hst2
        clear hst2 ih hp
        go_wp2_with fail
        go_ret
        refine ⟨ret_int ?_, hb⟩
        rw [H3.out, Fm.deep_eq]; omega
set_option maxHeartbeats 400000 in
theorem rfsize_c (f : Fm) : ∀ (cs : List Value) (w : World), FmR (ph w) cs f → f.size < 1000000 →
    Calls Tryz.prog 87 #[.agg cs.toArray] w (RetV w (.int .i64 f.size)) := by
  induction f using Fm.ind with
  | h f ih =>
    intro cs w hr hs
    obtain ⟨a3, c3, a4, c4, rfl, -, -, -, hlen, -, hp⟩ := hr.form
    unfold fmC
    rw [Fm.size_eq] at hs
    go_enter Tryz.func87, Tryz.ntmps87
    go_wp2
    go_loopw [3, 4] (fun n i wr => ∃ k : Nat, k ≤ f.kids.length ∧ i = .int .i64 k ∧ n = .int .i64 (1 + sumN Fm.size (f.kids.take k) : Nat) ∧ Own wr w.heap.size #[.int .i64 f.op, .int .i64 f.n, .slice a3 f.inn.length c3, .slice a4 f.kids.length c4] 50 ∧ Ext w wr) (fun _ i _ => f.kids.length - (intOf i).toNat)
    case atStart => exact ⟨0, Nat.zero_le _, rfl, by simp [sumN], oE, xE⟩
    case round =>
      obtain ⟨k, hk, rfl, rfl, ho, hb⟩ := hrel
      obtain ⟨hoc, hof⟩ := ho.facts
      have hst := sumN_take_le Fm.size f.kids k
      by_cases hlt : k < f.kids.length
      · have hp' := hp.mono mono_FmR hb.ple
        obtain ⟨b, o, b3, d3, b4, d4, rfl, h0, h1, h2, h3, hE, hbl⟩ := FmsR.at hp' k hlt
        unfold fmC at hE
        have H3 := Lib.hid (sumN_take Fm.size f.kids k hlt)
        have hst2 := sumN_take_le Fm.size f.kids (k+1)
        rw [H3.out] at hst2
        have H := Lib.hid ih
        clear ih hp hp'
        go_wp2_with fail
        refine (H.out _ (by simp) _ _ (mono_FmR _ _ _ _ (Ext.ple xE) hE) (by omega)).mono ?_
        rintro e w1 ⟨rfl, hb1⟩
        go_wp2_with fail
        go_roundw
        case rel => exact ⟨k + 1, by omega, by go_num, by rw [H3.out]; go_num, oE, xE⟩
        case measure => simp [intOf]; omega
      · have hst2 : f.kids.take k = f.kids := List.take_of_length_le (by omega)
        have H3 := Lib.hid hst2
        clear hst2 ih hp
        go_wp2_with fail
        go_ret
        refine ⟨ret_int ?_, hb⟩
        rw [H3.out, Fm.size_eq]
set_option maxHeartbeats 400000 in
theorem rfdeep_c (f : Fm) : ∀ (cs : List Value) (w : World), FmR (ph w) cs f → f.deep < 1000000 →
    Calls Tryz.prog 88 #[.agg cs.toArray] w (RetV w (.int .i64 f.deep)) := by
  induction f using Fm.ind with
  | h f ih =>
    intro cs w hr hs
    obtain ⟨a3, c3, a4, c4, rfl, -, -, -, hlen, -, hp⟩ := hr.form
    unfold fmC
    rw [Fm.deep_eq] at hs
    go_enter Tryz.func88, Tryz.ntmps88
    go_wp2
    go_loopw [3, 4] (fun n i wr => ∃ k : Nat, k ≤ f.kids.length ∧ i = .int .i64 k ∧ n = .int .i64 (maxN Fm.deep (f.kids.take k) : Nat) ∧ Own wr w.heap.size #[.int .i64 f.op, .int .i64 f.n, .slice a3 f.inn.length c3, .slice a4 f.kids.length c4] 50 ∧ Ext w wr) (fun _ i _ => f.kids.length - (intOf i).toNat)
    case atStart => exact ⟨0, Nat.zero_le _, rfl, by simp [maxN], oE, xE⟩
    case round =>
      obtain ⟨k, hk, rfl, rfl, ho, hb⟩ := hrel
      obtain ⟨hoc, hof⟩ := ho.facts
      have hst := maxN_take_le Fm.deep f.kids k
      by_cases hlt : k < f.kids.length
      · have hp' := hp.mono mono_FmR hb.ple
        obtain ⟨b, o, b3, d3, b4, d4, rfl, h0, h1, h2, h3, hE, hbl⟩ := FmsR.at hp' k hlt
        unfold fmC at hE
        have H3 := Lib.hid (maxN_take Fm.deep f.kids k hlt)
        have hst2 := maxN_take_le Fm.deep f.kids (k+1)
        rw [H3.out] at hst2
        have H := Lib.hid ih
        clear ih hp hp'
        go_wp2_with fail
        refine (H.out _ (by simp) _ _ (mono_FmR _ _ _ _ (Ext.ple xE) hE) (by omega)).mono ?_
        rintro e w1 ⟨rfl, hb1⟩
        go_wp2_with fail
        go_roundw
        case rel => exact ⟨k + 1, by omega, by go_num, by rw [H3.out]; go_num, oE, xE⟩
        case measure => simp [intOf]; omega
      · have hst2 : f.kids.take k = f.kids := List.take_of_length_le (by omega)
        have H3 := Lib.hid hst2
        clear hst2 ih hp
        go_wp2_with fail
        go_ret
        refine ⟨ret_int ?_, hb⟩
        rw [H3.out, Fm.deep_eq]; omega
end Go.Proofs.YtnpnjcaomakehaaGreat
namespace Go.Proofs.YtnpnjcaomakehaaGreat
open Go.RowKit Go.Shelf
attribute [local go_sem] Oper.semAt_some
theorem FmsR.atH {H : PH} {w : World} {a : Option Addr} {n cap : Nat} {xs : List Fm} (hr : FmsR H (.slice a n cap) xs) (hl : PLe H (ph w)) (k : Nat) (hk : k < xs.length) :
    ∃ b o a3 c3 a4 c4, a = some ⟨b, o, none⟩ ∧ w.cell? ⟨b, o + k * 4, none⟩ = some (.int .i64 xs[k].op) ∧ w.cell? ⟨b, o + k * 4 + 1, none⟩ = some (.int .i64 xs[k].n) ∧
      w.cell? ⟨b, o + k * 4 + 2, none⟩ = some (.slice a3 xs[k].inn.length c3) ∧ w.cell? ⟨b, o + k * 4 + 3, none⟩ = some (.slice a4 xs[k].kids.length c4) ∧
      FmR H (fmC xs[k] a3 c3 a4 c4) xs[k] ∧ b < w.heap.size := by
  obtain ⟨b, o, cs, h1, h2, h3, h4⟩ := hr.get k hk
  obtain ⟨a3, c3, a4, c4, rfl, -⟩ := h4.form
  have h : ∀ j, j < 4 → w.cell? ⟨b, o + k * 4 + j, none⟩ = some ((fmC xs[k] a3 c3 a4 c4).getD j undef) := fun j hj => by rw [cell_ph]; exact cellAt_mono hl (h3 j hj)
  exact ⟨b, o, a3, c3, a4, c4, h1, h 0 (by omega), h 1 (by omega), h 2 (by omega), h 3 (by omega), h4, cell_lt (h 0 (by omega))⟩
theorem indexFunc_J {H : PH} (fid : Nat) (cap : Array Value) (vs : Value) (xs : List Fm) (hv : FmsR H vs xs) (R : Nat → World → Prop) (Rx : World → Prop) (w : World)
    (hfn : ∀ args w, (callFunc fid args).run Tryz.prog w = .ok (.enter fid args) w)
    (hf : ∀ k (h : k < xs.length) wr cs, R k wr → FmR H cs xs[k] → Calls Tryz.prog fid (#[.agg cs.toArray] ++ cap) wr fun e w' => (e = .returned (.bool false) ∧ R (k + 1) w') ∨ (e = .returned (.bool true) ∧ Rx w'))
    (hr : ∀ k wr, R k wr → PLe H (ph wr)) (h0 : R 0 w) :
    Calls Tryz.prog 114 #[vs, .func (.func fid) #[] cap] w fun e w' => (e = .returned (.int .i64 (-1)) ∧ R xs.length w') ∨ (∃ i : Int, 0 ≤ i ∧ e = .returned (.int .i64 i) ∧ Rx w') := by
  obtain ⟨a, c, rfl, hlen, hv⟩ := hv.form
  have HF := Lib.hid hf; clear hf
  have HR := Lib.hid hr; clear hr
  go_enter Tryz.func114, Tryz.ntmps114
  go_wp2
  go_loopw [8] (fun i wr => ∃ k : Nat, k ≤ xs.length ∧ i = .int .i64 k ∧ R k wr) (fun i _ => xs.length - (intOf i).toNat)
  case atStart => exact ⟨0, Nat.zero_le _, rfl, h0⟩
  case round =>
    obtain ⟨k, hk, rfl, hR⟩ := hrel
    by_cases hlt : k < xs.length
    · obtain ⟨b, o, b3, d3, b4, d4, rfl, g0, g1, g2, g3, hE, hbl⟩ := FmsR.atH hv (HR.out _ _ hR) k hlt
      unfold fmC at hE
      go_wp2_with fail
      refine (HF.out k hlt _ _ hR hE).mono ?_
      rintro e w1 (⟨rfl, h1⟩ | ⟨rfl, h1⟩)
      · go_wp2_with fail
        go_roundw
        case rel => exact ⟨k + 1, by omega, by go_num, h1⟩
        case measure => simp [intOf]; omega
      · go_wp2_with fail
        go_ret
        exact .inr ⟨_, by omega, rfl, h1⟩
    · obtain rfl : k = xs.length := by omega
      go_wp2_with fail
      go_ret
      exact .inl ⟨rfl, hR⟩
theorem containsFunc_J {H : PH} (fid : Nat) (cap : Array Value) (vs : Value) (xs : List Fm) (hv : FmsR H vs xs) (R : Nat → World → Prop) (Rx : World → Prop) (w : World)
    (hfn : ∀ args w, (callFunc fid args).run Tryz.prog w = .ok (.enter fid args) w)
    (hf : ∀ k (h : k < xs.length) wr cs, R k wr → FmR H cs xs[k] → Calls Tryz.prog fid (#[.agg cs.toArray] ++ cap) wr fun e w' => (e = .returned (.bool false) ∧ R (k + 1) w') ∨ (e = .returned (.bool true) ∧ Rx w'))
    (hr : ∀ k wr, R k wr → PLe H (ph wr)) (h0 : R 0 w) :
    Calls Tryz.prog 85 #[vs, .func (.func fid) #[] cap] w fun e w' => (e = .returned (.bool false) ∧ R xs.length w') ∨ (e = .returned (.bool true) ∧ Rx w') := by
  have HF := Lib.hid hf; clear hf
  have HR := Lib.hid hr; clear hr
  have HFN := Lib.hid hfn; clear hfn
  go_enter Tryz.func85, Tryz.ntmps85
  go_wp2_with fail
  refine (indexFunc_J fid cap vs xs hv R Rx _ HFN.out HF.out HR.out h0).mono ?_
  rintro e w1 (⟨rfl, h1⟩ | ⟨i, hi, rfl, h1⟩)
  · go_wp2_with fail
    go_ret
    exact .inl ⟨rfl, h1⟩
  · go_wp2_with fail
    go_ret
    exact .inr ⟨rfl, h1⟩
/-! what a round keeps: the body's own box Bo and the row that it leads to may turn -/
def XB (Bo : Nat) (W : World) (b : Nat) : Prop := b = Bo ∨ ∃ j v, W.cell? ⟨Bo, j, none⟩ = some v ∧ v.ownBlock = some b
def Good (Bo : Nat) (W : World) : Prop := Bo < W.heap.size ∧ ∀ b, XB Bo W b → b < W.heap.size
def Kx (n₀ Bo : Nat) (W W' : World) : Prop := Below n₀ W W' ∧ W.heap.size ≤ W'.heap.size ∧ (∀ b c T, Own W b c T → ¬XB Bo W b → Own W' b c T) ∧ ∀ b, XB Bo W' b → XB Bo W b ∨ (W.heap.size ≤ b ∧ b < W'.heap.size)
section
variable {n₀ Bo : Nat} {A B C W W' : World}
theorem Kx.rfl' (n₀ Bo : Nat) (W : World) : Kx n₀ Bo W W := ⟨Below.refl _ _, Nat.le_refl _, fun _ _ _ h _ => h, fun _ h => .inl h⟩
theorem Kx.then (h : Kx n₀ Bo A B) (k : Kx n₀ Bo B C) : Kx n₀ Bo A C := by
  refine ⟨h.1.trans k.1, Nat.le_trans h.2.1 k.2.1, fun b c T hb hx => ?_, fun b hb => ?_⟩
  · have hlt := hb.lt
    refine k.2.2.1 b c T (h.2.2.1 b c T hb hx) fun hx' => ?_
    rcases h.2.2.2 b hx' with h1 | h1
    · exact hx h1
    · omega
  · have := h.2.1; have := k.2.1
    rcases k.2.2.2 b hb with h1 | h1
    · rcases h.2.2.2 b h1 with h2 | h2
      · exact .inl h2
      · exact .inr (by omega)
    · exact .inr (by omega)
theorem Good.kx (h : Good Bo W) (k : Kx n₀ Bo W W') : Good Bo W' := by
  refine ⟨Nat.lt_of_lt_of_le h.1 k.2.1, fun b hb => ?_⟩
  rcases k.2.2.2 b hb with h1 | h1
  · exact Nat.lt_of_lt_of_le (h.2 b h1) k.2.1
  · exact h1.2
theorem XB.ext (h : Ext W W') (hB : Bo < W.heap.size) {b : Nat} : XB Bo W' b ↔ XB Bo W b := by
  unfold XB
  have e : ∀ j, W'.cell? ⟨Bo, j, none⟩ = W.cell? ⟨Bo, j, none⟩ := fun j => h.cells.1 Bo j hB
  simp only [e]
theorem Kx.ext (h : Ext W W') (hB : Bo < W.heap.size) (hn : n₀ ≤ W.heap.size) : Kx n₀ Bo W W' :=
  ⟨h.mono hn, h.size, fun b c T ho _ => ho.keep h, fun b hb => .inl ((XB.ext h hB).1 hb)⟩
def Held (Bo : Nat) (W : World) (b : Nat) (c : Array Value) (T : TypeId) : Prop := Own W b c T ∧ ¬XB Bo W b
theorem Held.kx {b : Nat} {c : Array Value} {T : TypeId} (h : Held Bo W b c T) (k : Kx n₀ Bo W W') : Held Bo W' b c T := by
  refine ⟨k.2.2.1 b c T h.1 h.2, fun hx => ?_⟩
  have hlt := h.1.lt
  rcases k.2.2.2 b hx with h1 | h1
  · exact h.2 h1
  · omega
theorem Held.new (hg : Good Bo W) {b : Nat} {c : Array Value} {T : TypeId} (e : Ext W W') (hb : W.heap.size ≤ b) (ho : Own W' b c T) : Held Bo W' b c T := by
  refine ⟨ho, fun hx => ?_⟩
  have := hg.2 b ((XB.ext e hg.1).1 hx)
  omega
theorem Good.ext (h : Good Bo W) (e : Ext W W') : Good Bo W' := h.kx (Kx.ext (n₀ := 0) e h.1 (Nat.zero_le _))
theorem Kx.put {w : World} (hn : n₀ ≤ w.heap.size) (hB : Bo < w.heap.size) (W : World) (l : Nat) (o o' : Obj) (hl : w.heap.size ≤ l) (h : W.heap[l]? = some o) (h1 : o.isCells = false) (h2 : o.isWalk = false) : Kx n₀ Bo W (W.putObj l o') := by
  have hb := belowK_b (w := w) (n₀ := w.heap.size) (Nat.le_refl _) W l o o' hl h h1 h2
  have e : ∀ j, (W.putObj l o').cell? ⟨Bo, j, none⟩ = W.cell? ⟨Bo, j, none⟩ := fun j => hb.cell (p := ⟨Bo, j, none⟩) hB
  refine ⟨hb.mono hn, hb.size, fun b c T ho _ => ?_, fun b hx => .inl ?_⟩
  · unfold Own at *
    have hne : b ≠ l := by rintro rfl; rw [h] at ho; cases ho; cases h1
    rw [World.putObj_heap_other hne]; exact ho
  · unfold XB at *
    simpa only [e] using hx
end
abbrev FmA (H : PH) := { p : List Value × Fm // FmR H p.1 p.2 }
def FmA.f {H : PH} (x : FmA H) : Fm := x.1.2
def fmsOf {H : PH} (l : List (FmA H)) : List Fm := l.map FmA.f
theorem fmsOf_app {H : PH} (l m : List (FmA H)) : fmsOf (l ++ m) = fmsOf l ++ fmsOf m := List.map_append
theorem fmsOf_len {H : PH} (l : List (FmA H)) : (fmsOf l).length = l.length := List.length_map _
def ItP {H : PH} (tot : List Fm) (pre : List (FmA H)) (l : List Fm) (J Jx : List (FmA H) → World → Prop) (n₀ Bo : Nat) (W : World) (e : Ending) (W' : World) : Prop :=
  (e = .returned (.bool true) ∧ ∃ ys, fmsOf ys = l ∧ J (pre ++ ys) W' ∧ Kx n₀ Bo W W') ∨ (e = .returned (.bool false) ∧ ∃ p, fmsOf p <+: tot ∧ Jx p W')
def YieldOk {H : PH} (n l N n₀ Bo : Nat) (J Jx : List (FmA H) → World → Prop) : Prop :=
  ∀ pre x W, J pre W → pre.length < N → YieldAt Fence.wide (n - 1) Tryz.prog l #[.agg x.1.1.toArray] W fun e W' =>
      (e = .returned (.bool true) ∧ J (pre ++ [x]) W' ∧ Kx n₀ Bo W W') ∨ (e = .returned (.bool false) ∧ Jx (pre ++ [x]) W')
end Go.Proofs.YtnpnjcaomakehaaGreat
namespace Go.Proofs.YtnpnjcaomakehaaGreat
open Go.RowKit Go.Shelf
attribute [local go_sem] Oper.semAt_some
theorem nodes_p (f : Fm) (cs : List Value) (w : World) (hr : FmR (ph w) cs f) : Calls Tryz.prog 52 #[.agg cs.toArray] w fun e w' => e = .returned (.func (.func 83) #[] #[.pointer (some ⟨w.heap.size, 0, none⟩)]) ∧ w' = w.alloc (.cells cs.toArray 50) := by
  obtain ⟨a3, c3, a4, c4, rfl, -⟩ := hr.form
  unfold fmC
  go_enter Tryz.func52, Tryz.ntmps52
  go_wp2_with fail
  go_ret
  exact ⟨rfl, rfl⟩
section
variable {H : PH} {n l N n₀ Bo B1 B2 : Nat} {J Jx : List (FmA H) → World → Prop} {tot : List Fm}
def DownM (Bo l B1 B2 : Nat) (W : World) : Prop := Held Bo W B1 #[.func (.yield l) #[] #[]] 99 ∧
  Held Bo W B2 #[.func (.func 84) #[] #[.pointer (some ⟨B1, 0, none⟩), .pointer (some ⟨B2, 0, none⟩)]] 99
theorem DownM.kx {W W' : World} (h : DownM Bo l B1 B2 W) (k : Kx n₀ Bo W W') : DownM Bo l B1 B2 W' := ⟨h.1.kx k, h.2.kx k⟩
structure StepM (H : PH) (n₀ Bo l B1 B2 : Nat) (W : World) : Prop where
  sz : n₀ ≤ W.heap.size
  good : Good Bo W
  le : PLe H (ph W)
  m : DownM Bo l B1 B2 W
theorem StepM.kx {W W' : World} (hlow : ∀ k o, H k = some o → k < n₀) (h : StepM H n₀ Bo l B1 B2 W) (k : Kx n₀ Bo W W') : StepM H n₀ Bo l B1 B2 W' := by
  refine ⟨Nat.le_trans h.sz k.2.1, h.good.kx k, fun i o hi => ?_, h.m.kx k⟩
  show W'.heap[i]? = some o
  rw [k.1.block i (hlow i o hi)]
  exact h.le i o hi
theorem StepM.ext {W W' : World} (hlow : ∀ k o, H k = some o → k < n₀) (h : StepM H n₀ Bo l B1 B2 W) (e : Ext W W') : StepM H n₀ Bo l B1 B2 W' := h.kx hlow (Kx.ext e h.good.1 h.sz)
theorem node1_c (cs : List Value) (x : Fm) (W : World) (pre : List (FmA H)) (hx : FmR H cs x) (hM : StepM H n₀ Bo l B1 B2 W) (hlow : ∀ k o, H k = some o → k < n₀) (hJ : J pre W) (hJa : ∀ pre W o, J pre W → J pre (W.alloc o))
    (ih : ∀ W, StepM H n₀ Bo l B1 B2 W → J pre W → Calls Tryz.prog 84 #[.agg cs.toArray, .pointer (some ⟨B1, 0, none⟩), .pointer (some ⟨B2, 0, none⟩)] W (ItP tot pre x.pre J Jx n₀ Bo W)) :
    Calls Tryz.prog 86 #[.agg cs.toArray, .pointer (some ⟨B2, 0, none⟩)] W fun e W' => (e = .returned (.bool false) ∧ ∃ ys, fmsOf ys = x.pre ∧ J (pre ++ ys) W' ∧ Kx n₀ Bo W W') ∨ (e = .returned (.bool true) ∧ ∃ p, fmsOf p <+: tot ∧ Jx p W') := by
  obtain ⟨a3, c3, a4, c4, rfl, -⟩ := hx.form
  unfold fmC at *
  have hM1 := hM.ext hlow (Ext.new W (.cells #[.int .i64 x.op, .int .i64 x.n, .slice a3 x.inn.length c3, .slice a4 x.kids.length c4] 50))
  have hJ1 := hJa _ _ (.cells #[.int .i64 x.op, .int .i64 x.n, .slice a3 x.inn.length c3, .slice a4 x.kids.length c4] 50) hJ
  have hk1 : Kx n₀ Bo W (W.alloc (.cells #[.int .i64 x.op, .int .i64 x.n, .slice a3 x.inn.length c3, .slice a4 x.kids.length c4] 50)) := Kx.ext (Ext.new _ _) hM.good.1 hM.sz
  obtain ⟨f1, -⟩ := hM1.m.2.1.facts
  have f2 := f1 0
  simp only [List.getElem?_toArray, List.getElem?_cons_zero] at f2
  have HI := Lib.hid ih; clear ih f1
  go_enter Tryz.func86, Tryz.ntmps86
  go_wp2_with fail
  refine (HI.out _ hM1 hJ1).mono ?_
  rintro e w1 (⟨rfl, ys, h1, h2, h3⟩ | ⟨rfl, p, h1, h2⟩)
  · go_wp2_with fail
    go_ret
    exact .inl ⟨rfl, ys, h1, h2, hk1.then h3⟩
  · go_wp2_with fail
    go_ret
    exact .inr ⟨rfl, p, h1, h2⟩
theorem node_c (hn : 2 ≤ n) (hlow : ∀ k o, H k = some o → k < n₀) (hJa : ∀ pre W o, J pre W → J pre (W.alloc o)) (hY : YieldOk n l N n₀ Bo J Jx) (htot : tot.length ≤ N) (f : Fm) : ∀ (cs : List Value) (pre : List (FmA H)) (W : World),
    FmR H cs f → StepM H n₀ Bo l B1 B2 W → J pre W → fmsOf pre ++ f.pre <+: tot →
    Calls Tryz.prog 84 #[.agg cs.toArray, .pointer (some ⟨B1, 0, none⟩), .pointer (some ⟨B2, 0, none⟩)] W (ItP tot pre f.pre J Jx n₀ Bo W) := by
  induction f using Fm.ind with
  | h f ih =>
    intro cs pre W hr hM hJ ht
    have hlen : pre.length < N := by
      have := ht.length_le
      rw [List.length_append, fmsOf_len, Fm.pre_len] at this
      have := f.size_pos
      omega
    have hr' := hr
    obtain ⟨a3, c3, a4, c4, rfl, -, -, -, hkl, -, hk⟩ := hr.form
    unfold fmC at *
    have hM1 := hM.ext hlow (Ext.new W (.cells #[.int .i64 f.op, .int .i64 f.n, .slice a3 f.inn.length c3, .slice a4 f.kids.length c4] 50))
    have hJ1 := hJa _ _ (.cells #[.int .i64 f.op, .int .i64 f.n, .slice a3 f.inn.length c3, .slice a4 f.kids.length c4] 50) hJ
    have hk1 : Kx n₀ Bo W (W.alloc (.cells #[.int .i64 f.op, .int .i64 f.n, .slice a3 f.inn.length c3, .slice a4 f.kids.length c4] 50)) := Kx.ext (Ext.new _ _) hM.good.1 hM.sz
    have hB3 := Held.new hM.good (Ext.new W (.cells #[.int .i64 f.op, .int .i64 f.n, .slice a3 f.inn.length c3, .slice a4 f.kids.length c4] 50)) (Nat.le_refl _) (Own.new W _ _)
    obtain ⟨f1, -⟩ := hM1.m.1.1.facts
    have f2 := f1 0
    simp only [List.getElem?_toArray, List.getElem?_cons_zero] at f2
    obtain ⟨fn, tmps, assign, body, hy, hYR⟩ := hY _ ⟨(_, f), hr'⟩ _ hJ1 hlen
    dsimp only at hy
    have HI := Lib.hid ih; clear ih f1
    have hn1 : 1 ≤ n := by omega
    refine (callsIn_wide (n := n)).1 ?_
    refine callsIn_of_wp Tryz.func84 rfl trivial ?_ rfl
    simp only [Tryz.ntmps84, List.size_toArray, List.length_cons, List.length_nil, Nat.reduceAdd, Nat.reduceSub, Array.replicate_succ, Array.replicate_zero, List.push_toArray, List.append_toArray, List.nil_append, List.cons_append]
    gi_wp2
    refine hYR.mono ?_
    rintro e W3 (⟨rfl, hJ3, hk3⟩ | ⟨rfl, hJx3⟩)
    · have hM3 := hM1.kx hlow hk3
      have hB4 := hB3.kx hk3
      obtain ⟨f3, -⟩ := hB4.1.facts
      have f4 := f3 3
      simp only [List.getElem?_toArray, List.getElem?_cons_zero, List.getElem?_cons_succ] at f4
      clear f3
      gi_wp2
      refine ⟨trivial, callsIn_wide.2 ((containsFunc_J 86 #[.pointer (some ⟨B2, 0, none⟩)] _ f.kids hk
        (fun k wr => ∃ ys, fmsOf ys = (f.kids.take k).flatMap Fm.pre ∧ J (pre ++ [⟨(_, f), hr'⟩] ++ ys) wr ∧ Kx n₀ Bo W wr ∧ StepM H n₀ Bo l B1 B2 wr) (fun wr => ∃ p, fmsOf p <+: tot ∧ Jx p wr) _
        (fun args w => enterFn Tryz.func86 rfl rfl args w) ?_ (fun k wr h => h.choose_spec.2.2.2.le) ⟨[], rfl, by rw [List.append_nil]; exact hJ3, hk1.then hk3, hM3⟩).mono ?_)⟩
      · rintro k hkk wr cs ⟨ys, g1, g2, g3, g4⟩ hE
        have e : (f.kids.take (k + 1)).flatMap Fm.pre = (f.kids.take k).flatMap Fm.pre ++ f.kids[k].pre := by
          rw [List.take_succ_eq_append_getElem hkk, List.flatMap_append]; simp
        have ht2 : fmsOf (pre ++ [⟨(_, f), hr'⟩] ++ ys) ++ f.kids[k].pre <+: tot := by
          refine List.IsPrefix.trans ?_ ht
          rw [fmsOf_app, fmsOf_app, g1, Fm.pre_eq f]
          have e2 : fmsOf [(⟨(_, f), hr'⟩ : FmA H)] = [f] := rfl
          rw [e2, List.append_assoc, List.append_assoc, ← e]
          refine List.prefix_append_right_inj _ |>.2 ?_
          refine List.cons_prefix_cons.2 ⟨rfl, ?_⟩
          have e3 : f.kids.flatMap Fm.pre = (f.kids.take (k + 1)).flatMap Fm.pre ++ (f.kids.drop (k + 1)).flatMap Fm.pre := by rw [← List.flatMap_append, List.take_append_drop]
          rw [e3]
          exact List.prefix_append _ _
        refine (node1_c cs f.kids[k] wr _ hE g4 hlow g2 hJa fun W' hM' hJ' => HI.out _ (List.getElem_mem hkk) cs _ W' hE hM' hJ' ht2).mono ?_
        rintro e' w' (⟨rfl, zs, q1, q2, q3⟩ | ⟨rfl, p, q1, q2⟩)
        · refine .inl ⟨rfl, ys ++ zs, by rw [fmsOf_app, g1, q1, e], by rw [← List.append_assoc]; exact q2, g3.then q3, g4.kx hlow q3⟩
        · exact .inr ⟨rfl, p, q1, q2⟩
      · rintro e w4 (⟨rfl, ys, g1, g2, g3, g4⟩ | ⟨rfl, p, g1, g2⟩)
        · gi_wp2
          go_ret
          refine .inl ⟨rfl, ⟨(_, f), hr'⟩ :: ys, ?_, ?_, g3⟩
          · rw [Fm.pre_eq]
            rw [List.take_length] at g1
            show f :: fmsOf ys = _
            rw [g1]
          · rw [List.append_assoc] at g2; exact g2
        · gi_wp2
          go_ret
          exact .inr ⟨rfl, p, g1, g2⟩
    · gi_wp2
      refine ⟨trivial, ?_⟩
      gi_wp2
      go_ret
      refine .inr ⟨rfl, _, ?_, hJx3⟩
      refine List.IsPrefix.trans ?_ ht
      rw [fmsOf_app, Fm.pre_eq]
      exact (List.prefix_append_right_inj _).2 (List.cons_prefix_cons.2 ⟨rfl, List.nil_prefix⟩)
end
end Go.Proofs.YtnpnjcaomakehaaGreat
namespace Go.Proofs.YtnpnjcaomakehaaGreat
open Go.RowKit
theorem run_store_fn {P : Program} {w : World} {a : Addr} {m : Mode} (f : Fn) (x y : Array Value) : (store a (.func f x y) m).run P w = stored P w a (.func f x y) m := run_store P w a _ m rfl
end Go.Proofs.YtnpnjcaomakehaaGreat
namespace Go.Proofs.YtnpnjcaomakehaaGreat
open Go.RowKit Go.Shelf
attribute [local go_sem] Oper.semAt_some run_store_fn
theorem Good.of {Bo : Nat} {W : World} {b : Value} {T : TypeId} (h : Own W Bo #[b] T) (hb : b.ownBlock = none) : Good Bo W := by
  refine ⟨h.lt, fun k hk => ?_⟩
  rcases hk with rfl | ⟨j, v, h1, h2⟩
  · exact h.lt
  · rw [h.facts.1 j] at h1
    match j, h1 with
    | 0, h1 => simp at h1; subst h1; rw [hb] at h2; cases h2
    | j + 1, h1 => simp at h1
theorem own_keptF {W W' : World} {row : Option Nat} {b : Nat} {c : Array Value} {T : TypeId} (h : Proofs.YtnpnjcaomakehaaGreat.Own W b c T) (hg : W.grownBy W' row) (hrow : ∀ r, row = some r → ∃ o : Obj, W.heap[r]? = some o ∧ o.isCells = false) : Proofs.YtnpnjcaomakehaaGreat.Own W' b c T :=
  h.grown hg fun e => by
    obtain ⟨o, h1, h2⟩ := hrow b e.symm
    unfold Proofs.YtnpnjcaomakehaaGreat.Own at h
    rw [h] at h1
    cases h1
    cases h2
set_option maxRecDepth 100000 in
theorem nodes_seq {H : PH} {n n₀ Bo Bf : Nat} {w0 : World} {cs : List Value} {f : Fm} (hn : 3 ≤ n) (hg : Good Bo w0) (hle : PLe H (ph w0)) (hlow : ∀ k o, H k = some o → k < n₀) (hn₀ : n₀ ≤ w0.heap.size) (hB : Own w0 Bf cs.toArray 50) (hr : FmR H cs f) :
    SeqStopsK Fence.wide (n - 1) Tryz.prog 83 #[.pointer (some ⟨Bf, 0, none⟩)] (fun x : FmA H => #[.agg x.1.1.toArray]) (Kx n₀ Bo) (fun ys => fmsOf ys = f.pre) (fun p => fmsOf p <+: f.pre) f.pre.length w0 := by
  intro l J Jx W hW hJ _ hY h0
  obtain ⟨a3, c3, a4, c4, rfl, -⟩ := hr.form
  have hBW : Own W Bf _ _ := hB.keep hW
  have hgW : Good Bo W := hg.ext hW
  have hle1 : PLe H (ph W) := hle.trans (Ext.ple hW)
  have hsz : n₀ ≤ W.heap.size := Nat.le_trans hn₀ hW.size
  obtain ⟨f1, -⟩ := hBW.facts
  have q0 := f1 0
  have q1 := f1 1
  have q2 := f1 2
  have q3 := f1 3
  simp only [fmC, List.getElem?_toArray, List.getElem?_cons_zero, List.getElem?_cons_succ] at q0 q1 q2 q3
  have hlB := hBW.lt
  have hJa : ∀ pre W1 o, J pre W1 → J pre (W1.alloc o) := fun pre W1 o h => hJ pre W1 _ none h (World.grownBy_alloc W1 o none) (fun r e => by cases e)
  have e1 : Ext W ((W.alloc (.cells #[.func (.yield l) #[] #[]] 99)).alloc (.cells #[.func (.func 84) #[] #[.pointer (some ⟨W.heap.size, 0, none⟩), .pointer (some ⟨W.heap.size + 1, 0, none⟩)]] 99)) := (Ext.new W _).alloc' _
  have o1 : Own ((W.alloc (.cells #[.func (.yield l) #[] #[]] 99)).alloc (.cells #[.func (.func 84) #[] #[.pointer (some ⟨W.heap.size, 0, none⟩), .pointer (some ⟨W.heap.size + 1, 0, none⟩)]] 99)) W.heap.size #[.func (.yield l) #[] #[]] 99 := (Own.new W _ _).alloc _
  have o2 : Own ((W.alloc (.cells #[.func (.yield l) #[] #[]] 99)).alloc (.cells #[.func (.func 84) #[] #[.pointer (some ⟨W.heap.size, 0, none⟩), .pointer (some ⟨W.heap.size + 1, 0, none⟩)]] 99)) (W.heap.size + 1) #[.func (.func 84) #[] #[.pointer (some ⟨W.heap.size, 0, none⟩), .pointer (some ⟨W.heap.size + 1, 0, none⟩)]] 99 := Own.new' _ _ _ (by simp)
  have hJ2 := hJa _ _ (.cells #[.func (.func 84) #[] #[.pointer (some ⟨W.heap.size, 0, none⟩), .pointer (some ⟨W.heap.size + 1, 0, none⟩)]] 99) (hJa _ _ (.cells #[.func (.yield l) #[] #[]] 99) h0)
  have hM : StepM H n₀ Bo l W.heap.size (W.heap.size + 1) _ := ⟨Nat.le_trans hsz e1.size, hgW.ext e1, hle1.trans e1.ple, Held.new hgW e1 (Nat.le_refl _) o1, Held.new hgW e1 (by omega) o2⟩
  have hk := Kx.ext (n₀ := n₀) e1 hgW.1 hsz
  have HC := Lib.hid (node_c (B1 := W.heap.size) (B2 := W.heap.size + 1) (n := n - 1) (N := f.pre.length) (Jx := Jx) (by omega) hlow hJa hY (Nat.le_refl _) f _ [] _ hr hM hJ2 (List.prefix_refl _))
  clear hM hJ2 o1 o2 e1 f1 hB hBW hW hY hJ h0
  refine callsIn_of_wp Tryz.func83 rfl trivial ?_ rfl
  simp only [Tryz.ntmps83, List.size_toArray, List.length_cons, List.length_nil, Nat.reduceAdd, Nat.reduceSub, Array.replicate_succ, Array.replicate_zero, List.push_toArray, List.append_toArray, List.nil_append, List.cons_append]
  gi_wp2
  refine ⟨trivial, fun _ => by omega, callsIn_wide.2 (HC.out.mono ?_)⟩
  rintro e w4 (⟨rfl, ys, g1, g2, g3⟩ | ⟨rfl, p, g1, g2⟩)
  · gi_wp2
    go_end0
    exact ⟨⟨_, rfl⟩, .inl ⟨ys, g1, g2⟩⟩
  · gi_wp2
    go_end0
    exact ⟨⟨_, rfl⟩, .inr ⟨p, g1, g2⟩⟩
theorem Kx.setBo {n₀ Bo : Nat} {W : World} {v u : Value} {T : TypeId} (h : Own W Bo #[v] T) (hn : n₀ ≤ Bo) (hu : u.ownBlock = none) : Kx n₀ Bo W (W.setCell ⟨Bo, 0, none⟩ u) := by
  have h2 := h.set 0 u
  refine ⟨(Below.refl n₀ W).setCell (p := ⟨Bo, 0, none⟩) hn u, by simp, fun b c T' hb hx => hb.setOther (p := ⟨Bo, 0, none⟩) (fun e => hx (.inl e)) u, fun b hx => ?_⟩
  rcases hx with rfl | ⟨j, v', h3, h4⟩
  · exact .inl (.inl rfl)
  · rw [h2.facts.1 j] at h3
    match j, h3 with
    | 0, h3 => simp at h3; subst h3; rw [hu] at h4; cases h4
    | j + 1, h3 => simp at h3
theorem ph_low (w : World) : ∀ k o, ph w k = some o → k < w.heap.size := fun k o h => ph_lt h
set_option maxRecDepth 100000 in
set_option maxHeartbeats 1000000 in
theorem fsize_in (f : Fm) (cs : List Value) (w : World) (hr : FmR (ph w) cs f) (hs : f.size ≤ 1000000) : CallsIn Fence.wide 7 Tryz.prog 58 #[.agg cs.toArray] w (RetV w (.int .i64 f.size)) := by
  have hr' := hr
  obtain ⟨a3, c3, a4, c4, rfl, -⟩ := hr.form
  unfold fmC at hr' ⊢
  refine callsIn_of_wp_marks Tryz.func58 rfl trivial ?_ rfl
  simp only [Tryz.ntmps58, List.size_toArray, List.length_cons, List.length_nil, Nat.reduceAdd, Nat.reduceSub, Array.replicate_succ, Array.replicate_zero, List.push_toArray, List.append_toArray, List.nil_append, List.cons_append]
  refine wpIn_wide.2 ?_
  go_wp2_with fail
  refine (nodes_p f _ _ (mono_FmR _ _ _ _ (Ext.ple xE) hr')).mono ?_
  rintro e w' ⟨rfl, rfl⟩
  go_wp2_with fail
  refine (wpIn_wide (n := 7)).1 ?_
  have hx0 : Ext w (((w.alloc (.cells #[.int .i64 f.op, .int .i64 f.n, .slice a3 f.inn.length c3, .slice a4 f.kids.length c4] 50)).alloc (.cells #[.int .i64 0] 3)).alloc (.cells #[.int .i64 f.op, .int .i64 f.n, .slice a3 f.inn.length c3, .slice a4 f.kids.length c4] 50)) := xE
  have hsz : (((w.alloc (.cells #[.int .i64 f.op, .int .i64 f.n, .slice a3 f.inn.length c3, .slice a4 f.kids.length c4] 50)).alloc (.cells #[.int .i64 0] 3)).alloc (.cells #[.int .i64 f.op, .int .i64 f.n, .slice a3 f.inn.length c3, .slice a4 f.kids.length c4] 50)).heap.size = w.heap.size + 3 := by simp
  have hO1 : Own (((w.alloc (.cells #[.int .i64 f.op, .int .i64 f.n, .slice a3 f.inn.length c3, .slice a4 f.kids.length c4] 50)).alloc (.cells #[.int .i64 0] 3)).alloc (.cells #[.int .i64 f.op, .int .i64 f.n, .slice a3 f.inn.length c3, .slice a4 f.kids.length c4] 50)) (w.heap.size + 1) #[.int .i64 0] 3 := oE
  have hO2 : Own (((w.alloc (.cells #[.int .i64 f.op, .int .i64 f.n, .slice a3 f.inn.length c3, .slice a4 f.kids.length c4] 50)).alloc (.cells #[.int .i64 0] 3)).alloc (.cells #[.int .i64 f.op, .int .i64 f.n, .slice a3 f.inn.length c3, .slice a4 f.kids.length c4] 50)) (w.heap.size + 1 + 1) #[.int .i64 f.op, .int .i64 f.n, .slice a3 f.inn.length c3, .slice a4 f.kids.length c4] 50 := oE
  generalize ((w.alloc (.cells #[.int .i64 f.op, .int .i64 f.n, .slice a3 f.inn.length c3, .slice a4 f.kids.length c4] 50)).alloc (.cells #[.int .i64 0] 3)).alloc (.cells #[.int .i64 f.op, .int .i64 f.n, .slice a3 f.inn.length c3, .slice a4 f.kids.length c4] 50) = W0 at *
  have hps : f.pre.length = f.size := f.pre_len
  refine wpIn_rangeFunc_ownF rfl (by omega) (gf := 83) (lb := #[.pointer (some ⟨w.heap.size + 1 + 1, 0, none⟩)]) rfl trivial (enters_of Tryz.func83 (by kernel_rfl) rfl)
    (encs := fun x : FmA (ph w) => #[.agg x.1.1.toArray]) (Kp := Kx w.heap.size (w.heap.size + 1)) (S := fun ys => fmsOf ys = f.pre) (Sp := fun p => fmsOf p <+: f.pre) (N := f.pre.length)
    (w0 := W0) (nodes_seq (by omega) (Good.of hO1 rfl) hx0.ple (ph_low w) (by omega) hO2 hr') Kx.then (Kx.put (by omega) (by omega)) (Below.refl _ _) (fun _ => rfl)
    (fun pre W => Own W (w.heap.size + 1) #[.int .i64 pre.length] 3 ∧ Ext w W) (fun _ _ _ => False)
    ?hI (fun _ _ _ _ _ hs _ _ => hs) ⟨hO1, hx0⟩ ?a1 ?assign ?body ?done ?stop
  case hI =>
    rintro pre A B row ⟨h1, h2⟩ hg hr
    exact ⟨own_keptF h1 hg fun r e => (hr r e).2, h2.grown hg fun r e => Nat.le_trans (by omega) (hr r e).1⟩
  case assign =>
    intro l x W K hK
    gi_wp2
    exact hK
  case body =>
    rintro l pre x W ⟨h1, h2⟩ hlen
    obtain ⟨f1, f2⟩ := h1.facts
    have q0 := f1 0
    have q1 := f2 0
    simp only [List.getElem?_toArray, List.getElem?_cons_zero] at q0
    have hlt := h1.lt
    clear f1 f2
    have hp : pre.length ≤ 1000000 := by omega
    gi_wp2
    refine ⟨KeepsOthers.setCell _ _ _, Kx.setBo h1 (by omega) rfl, ⟨?_, h2.set' (p := ⟨w.heap.size + 1, 0, none⟩) (by simp) _⟩⟩
    have := h1.set 0 (.int .i64 ((pre.length : Int) + 1))
    simpa using this
  case done =>
    rintro D xs W hD hS ⟨h1, h2⟩ hK
    have hl : Hid (xs.length = f.size) := by show _ = _; rw [← hps, ← hS, fmsOf_len]
    obtain ⟨f1, -⟩ := h1.facts
    have q0 := f1 0
    simp only [List.getElem?_toArray, List.getElem?_cons_zero] at q0
    have hlt := h1.lt
    clear f1
    gi_wp2
    go_wp2_with fail
    refine ⟨by simp, .inl ⟨_, _, rfl, run_takeDeferred hK, ?_⟩⟩
    refine ⟨_, results_tmp rfl _ _ _, ?_, h2.trans ((belowK_b (w := W0) (Nat.le_refl _) _ D _ _ hD hK rfl rfl).mono (by omega))⟩
    exact ret_int (by rw [hl.out])
  case stop =>
    rintro D c pre W _ _ h _
    exact h.elim
theorem fsize_c (f : Fm) (cs : List Value) (w : World) (hr : FmR (ph w) cs f) (hs : f.size ≤ 1000000) : Calls Tryz.prog 58 #[.agg cs.toArray] w (RetV w (.int .i64 f.size)) := (callsIn_wide (n := 7)).1 (fsize_in f cs w hr hs)
end Go.Proofs.YtnpnjcaomakehaaGreat
