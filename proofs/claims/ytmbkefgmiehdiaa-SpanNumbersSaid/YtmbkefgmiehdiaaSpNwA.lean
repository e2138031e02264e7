/- append to a literal slice that is full: the list lies in a block of its own from then on.; the plain law of SpanNumbers: numbers of the combined sets, and what tells two sets apart.; the law SpanNumbers: the walk. -/
import Derived.Test.YtmbkefgmiehdiaaRowG
import Derived.Test.YtmbkefgmiehdiaaSpZA
import Derived.Test.YtmbkefgmiehdiaaSpHA
import Derived.Test.YtmbkefgmiehdiaaSpPA
import Derived.Test.YtmbkefgmiehdiaaSpPB
import Derived.Deep.CutBlock
import Derived.Test.YtmbkefgmiehdiaaSpLvA
namespace Go.Proofs.Ytmbkefgmiehdiaa
open Go.RowKit
set_option linter.unusedVariables false
set_option linter.unusedSimpArgs false
section
variable {α : Type} {E : PH → List Value → α → Prop} {sz : Nat} {H : PH} {w : World}
theorem run_append_F {P : Program} (t ty e : TypeId) (i : TypeInfo) (z : Value) (bytes : Nat)
    (ht : P.underlying t = some (.slice e)) (hi : P.info? e = some i) (hz : i.zero = some z) (hsz : i.size = sz) (hby : i.bytes = bytes) (hzs : z.cells.size = sz)
    {a : Option Addr} {n : Nat} {vx : Value} {xs ys : List α} (hn : n = xs.length) (hxs : Src w H E sz (.slice a n n) xs) (hne : xs ≠ []) (hsrc : Src w H E sz vx ys) (hyn : ys ≠ []) (hl : PLe H (ph w))
    (hbytes : (xs.length + ys.length) * bytes ≤ 140737488355328) (hcnt : xs.length + ys.length ≤ 140737488355328) :
    ∃ v' w', (Builtin.append_ #[t, t] ty #[.slice a n n, vx]).run P w = .ok v' w' ∧ OwnS w.heap.size H w' E sz e v' (xs ++ ys) ∧ Ext w w' := by
  subst hsz; subst hby; subst hn
  obtain ⟨a1, cap1, he1, hc1, hsx⟩ := hxs
  injection he1 with e1 e2 e3
  subst e1; subst e3
  obtain ⟨a2, cap2, rfl, hc2, hsy⟩ := hsrc
  rcases hsx with h | ⟨ad, olds, rfl, hold, hcold⟩
  · exact absurd h hne
  rcases hsy with h | ⟨ad2, news, rfl, hnews, hcell⟩
  · exact absurd h hyn
  have hlen := hnews.length
  have hol := hold.length
  have hpos : 0 < ys.length := List.length_pos_iff.2 hyn
  have hfresh : H w.heap.size = none := by
    cases hx : H w.heap.size with
    | none => rfl
    | some o => exact absurd (ph_lt (hl _ _ hx)) (by omega)
  have hr := run_append_grow (P := P) w t ty e i z ht hi hz ad xs.length xs.length olds hol hcold ad2 ys.length cap2 news hlen hcell (by omega) (by omega) (growslice_fits (by omega) hbytes)
  have hg1 := grownCap_ge w (xs.length + ys.length) xs.length e
  have hg2 := grownCap_le_maxLen w (xs.length + ys.length) xs.length e (by simp only [maxLen]; omega)
  generalize grownCap w (xs.length + ys.length) xs.length e = gc at *
  refine ⟨_, _, hr, .inr ⟨w.heap.size, gc, _, by simp, Nat.le_refl _, hfresh, heap_alloc_new w.drew _, by simpa using hg1, hg2, ?_, ?_⟩, (Ext.rfl' w).drew'.alloc' _⟩
  · simp only [Array.size_append, List.size_toArray, size_zeroCells, hzs, hol, hlen, ← Nat.add_mul]
    congr 1
    omega
  · have : ∀ Z : Array Value, (olds.toArray ++ news.toArray ++ Z).toList.take ((xs ++ ys).length * i.size) = olds ++ news := by
      intro Z
      simp only [Array.toList_append]
      rw [List.length_append, Nat.add_mul, ← hol, ← hlen, ← List.length_append]
      exact List.take_left
    rw [this]
    exact hold.append hnews
/-- a full literal that was there at W, or a list in a block of its own made since W -/
def Late (hm : Mono E) (sz : Nat) (T : TypeId) (W : World) (v : Value) (xs : List α) (w : World) : Prop :=
  (Ext W w ∧ xs ≠ [] ∧ (∃ a, v = .slice a xs.length xs.length) ∧ SliceRep E sz (ph W) v xs) ∨ Mem W noH [own hm sz T v xs] noH w
variable {hm : Mono E} {T : TypeId} {W : World} {v : Value} {xs ys : List α} {w' : World}
theorem Late.ex (h : Late hm sz T W v xs w) : Ext W w := by
  rcases h with h | h
  · exact h.1
  · exact h.ex
theorem Late.ext (h : Late hm sz T W v xs w) (e : Ext w w') : Late hm sz T W v xs w' := by
  rcases h with ⟨h1, h2⟩ | h
  · exact .inl ⟨h1.then e, h2⟩
  · exact .inr (h.ext e)
theorem Late.form (h : Late hm sz T W v xs w) : ∃ a cap, v = .slice a xs.length cap := by
  rcases h with ⟨-, -, ⟨a, h⟩, -⟩ | h
  · exact ⟨a, _, h⟩
  · obtain ⟨a, c, h, -⟩ := h.form 0 rfl
    exact ⟨a, c, h⟩
theorem Late.rep (h : Late hm sz T W v xs w) : SliceRep E sz (ph w) v xs := by
  rcases h with ⟨h1, -, -, h⟩ | h
  · exact h.mono hm h1.ple
  · exact h.rep 0 rfl
theorem Late.start (h : SliceRep E sz (ph W) v xs) (hf : ∃ a, v = .slice a xs.length xs.length) (hne : xs ≠ []) : Late hm sz T W v xs W := .inl ⟨Ext.rfl' _, hne, hf, h⟩
theorem wpList_append_L {P : Program} {ops : Array Oper} {rest : List Oper} {o : Oper} {a : Act} {Q : Exit → Act → World → Prop} (hgd : o.guard = none) (s x : Operand) (t : TypeId)
    (ho : o.op = .call { callee := .builtin .append, args := #[s, x], argTypes := #[t, t] }) {z : Value} {bytes : Nat}
    (ht : P.underlying t = some (.slice T)) (hinfo : (P.info? T).map (fun i => (i.zero, i.size, i.bytes)) = some (some z, sz, bytes)) (hzs : z.cells.size = sz)
    {vx : Value} (hs : a.eval s = v) (hx : a.eval x = vx) (hfl : ∀ h h' cs x, E h cs x → E h' cs x) (hown : Late hm sz T W v xs w) (hsrc : Src w noH E sz vx ys) (hyn : ys ≠ [])
    (hone : ∀ cs x, E noH cs x → ∀ u ∈ cs, u.oneCell' = true) (hbytes : (xs.length + ys.length) * bytes ≤ 140737488355328) (hcnt : xs.length + ys.length ≤ 140737488355328)
    (h : ∀ v' w', Late hm sz T W v' (xs ++ ys) w' → wpList P ops Q rest (a.put o.dst v') w') :
    wpList P ops Q (o :: rest) a w := by
  rcases hown with ⟨h1, h2, ⟨b, rfl⟩, h4⟩ | hM
  · obtain ⟨i, hi, hz0, hz1, hz2⟩ := info_parts hinfo
    have hsx : Src w noH E sz (.slice b xs.length xs.length) xs := (Src.ofRep (h4.mono hm h1.ple) (PLe.refl _)).free (fun _ _ h => hfl _ _ _ _ h)
    obtain ⟨v', w', hr, h5, h6⟩ := run_append_F (P := P) (w := w) t o.type T i z bytes ht hi hz0 hz1 hz2 hzs rfl hsx h2 hsrc hyn (noH_le _) hbytes hcnt
    refine wpList_plain hgd fun _ hK => ?_
    unfold Oper.wp execOp
    simp only [ho, resolve, invoke, builtin, Sem.run_bind, Sem.run_pure, Result.andThen_ok, List.map_toArray, List.map_cons, List.map_nil, hs, hx, hr]
    refine hK _ _ (h v' w' (.inr ?_))
    have hM := ((Mem.start W noH (noH_le _)).ext h1).addO (hm := hm) h6 h5
    simpa using hM
  · exact wpList_append_M 0 hgd s x t ho ht hinfo hzs hs hx hM rfl hsrc hone hbytes hcnt (fun v' w' hM' => h v' w' (.inr (by simpa using hM')))
end
end Go.Proofs.Ytmbkefgmiehdiaa
namespace Go.Proofs.Ytmbkefgmiehdiaa
open Go.RowKit
set_option linter.unusedVariables false
set_option linter.unusedSimpArgs false
theorem or_num {a b : List Itv} (ha : setE a = 0) (hb : setE b = 0) {r : Rat2} (hr : RatOk r) : hasL (combF orK [a, b]) r = (hasL a r || hasL b r) := by
  rw [hasL_cov (combF_can (flat2 (setE_0 ha).1 (setE_0 hb).1)).good, hasL_cov (setE_0 ha).1, hasL_cov (setE_0 hb).1, or_cov ha hb (end_ok hr)]
  simp [hr]
theorem and_num {a b : List Itv} (ha : setE a = 0) (hb : setE b = 0) {r : Rat2} (hr : RatOk r) : hasL (combF andK [a, b]) r = (hasL a r && hasL b r) := by
  rw [hasL_cov (combF_can (flat2 (setE_0 ha).1 (setE_0 hb).1)).good, hasL_cov (setE_0 ha).1, hasL_cov (setE_0 hb).1, and_cov ha hb (end_ok hr)]
  simp [hr]
theorem not_num {a : List Itv} (ha : setE a = 0) {r : Rat2} (hr : RatOk r) : hasL (combF notK [a]) r = !hasL a r := by
  rw [hasL_cov (combF_can (flat1 (setE_0 ha).1)).good, hasL_cov (setE_0 ha).1, not_cov ha (end_ok hr)]
  simp [hr]
theorem only_nil {a b : List Itv} (ha : setE a = 0) (hb : setE b = 0) (hl : b.length ≤ 5) (h : combF andK [a, combF notK [b]] = []) {e : En} (he : e.ok) (hc : covB a e = true) : covB b e = true := by
  obtain ⟨-, h1, l1⟩ := one_not hb (by omega)
  have h2 := and_cov ha h1 he
  rw [h, not_cov hb he, hc] at h2
  have hf : e.far ≠ 1 := fun h => by rw [cov_g ha h] at hc; cases hc
  have h3 : covB [] e = false := rfl
  rw [h3] at h2
  cases hb2 : covB b e with
  | true => rfl
  | false => rw [hb2] at h2; simp [hf] at h2
theorem apart_eq {a b : List Itv} (ha : setE a = 0) (hb : setE b = 0) (la : a.length ≤ 5) (lb : b.length ≤ 5) :
    decide (a = b) = !((!(combF andK [a, combF notK [b]]).isEmpty) || !(combF andK [b, combF notK [a]]).isEmpty) := by
  obtain ⟨-, h1, l1⟩ := one_not ha (by omega)
  obtain ⟨-, h2, l2⟩ := one_not hb (by omega)
  rw [Bool.eq_iff_iff]
  simp only [decide_eq_true_iff, Bool.not_eq_true', Bool.or_eq_false_iff, Bool.not_eq_false', List.isEmpty_iff]
  constructor
  · rintro rfl
    have : combF andK [a, combF notK [a]] = [] := cov_empty (two_and ha h1 (by omega)).2.1 fun e he => by
      rw [and_cov ha h1 he, not_cov ha he]
      cases covB a e <;> simp
    exact ⟨this, this⟩
  · rintro ⟨h3, h4⟩
    refine set_ext ha hb fun e he => ?_
    rw [Bool.eq_iff_iff]
    exact ⟨only_nil ha hb lb h3 he, only_nil hb ha la h4 he⟩
theorem pickV_one {l : List Itv} (h : setE l = 0) : (pickV l).isSome = !l.isEmpty ∧ (l.isEmpty = false → hasL l (bst (pickV l)) = true ∧ RatOk (bst (pickV l))) := by
  unfold pickV
  rw [if_pos h]
  obtain ⟨h1, h2⟩ := pick_law (setE_0 h).1
  cases hp : pickF l with
  | none => rw [h1.1 hp]; exact ⟨rfl, fun h => by cases h⟩
  | some r =>
    obtain ⟨q1, q2, -⟩ := h2 r hp
    have : l.isEmpty = false := by
      cases l with
      | nil => rw [h1.2 rfl] at hp; cases hp
      | cons => rfl
    exact ⟨by rw [this]; rfl, fun _ => ⟨q2, q1⟩⟩
theorem only_num {a b : List Itv} (ha : setE a = 0) (hb : setE b = 0) (la : a.length ≤ 5) (lb : b.length ≤ 5) {r : Rat2} (hr : RatOk r) (h : hasL (combF andK [a, combF notK [b]]) r = true) : hasL a r = true ∧ hasL b r = false := by
  obtain ⟨-, h2, l2⟩ := one_not hb (by omega)
  rw [and_num ha h2 hr, not_num hb hr] at h
  simpa using h
def numF (A B U M NA NB : List Itv) (r : Rat2) : Prop := hasL U r = (hasL A r || hasL B r) ∧ hasL M r = (hasL A r && hasL B r) ∧ hasL NA r = !hasL A r
theorem num_pack {A B : List Itv} (sA : setE A = 0) (sB : setE B = 0) (lA : A.length ≤ 5) (lB : B.length ≤ 5) :
    ∃ U M NA NB X Y : List Itv, ∃ p q : Bool, ∃ r s : Rat2, Hid (twoS orK A B = (U, 0)) ∧ Hid (twoS andK A B = (M, 0)) ∧ Hid (notS A = (NA, 0)) ∧ Hid (notS B = (NB, 0)) ∧ Hid (twoS andK A NB = (X, 0)) ∧ Hid (twoS andK B NA = (Y, 0)) ∧ Hid (∀ r, RatOk r → numF A B U M NA NB r)
     ∧ Hid (setE X = 0) ∧ Hid (setE Y = 0) ∧ Hid (bst (pickV X) = r) ∧ Hid ((pickV X).isSome = p) ∧ Hid (bst (pickV Y) = s) ∧ Hid ((pickV Y).isSome = q) ∧ Hid (decide (A = B) = !(p || q)) ∧ Hid (p = true → RatOk r ∧ hasL A r = true ∧ hasL B r = false) ∧ Hid (q = true → RatOk s ∧ hasL B s = true ∧ hasL A s = false) := by
  obtain ⟨e1, s1, l1⟩ := two_or sA sB (by omega)
  obtain ⟨e2, s2, l2⟩ := two_and sA sB (by omega)
  obtain ⟨e3, s3, l3⟩ := one_not sA (by omega)
  obtain ⟨e4, s4, l4⟩ := one_not sB (by omega)
  obtain ⟨e5, s5, l5⟩ := two_and sA s4 (by omega)
  obtain ⟨e6, s6, l6⟩ := two_and sB s3 (by omega)
  obtain ⟨p1, p2⟩ := pickV_one s5
  obtain ⟨q1, q2⟩ := pickV_one s6
  refine ⟨_, _, _, _, _, _, _, _, _, _, Lib.hid e1, Lib.hid e2, Lib.hid e3, Lib.hid e4, Lib.hid e5, Lib.hid e6, Lib.hid fun r hr => ⟨or_num sA sB hr, and_num sA sB hr, not_num sA hr⟩, Lib.hid s5, Lib.hid s6, Lib.hid rfl, Lib.hid rfl, Lib.hid rfl, Lib.hid rfl, Lib.hid ?_, Lib.hid fun h => ?_, Lib.hid fun h => ?_⟩
  · rw [p1, q1]; exact apart_eq sA sB lA lB
  · rw [p1] at h
    obtain ⟨x1, x2⟩ := p2 (by simpa using h)
    exact ⟨x2, only_num sA sB lA lB x2 x1⟩
  · rw [q1] at h
    obtain ⟨x1, x2⟩ := q2 (by simpa using h)
    exact ⟨x2, only_num sB sA lB lA x2 x1⟩
end Go.Proofs.Ytmbkefgmiehdiaa
namespace Go.Proofs.Ytmbkefgmiehdiaa
open Go.RowKit Go.Shelf
set_option linter.unusedSimpArgs false
set_option linter.unusedVariables false
def ItvRet (R : List Itv) (w : World) (e : Ending) (w' : World) : Prop := ∃ v, e = .returned (.tuple #[v, .int .i64 0]) ∧ Ext w w' ∧ ItvsR (ph w') v R
theorem setRes_0 {w : World} {r : List Itv × Int} {R : List Itv} {e : Ending} {w' : World} (h : SetRes w r e w') (he : r = (R, 0)) : ItvRet R w e w' := by subst he; exact h
theorem union_e {va vb : Value} {A B R : List Itv} {w : World} (ha : ItvsR (ph w) va A) (hb : ItvsR (ph w) vb B) (he : twoS orK A B = (R, 0)) : Calls Try.prog 17 #[va, vb] w (ItvRet R w) := (union_c va vb A B w ha hb).mono fun e w' h => setRes_0 h he
theorem meet_e {va vb : Value} {A B R : List Itv} {w : World} (ha : ItvsR (ph w) va A) (hb : ItvsR (ph w) vb B) (he : twoS andK A B = (R, 0)) : Calls Try.prog 18 #[va, vb] w (ItvRet R w) := (meet_c va vb A B w ha hb).mono fun e w' h => setRes_0 h he
theorem not_e {va : Value} {A R : List Itv} {w : World} (ha : ItvsR (ph w) va A) (he : notS A = (R, 0)) : Calls Try.prog 14 #[va] w (ItvRet R w) := (not_c va A w ha).mono fun e w' h => setRes_0 h he
theorem sets2' {w : World} {b : Nat} {v1 v2 : Value} {A1 A2 : List Itv} {T : TypeId} (hO : Own w b #[v1, v2] T) (h1 : ItvsR (ph w) v1 A1) (h2 : ItvsR (ph w) v2 A2) :
    SetsR (ph w) (.slice (some ⟨b, 0, none⟩) 2 2) [A1, A2] := by
  obtain ⟨p1, q1, rfl, -, h1⟩ := h1.form
  obtain ⟨p2, q2, rfl, -, h2⟩ := h2.form
  exact sliceArr hO ⟨[_], [_], rfl, rfl, ⟨p1, q1, rfl, h1⟩, [_], [], rfl, rfl, ⟨p2, q2, rfl, h2⟩, rfl⟩ rfl (by decide)
theorem rats2' {w : World} {b : Nat} {r1 r2 : Rat2} {T : TypeId} (hO : Own w b #[.int .i64 r1.num, .int .i64 r1.den, .int .i64 r2.num, .int .i64 r2.den] T) (h1 : r1.I) (h2 : r2.I) :
    RatsR (ph w) (.slice (some ⟨b, 0, none⟩) 2 2) [r1, r2] :=
  sliceArr hO ⟨[_, _], [_, _], rfl, rfl, ⟨rfl, h1⟩, [_, _], [], rfl, rfl, ⟨rfl, h2⟩, rfl⟩ rfl (by decide)
theorem pts_pack {A B : List Itv} (sA : setE A = 0) (sB : setE B = 0) (lA : A.length ≤ 5) (lB : B.length ≤ 5) :
    ∃ ps, Hid (ptsL [A, B].flatten = ps) ∧ Hid (∀ x ∈ [A, B].flatten, goodB x = true) ∧ [A, B].flatten.length ≤ 10000 ∧ ps.length ≤ 20 ∧ Hid (∀ k (h : k < ps.length), RatOk ps[k]) ∧ Hid (∀ k (h : k + 1 < ps.length), ∃ r, betwS ps[k] ps[k+1] = (r, 0) ∧ RatOk r) := by
  have hg := flat2 (setE_0 sA).1 (setE_0 sB).1
  have hp := pts_of hg
  have hl := ptsL_len [A, B].flatten
  have hfl : [A, B].flatten.length = A.length + B.length := by simp
  have hok : ∀ k (h : k < (ptsL [A, B].flatten).length), smallB (ptsL [A, B].flatten)[k] = true := fun k h => hp.sm _ (List.getElem_mem h)
  refine ⟨_, Lib.hid rfl, Lib.hid hg, by omega, by omega, Lib.hid fun k h => (smallB_B (hok k h)).1, Lib.hid fun k h => ?_⟩
  have hlt : lessR (ptsL [A, B].flatten)[k] (ptsL [A, B].flatten)[k+1] = true := List.pairwise_iff_getElem.1 hp.asc k (k+1) (by omega) h (by omega)
  obtain ⟨r, h1, h2, -⟩ := betw_spec (smallB_B (hok k (by omega))) (smallB_B (hok (k+1) h)) (by simpa [lessR] using hlt)
  exact ⟨r, h1, h2⟩
theorem flatRat (h h' : PH) (cs : List Value) (x : Rat2) (hx : RatR h cs x) : RatR h' cs x := hx
set_option maxRecDepth 100000 in
set_option maxHeartbeats 16000000 in
theorem spanNumbers_c (va vb : Value) (la lb : List Int) (m n : Int) (w : World) (ha : IntsR (ph w) va la) (hb : IntsR (ph w) vb lb) (hm : I64 m) (hn : I64 n) :
    Calls Try.prog 7 #[va, vb, .int .i64 m, .int .i64 n] w (RetV w (.bool true)) := by
  have hsa := Lib.hid (fun w (ha : IntsR (ph w) va la) => set_c va la 5 w ha (by omega))
  have hsb := Lib.hid (fun w (hb : IntsR (ph w) vb lb) => set_c vb lb 5 w hb (by omega))
  have hra := Lib.hid (fun w => ratio_c m n w hm hn)
  have hbo := fun w => bound_c m 25 w hm (by omega) (by omega)
  obtain ⟨y0, y1⟩ := boundV_range (n := m) (m := 25) hm (by omega)
  generalize boundV m 25 = mm at *
  replace hbo := Lib.hid hbo
  have hwh := Lib.hid (fun w => whole_c mm w)
  have hmm : Hid (RatOk ⟨mm, 1⟩) := Lib.hid (by unfold RatOk; dsimp only; refine ⟨by omega, by omega, by omega, by simp⟩)
  go_enter Try.func7, Try.ntmps7
  go_wp2_with fail
  refine (hsa.out _ ha).mono ?_
  rintro e w1 ⟨vA, rawA, rfl, hx1, hA, gA, lA⟩
  have hx := hx1
  obtain ⟨sA, mA⟩ := norm_set gA (by omega)
  replace mA := Nat.le_trans mA lA
  clear lA gA hx1
  generalize (normS rawA).1 = A at *
  obtain ⟨pA, qA, rfl, -, hA⟩ := hA.form
  go_wp2_with fail
  refine (hsb.out _ (hb.mono mono_IntR hx.ple)).mono ?_
  rintro e w2 ⟨vB, rawB, rfl, hx2, hB, gB, lB⟩
  replace hx := hx.then hx2
  replace hA := hA.mono mono_ItvR hx2.ple
  obtain ⟨sB, mB⟩ := norm_set gB (by omega)
  replace mB := Nat.le_trans mB lB
  clear lB gB hx2
  generalize (normS rawB).1 = B at *
  obtain ⟨pB, qB, rfl, -, hB⟩ := hB.form
  clear ha hb hsa hsb
  obtain ⟨U, M, NA, NB, X, Y, p, q, r, s, e1, e2, e3, e4, e5, e6, hnum, sX, sY, er, ep, es, eq, eAB, hp, hq⟩ := num_pack sA sB mA mB
  obtain ⟨ps, eps, hgp, hlp, lps, pok, pbt⟩ := pts_pack sA sB mA mB
  clear sA sB mA mB
  go_wp2_with fail
  refine (union_e hA hB e1.out).mono ?_
  rintro e w3 ⟨vU, rfl, hx3, hU⟩
  obtain ⟨pU, qU, rfl, -, hU⟩ := hU.form
  replace hx := hx.then hx3
  replace hA := hA.mono mono_ItvR hx3.ple
  replace hB := hB.mono mono_ItvR hx3.ple
  clear hx3 e1
  go_wp2_with fail
  refine (meet_e hA hB e2.out).mono ?_
  rintro e w4 ⟨vM, rfl, hx4, hM⟩
  obtain ⟨pM, qM, rfl, -, hM⟩ := hM.form
  replace hx := hx.then hx4
  replace hA := hA.mono mono_ItvR hx4.ple
  replace hB := hB.mono mono_ItvR hx4.ple
  replace hU := hU.mono mono_ItvR hx4.ple
  clear hx4 e2
  go_wp2_with fail
  refine (not_e hA e3.out).mono ?_
  rintro e w5 ⟨vNA, rfl, hx5, hNA⟩
  obtain ⟨pNA, qNA, rfl, -, hNA⟩ := hNA.form
  replace hx := hx.then hx5
  replace hA := hA.mono mono_ItvR hx5.ple
  replace hB := hB.mono mono_ItvR hx5.ple
  replace hU := hU.mono mono_ItvR hx5.ple
  replace hM := hM.mono mono_ItvR hx5.ple
  clear hx5 e3
  go_wp2_with fail
  refine (not_e hB e4.out).mono ?_
  rintro e w6 ⟨vNB, rfl, hx6, hNB⟩
  obtain ⟨pNB, qNB, rfl, -, hNB⟩ := hNB.form
  replace hx := hx.then hx6
  replace hA := hA.mono mono_ItvR hx6.ple
  replace hB := hB.mono mono_ItvR hx6.ple
  replace hU := hU.mono mono_ItvR hx6.ple
  replace hM := hM.mono mono_ItvR hx6.ple
  replace hNA := hNA.mono mono_ItvR hx6.ple
  clear hx6 e4
  go_wp2_with fail
  refine (hra.out _).mono ?_
  rintro e w7 ⟨⟨n0, d0⟩, ok0, rfl, hx7⟩
  unfold raA
  dsimp only
  replace hx := hx.then hx7
  replace hA := hA.mono mono_ItvR hx7.ple
  replace hB := hB.mono mono_ItvR hx7.ple
  replace hU := hU.mono mono_ItvR hx7.ple
  replace hM := hM.mono mono_ItvR hx7.ple
  replace hNA := hNA.mono mono_ItvR hx7.ple
  replace hNB := hNB.mono mono_ItvR hx7.ple
  clear hx7 hra
  have hI0 := ok0.I
  replace ok0 := Lib.hid ok0
  go_wp2_with fail
  refine RetV_at (hbo.out _) ?_
  intro w8 hx8
  replace hx := hx.then hx8
  replace hA := hA.mono mono_ItvR hx8.ple
  replace hB := hB.mono mono_ItvR hx8.ple
  replace hU := hU.mono mono_ItvR hx8.ple
  replace hM := hM.mono mono_ItvR hx8.ple
  replace hNA := hNA.mono mono_ItvR hx8.ple
  replace hNB := hNB.mono mono_ItvR hx8.ple
  clear hx8
  go_wp2_with fail
  refine RetV_at (hwh.out _) ?_
  intro w9 hx9
  replace hx := hx.then hx9
  replace hA := hA.mono mono_ItvR hx9.ple
  replace hB := hB.mono mono_ItvR hx9.ple
  replace hU := hU.mono mono_ItvR hx9.ple
  replace hM := hM.mono mono_ItvR hx9.ple
  replace hNA := hNA.mono mono_ItvR hx9.ple
  replace hNB := hNB.mono mono_ItvR hx9.ple
  clear hx9
  clear hbo hwh
  go_upto_region 10 with (fail)
  have hx9 := Ext.new w9 (.cells #[.int .i64 n0, .int .i64 d0, .int .i64 mm, .int .i64 1] 40)
  have hT := rats2' (r1 := ⟨n0, d0⟩) (r2 := ⟨mm, 1⟩) (Proofs.Ytmbkefgmiehdiaa.Own.new w9 #[.int .i64 n0, .int .i64 d0, .int .i64 mm, .int .i64 1] 40) hI0 hmm.out.I
  change RatsR (ph (w9.alloc (.cells #[.int .i64 n0, .int .i64 d0, .int .i64 mm, .int .i64 1] 40))) _ _ at hT
  replace hx := hx.then hx9
  replace hA := hA.mono mono_ItvR hx9.ple
  replace hB := hB.mono mono_ItvR hx9.ple
  replace hU := hU.mono mono_ItvR hx9.ple
  replace hM := hM.mono mono_ItvR hx9.ple
  replace hNA := hNA.mono mono_ItvR hx9.ple
  replace hNB := hNB.mono mono_ItvR hx9.ple
  clear hx9
  generalize w9.heap.size = g19 at *
  generalize w9.alloc _ = W1 at *
  have hx10 := Ext.new W1 (.cells #[.slice pA A.length qA, .slice pB B.length qB] 23)
  have hSS := sets2' (Proofs.Ytmbkefgmiehdiaa.Own.new W1 #[.slice pA A.length qA, .slice pB B.length qB] 23) (hA.mono mono_ItvR hx10.ple) (hB.mono mono_ItvR hx10.ple)
  have hpt := points_c _ _ _ hSS hgp.out hlp
  rw [eps.out] at hpt
  replace hpt := Lib.hid hpt
  clear hSS hgp hlp eps
  go_wp2_with fail
  refine hpt.out.mono ?_
  rintro e w11 ⟨vP, rfl, hx11, hP⟩
  replace hx11 := hx10.then hx11
  replace hx := hx.then hx11
  replace hA := hA.mono mono_ItvR hx11.ple
  replace hB := hB.mono mono_ItvR hx11.ple
  replace hU := hU.mono mono_ItvR hx11.ple
  replace hM := hM.mono mono_ItvR hx11.ple
  replace hNA := hNA.mono mono_ItvR hx11.ple
  replace hNB := hNB.mono mono_ItvR hx11.ple
  replace hT := hT.mono mono_RatR hx11.ple
  clear hx11 hx10 hpt
  obtain ⟨pP, qP, rfl, -, hP⟩ := hP.form
  have hLt := Late.start (hm := mono_RatR) (T := 40) hT ⟨_, rfl⟩ (by simp)
  generalize hNS0 : [(⟨n0, d0⟩ : Rat2), ⟨mm, 1⟩] = NS0 at *
  have hok0 : Hid (∀ x ∈ NS0, RatOk x) := Lib.hid (by rw [← hNS0]; intro x hx; simp at hx; exact hx.elim (fun e => by rw [e]; exact ok0.out) (fun e => by rw [e]; exact hmm.out))
  have hl0 : NS0.length = 2 := by rw [← hNS0]; rfl
  have hl0' : Hid (NS0.length = 2) := hl0
  clear hNS0 hmm ok0 hI0 hT
  clear hl0
  obtain ⟨N, hN⟩ : ∃ N, ps.length = N := ⟨_, rfl⟩
  rw [hN] at lps hP ⊢
  replace hN := Lib.hid hN
  generalize some (⟨g19, 0, none⟩ : Addr) = a19 at *
  go_upto_block 0 with (fail)
  go_cut [19] (fun vo wx => ∃ ns : List Rat2, ns.length ≤ 42 ∧ Hid (∀ x ∈ ns, RatOk x) ∧ RatsR (ph wx) vo ns ∧ Ext w11 wx)
  case first =>
    clear e5 e6 hnum sX sY er ep es eq eAB hp hq hA hB hU hM hNA hNB
    go_wp2_with fail
    go_loopw [19, 21] (fun vo vi wr => ∃ (k : Nat) (ns : List Rat2), k ≤ N ∧ vi = .int .i64 k ∧ ns.length ≤ 2 + 2 * k ∧ Hid (∀ x ∈ ns, RatOk x) ∧ Late mono_RatR 2 40 w11 vo ns wr) (fun _ vi _ => N - (intOf vi).toNat)
    case atStart => exact ⟨0, NS0, by omega, rfl, by rw [hl0'.out]; omega, hok0, hLt⟩
    case round =>
      clear hLt hok0 hl0'
      obtain ⟨k, ns, hk, rfl, hnl, hok, hL⟩ := hrel
      rcases (Decidable.em (k < N)).symm with hlt | hlt
      · have hja : decide (k < N) = false := by simpa using hlt
        have hrp := hL.rep
        have hex := hL.ex
        go_wp2_with fail
        go_meet
        case rel => exact ⟨ns, by omega, hok, hrp, hex⟩
      · have hja : decide (k < N) = true := decide_eq_true hlt
        have hkl : k < ps.length := by rw [hN.out]; exact hlt
        obtain ⟨b, o, rfl, g0, g1, gI, gl⟩ := RatsR.at (hP.mono mono_RatR hL.ex.ple) k hkl
        have hrk : Hid (RatOk (ps[k]'hkl)) := Lib.hid (pok.out k hkl)
        have hIk := hrk.out.I
        have hbt := fun j (h : j + 1 = k) => pbt.out j (by rw [hN.out]; omega)
        generalize hpk : (ps[k]'hkl) = x at *
        obtain ⟨xn, xd⟩ := x
        dsimp only at *
        have hpk' := Lib.hid hpk
        clear hpk
        have hL1 := hL.ext (Ext.new wr (.cells #[.int .i64 xn, .int .i64 xd] 40))
        have hS := Src.lit1 (H := noH) (E := RatR) (sz := 2) (w := wr.alloc (.cells #[.int .i64 xn, .int .i64 xd] 40)) (b := wr.heap.size) (x := (⟨xn, xd⟩ : Rat2)) (cs := [.int .i64 xn, .int .i64 xd]) ⟨rfl, hIk⟩ rfl (fun j => by rw [(Proofs.Ytmbkefgmiehdiaa.Own.new wr #[.int .i64 xn, .int .i64 xd] 40).facts.1]; simp)
        replace hbt := Lib.hid hbt
        go_wp2_with (first | (at_builtin; refine wpList_append_L rfl _ _ 51 rfl Try.underlying51 infoRat rfl rfl rfl flatRat hL1 hS (by simp) one_RatR ?c3 ?c4 ?c5))
        case c3 => simp; omega
        case c4 => simp; omega
        case c5 =>
          intro v1 w1 hL2
          clear hL hL1 hS g0 g1 gl
          have hok1 : Hid (∀ y ∈ ns ++ [(⟨xn, xd⟩ : Rat2)], RatOk y) := Lib.hid (fun y hy => (List.mem_append.1 hy).elim (hok.out y) (fun h => by rw [List.mem_singleton.1 h]; exact hrk.out))
          have hln : (ns ++ [(⟨xn, xd⟩ : Rat2)]).length = ns.length + 1 := by simp
          generalize ns ++ [(⟨xn, xd⟩ : Rat2)] = ns1 at *
          replace hln : ns1.length ≤ 2 + 2 * k + 1 := by omega
          go_upto_region 15 with (fail)
          rcases Nat.eq_zero_or_pos k with h0 | h0
          · subst h0
            go_wp2_with fail
            go_roundw
            case rel => exact ⟨1, ns1, by omega, by go_num, by omega, hok1, hL2⟩
            case measure => simp [intOf]; omega
          · obtain ⟨j, hj⟩ : ∃ j, j + 1 = k := ⟨k - 1, by omega⟩
            have hjN : j < N := by omega
            obtain ⟨z, ez, hz⟩ := hbt.out j hj
            have hjl : j < ps.length := by rw [hN.out]; exact hjN
            obtain ⟨b', o', e', g0, g1, gI', gl⟩ := RatsR.at (hP.mono mono_RatR hL2.ex.ple) j hjl
            cases e'
            obtain ⟨b', o', e', f0, f1, -, -⟩ := RatsR.at (hP.mono mono_RatR hL2.ex.ple) k hkl
            cases e'
            rw [hpk'.out] at f0 f1
            have hjb : decide (j < N) = true := decide_eq_true hjN
            have hwj : IntKind.i64.wrap ((k : Int) - 1) = (j : Int) := by rw [IntKind.wrap_i64]; omega
            have hk0 : decide (0 < k) = true := decide_eq_true h0
            have hk0' : decide (0 < (k : Int)) = true := by simp; omega
            have hbw := fun w => btw_c ps[j] ps[k] w gI' (by rw [hpk'.out]; exact hIk)
            have ez' : betwS ps[j] ps[k] = (z, 0) := by subst hj; exact ez
            rw [ez', hpk'.out] at hbw
            clear ez ez' hbt
            generalize (ps[j]'hjl) = y at *
            obtain ⟨yn, yd⟩ := y
            obtain ⟨zn, zd⟩ := z
            simp only [raE, raA] at hbw
            dsimp only at *
            replace hbw := Lib.hid hbw
            have hzI := hz.I
            replace hz := Lib.hid hz
            replace hj := Lib.hid hj

            go_upto_region 16 with (fail)
            go_cut [22, 23] (fun v22 v23 wx => ∃ ga, v22 = .pointer (some ⟨ga, 0, none⟩) ∧ v23 = .int .i64 0 ∧ Own wx ga #[.int .i64 zn, .int .i64 zd] 40 ∧ Ext w1 wx)
            case first =>
              clear hL2
              refine wp_region_any (by kernel_rfl) ?_
              change wpAny _ _ _ _ _ _ _ (World.drew _)
              (refine wpAny_take (i := 0) (v := ?_) rfl (by kernel_rfl) (by kernel_rfl) (by kernel_rfl) (fun _ _ _ h => h) (Or.inl ⟨by rfl, ?_⟩) ?_; rotate_left; (focus ((intro w; go_simp); try (with_reducible rfl))); (try simp only [Act.put, List.setIfInBounds_toArray, List.set_cons_zero, List.set_cons_succ]))
              (refine wpAny_take (i := 1) (v := ?_) rfl (by kernel_rfl) (by kernel_rfl) (by kernel_rfl) (fun _ _ _ h => h) (Or.inl ⟨by rfl, ?_⟩) ?_; rotate_left; (focus ((intro w; go_simp); try (with_reducible rfl))); (try simp only [Act.put, List.setIfInBounds_toArray, List.set_cons_zero, List.set_cons_succ]))
              (refine wpAny_take (i := 2) (v := ?_) rfl (by kernel_rfl) (by kernel_rfl) (by kernel_rfl) (fun _ _ _ h => h) (Or.inl ⟨by rfl, ?_⟩) ?_; rotate_left; (focus ((intro w; go_simp); try (with_reducible rfl))); (try simp only [Act.put, List.setIfInBounds_toArray, List.set_cons_zero, List.set_cons_succ]))
              (refine wpAny_take (i := 3) (v := ?_) rfl (by kernel_rfl) (by kernel_rfl) (by kernel_rfl) (fun _ _ _ h => h) (Or.inl ⟨by rfl, ?_⟩) ?_; rotate_left; (focus ((intro w; go_simp); try (with_reducible rfl))); (try simp only [Act.put, List.setIfInBounds_toArray, List.set_cons_zero, List.set_cons_succ]))
              (refine wpAny_take (i := 5) (v := ?_) rfl (by kernel_rfl) (by kernel_rfl) (by kernel_rfl) (fun _ _ _ h => h) (Or.inl ⟨by rfl, ?_⟩) ?_; rotate_left; (focus ((intro w; go_simp); try (with_reducible rfl))); (try simp only [Act.put, List.setIfInBounds_toArray, List.set_cons_zero, List.set_cons_succ]))
              (refine wpAny_take (i := 6) (v := ?_) rfl (by kernel_rfl) (by kernel_rfl) (by kernel_rfl) (fun _ _ _ h => h) (Or.inl ⟨by rfl, ?_⟩) ?_; rotate_left; (focus ((intro w; go_simp); try (with_reducible rfl))); (try simp only [Act.put, List.setIfInBounds_toArray, List.set_cons_zero, List.set_cons_succ]))
              (refine wpAny_take (i := 7) (v := ?_) rfl (by kernel_rfl) (by kernel_rfl) (by kernel_rfl) (fun _ _ _ h => h) (Or.inl ⟨by rfl, ?_⟩) ?_; rotate_left; (focus ((intro w; go_simp); try (with_reducible rfl))); (try simp only [Act.put, List.setIfInBounds_toArray, List.set_cons_zero, List.set_cons_succ]))
              refine wpAny_ready (rs := [4, 8, 13]) (by kernel_rfl) (by simp) ?_
              refine AllReady.cons rfl (fun K hK => ?_) (AllReady.cons rfl (fun K hK => ?_) (AllReady.cons rfl (fun K hK => ?_) AllReady.nil))
              · go_simp
                refine hK _ _ ?_
                clear hK K
                refine wpAny_ready (rs := [8, 13]) (by kernel_rfl) (by simp) ?_
                refine AllReady.cons rfl (fun K hK => ?_) (AllReady.cons rfl (fun K hK => ?_) AllReady.nil)
                · go_simp
                  refine hK _ _ ?_
                  clear hK K
                  refine wpAny_ready (rs := [9, 13]) (by kernel_rfl) (by simp) ?_
                  refine AllReady.cons rfl (fun K hK => ?_) (AllReady.cons rfl (fun K hK => ?_) AllReady.nil)
                  · go_simp
                    refine RetV_at (hbw.out _) ?_
                    intro w5 hx5
                    refine hK _ _ ?_
                    clear hK K
                    (refine wpAny_take (i := 10) (v := ?_) rfl (by kernel_rfl) (by kernel_rfl) (by kernel_rfl) (fun _ _ _ h => h) (Or.inl ⟨by rfl, ?_⟩) ?_; rotate_left; (focus ((intro w; go_simp); try (with_reducible rfl))); (try simp only [Act.put, List.setIfInBounds_toArray, List.set_cons_zero, List.set_cons_succ]))
                    (refine wpAny_take (i := 11) (v := ?_) rfl (by kernel_rfl) (by kernel_rfl) (by kernel_rfl) (fun _ _ _ h => h) (Or.inl ⟨by rfl, ?_⟩) ?_; rotate_left; (focus ((intro w; go_simp); try (with_reducible rfl))); (try simp only [Act.put, List.setIfInBounds_toArray, List.set_cons_zero, List.set_cons_succ]))
                    (refine wpAny_take (i := 12) (v := ?_) rfl (by kernel_rfl) (by kernel_rfl) (by kernel_rfl) (fun _ _ _ h => h) (Or.inl ⟨by rfl, ?_⟩) ?_; rotate_left; (focus ((intro w; go_simp); try (with_reducible rfl))); (try simp only [Act.put, List.setIfInBounds_toArray, List.set_cons_zero, List.set_cons_succ]))
                    refine wpAny_ready (rs := [13]) (by kernel_rfl) (by simp) ?_
                    refine AllReady.cons rfl (fun K hK => ?_) AllReady.nil
                    · go_simp
                      refine hK _ _ ?_
                      clear hK K
                      (refine wpAny_ready (rs := [14]) (by kernel_rfl) (by simp) ?_; refine AllReady.cons rfl (fun K hK => ?_) AllReady.nil; go_simp; refine hK _ _ ?_; clear hK K)
                      (refine wpAny_take (i := 15) (v := ?_) rfl (by kernel_rfl) (by kernel_rfl) (by kernel_rfl) (fun _ _ _ h => h) (Or.inl ⟨by rfl, ?_⟩) ?_; rotate_left; (focus ((intro w; go_simp); try (with_reducible rfl))); (try simp only [Act.put, List.setIfInBounds_toArray, List.set_cons_zero, List.set_cons_succ]))
                      refine wpAny_done (by kernel_rfl) ?_ _
                      simp only [List.getElem_toArray, List.getElem_cons_succ, List.getElem_cons_zero, Act.put, List.setIfInBounds_toArray, List.set_cons_zero, List.set_cons_succ]
                      go_wp2_with fail
                      go_meet
                      case rel => exact ⟨_, rfl, rfl, Proofs.Ytmbkefgmiehdiaa.Own.new w5 _ _, (by repeat (first | (with_reducible assumption) | (with_reducible exact Ext.rfl' _) | (with_reducible exact Ext.new _ _) | (with_reducible refine Ext.alloc' ?_ _) | (with_reducible refine Ext.drew' ?_) | (with_reducible refine Ext.drewN' ?_ _) | (with_reducible refine Ext.set' ?_ ?_ _; rotate_left; (focus (first | omega | (simp; done) | (simp; omega)))) | (with_reducible refine Ext.then (b := ?_) ?_ ?_; rotate_left; rotate_left; (with_reducible assumption))))⟩
                  · go_simp
                    refine hK _ _ ?_
                    clear hK K
                    refine wpAny_ready (rs := [9]) (by kernel_rfl) (by simp) ?_
                    refine AllReady.cons rfl (fun K hK => ?_) AllReady.nil
                    · go_simp
                      refine RetV_at (hbw.out _) ?_
                      intro w5 hx5
                      refine hK _ _ ?_
                      clear hK K
                      (refine wpAny_take (i := 10) (v := ?_) rfl (by kernel_rfl) (by kernel_rfl) (by kernel_rfl) (fun _ _ _ h => h) (Or.inl ⟨by rfl, ?_⟩) ?_; rotate_left; (focus ((intro w; go_simp); try (with_reducible rfl))); (try simp only [Act.put, List.setIfInBounds_toArray, List.set_cons_zero, List.set_cons_succ]))
                      (refine wpAny_take (i := 11) (v := ?_) rfl (by kernel_rfl) (by kernel_rfl) (by kernel_rfl) (fun _ _ _ h => h) (Or.inl ⟨by rfl, ?_⟩) ?_; rotate_left; (focus ((intro w; go_simp); try (with_reducible rfl))); (try simp only [Act.put, List.setIfInBounds_toArray, List.set_cons_zero, List.set_cons_succ]))
                      (refine wpAny_take (i := 12) (v := ?_) rfl (by kernel_rfl) (by kernel_rfl) (by kernel_rfl) (fun _ _ _ h => h) (Or.inl ⟨by rfl, ?_⟩) ?_; rotate_left; (focus ((intro w; go_simp); try (with_reducible rfl))); (try simp only [Act.put, List.setIfInBounds_toArray, List.set_cons_zero, List.set_cons_succ]))
                      have hOa : Own w5 w1.heap.size #[.int .i64 0, .int .i64 0] 40 := (Proofs.Ytmbkefgmiehdiaa.Own.new w1.drew #[.int .i64 0, .int .i64 0] 40).keep hx5
                      obtain ⟨ca, fa⟩ := hOa.facts
                      have za := hOa.lt
                      (refine wpAny_ready (rs := [14]) (by kernel_rfl) (by simp) ?_; refine AllReady.cons rfl (fun K hK => ?_) AllReady.nil; go_simp; refine hK _ _ ?_; clear hK K)
                      (refine wpAny_take (i := 15) (v := ?_) rfl (by kernel_rfl) (by kernel_rfl) (by kernel_rfl) (fun _ _ _ h => h) (Or.inl ⟨by rfl, ?_⟩) ?_; rotate_left; (focus ((intro w; go_simp); try (with_reducible rfl))); (try simp only [Act.put, List.setIfInBounds_toArray, List.set_cons_zero, List.set_cons_succ]))
                      refine wpAny_done (by kernel_rfl) ?_ _
                      simp only [List.getElem_toArray, List.getElem_cons_succ, List.getElem_cons_zero, Act.put, List.setIfInBounds_toArray, List.set_cons_zero, List.set_cons_succ]
                      go_wp2_with fail
                      go_meet
                      case rel => exact ⟨_, rfl, rfl, by simpa using (hOa.set 0 _).set 1 _, (by repeat (first | (with_reducible assumption) | (with_reducible exact Ext.rfl' _) | (with_reducible exact Ext.new _ _) | (with_reducible refine Ext.alloc' ?_ _) | (with_reducible refine Ext.drew' ?_) | (with_reducible refine Ext.drewN' ?_ _) | (with_reducible refine Ext.set' ?_ ?_ _; rotate_left; (focus (first | omega | (simp; done) | (simp; omega)))) | (with_reducible refine Ext.then (b := ?_) ?_ ?_; rotate_left; rotate_left; (with_reducible assumption))))⟩
                · go_simp
                  refine hK _ _ ?_
                  clear hK K
                  refine wpAny_ready (rs := [8]) (by kernel_rfl) (by simp) ?_
                  refine AllReady.cons rfl (fun K hK => ?_) AllReady.nil
                  · go_simp
                    refine hK _ _ ?_
                    clear hK K
                    refine wpAny_ready (rs := [9]) (by kernel_rfl) (by simp) ?_
                    refine AllReady.cons rfl (fun K hK => ?_) AllReady.nil
                    · go_simp
                      refine RetV_at (hbw.out _) ?_
                      intro w5 hx5
                      refine hK _ _ ?_
                      clear hK K
                      (refine wpAny_take (i := 10) (v := ?_) rfl (by kernel_rfl) (by kernel_rfl) (by kernel_rfl) (fun _ _ _ h => h) (Or.inl ⟨by rfl, ?_⟩) ?_; rotate_left; (focus ((intro w; go_simp); try (with_reducible rfl))); (try simp only [Act.put, List.setIfInBounds_toArray, List.set_cons_zero, List.set_cons_succ]))
                      (refine wpAny_take (i := 11) (v := ?_) rfl (by kernel_rfl) (by kernel_rfl) (by kernel_rfl) (fun _ _ _ h => h) (Or.inl ⟨by rfl, ?_⟩) ?_; rotate_left; (focus ((intro w; go_simp); try (with_reducible rfl))); (try simp only [Act.put, List.setIfInBounds_toArray, List.set_cons_zero, List.set_cons_succ]))
                      (refine wpAny_take (i := 12) (v := ?_) rfl (by kernel_rfl) (by kernel_rfl) (by kernel_rfl) (fun _ _ _ h => h) (Or.inl ⟨by rfl, ?_⟩) ?_; rotate_left; (focus ((intro w; go_simp); try (with_reducible rfl))); (try simp only [Act.put, List.setIfInBounds_toArray, List.set_cons_zero, List.set_cons_succ]))
                      have hOa : Own w5 w1.heap.size #[.int .i64 0, .int .i64 0] 40 := (Proofs.Ytmbkefgmiehdiaa.Own.new w1.drew #[.int .i64 0, .int .i64 0] 40).keep hx5
                      obtain ⟨ca, fa⟩ := hOa.facts
                      have za := hOa.lt
                      (refine wpAny_ready (rs := [14]) (by kernel_rfl) (by simp) ?_; refine AllReady.cons rfl (fun K hK => ?_) AllReady.nil; go_simp; refine hK _ _ ?_; clear hK K)
                      (refine wpAny_take (i := 15) (v := ?_) rfl (by kernel_rfl) (by kernel_rfl) (by kernel_rfl) (fun _ _ _ h => h) (Or.inl ⟨by rfl, ?_⟩) ?_; rotate_left; (focus ((intro w; go_simp); try (with_reducible rfl))); (try simp only [Act.put, List.setIfInBounds_toArray, List.set_cons_zero, List.set_cons_succ]))
                      refine wpAny_done (by kernel_rfl) ?_ _
                      simp only [List.getElem_toArray, List.getElem_cons_succ, List.getElem_cons_zero, Act.put, List.setIfInBounds_toArray, List.set_cons_zero, List.set_cons_succ]
                      go_wp2_with fail
                      go_meet
                      case rel => exact ⟨_, rfl, rfl, by simpa using (hOa.set 0 _).set 1 _, (by repeat (first | (with_reducible assumption) | (with_reducible exact Ext.rfl' _) | (with_reducible exact Ext.new _ _) | (with_reducible refine Ext.alloc' ?_ _) | (with_reducible refine Ext.drew' ?_) | (with_reducible refine Ext.drewN' ?_ _) | (with_reducible refine Ext.set' ?_ ?_ _; rotate_left; (focus (first | omega | (simp; done) | (simp; omega)))) | (with_reducible refine Ext.then (b := ?_) ?_ ?_; rotate_left; rotate_left; (with_reducible assumption))))⟩
              · go_simp
                refine hK _ _ ?_
                clear hK K
                refine wpAny_ready (rs := [4, 13]) (by kernel_rfl) (by simp) ?_
                refine AllReady.cons rfl (fun K hK => ?_) (AllReady.cons rfl (fun K hK => ?_) AllReady.nil)
                · go_simp
                  refine hK _ _ ?_
                  clear hK K
                  refine wpAny_ready (rs := [9, 13]) (by kernel_rfl) (by simp) ?_
                  refine AllReady.cons rfl (fun K hK => ?_) (AllReady.cons rfl (fun K hK => ?_) AllReady.nil)
                  · go_simp
                    refine RetV_at (hbw.out _) ?_
                    intro w5 hx5
                    refine hK _ _ ?_
                    clear hK K
                    (refine wpAny_take (i := 10) (v := ?_) rfl (by kernel_rfl) (by kernel_rfl) (by kernel_rfl) (fun _ _ _ h => h) (Or.inl ⟨by rfl, ?_⟩) ?_; rotate_left; (focus ((intro w; go_simp); try (with_reducible rfl))); (try simp only [Act.put, List.setIfInBounds_toArray, List.set_cons_zero, List.set_cons_succ]))
                    (refine wpAny_take (i := 11) (v := ?_) rfl (by kernel_rfl) (by kernel_rfl) (by kernel_rfl) (fun _ _ _ h => h) (Or.inl ⟨by rfl, ?_⟩) ?_; rotate_left; (focus ((intro w; go_simp); try (with_reducible rfl))); (try simp only [Act.put, List.setIfInBounds_toArray, List.set_cons_zero, List.set_cons_succ]))
                    (refine wpAny_take (i := 12) (v := ?_) rfl (by kernel_rfl) (by kernel_rfl) (by kernel_rfl) (fun _ _ _ h => h) (Or.inl ⟨by rfl, ?_⟩) ?_; rotate_left; (focus ((intro w; go_simp); try (with_reducible rfl))); (try simp only [Act.put, List.setIfInBounds_toArray, List.set_cons_zero, List.set_cons_succ]))
                    refine wpAny_ready (rs := [13]) (by kernel_rfl) (by simp) ?_
                    refine AllReady.cons rfl (fun K hK => ?_) AllReady.nil
                    · go_simp
                      refine hK _ _ ?_
                      clear hK K
                      (refine wpAny_ready (rs := [14]) (by kernel_rfl) (by simp) ?_; refine AllReady.cons rfl (fun K hK => ?_) AllReady.nil; go_simp; refine hK _ _ ?_; clear hK K)
                      (refine wpAny_take (i := 15) (v := ?_) rfl (by kernel_rfl) (by kernel_rfl) (by kernel_rfl) (fun _ _ _ h => h) (Or.inl ⟨by rfl, ?_⟩) ?_; rotate_left; (focus ((intro w; go_simp); try (with_reducible rfl))); (try simp only [Act.put, List.setIfInBounds_toArray, List.set_cons_zero, List.set_cons_succ]))
                      refine wpAny_done (by kernel_rfl) ?_ _
                      simp only [List.getElem_toArray, List.getElem_cons_succ, List.getElem_cons_zero, Act.put, List.setIfInBounds_toArray, List.set_cons_zero, List.set_cons_succ]
                      go_wp2_with fail
                      go_meet
                      case rel => exact ⟨_, rfl, rfl, Proofs.Ytmbkefgmiehdiaa.Own.new w5 _ _, (by repeat (first | (with_reducible assumption) | (with_reducible exact Ext.rfl' _) | (with_reducible exact Ext.new _ _) | (with_reducible refine Ext.alloc' ?_ _) | (with_reducible refine Ext.drew' ?_) | (with_reducible refine Ext.drewN' ?_ _) | (with_reducible refine Ext.set' ?_ ?_ _; rotate_left; (focus (first | omega | (simp; done) | (simp; omega)))) | (with_reducible refine Ext.then (b := ?_) ?_ ?_; rotate_left; rotate_left; (with_reducible assumption))))⟩
                  · go_simp
                    refine hK _ _ ?_
                    clear hK K
                    refine wpAny_ready (rs := [9]) (by kernel_rfl) (by simp) ?_
                    refine AllReady.cons rfl (fun K hK => ?_) AllReady.nil
                    · go_simp
                      refine RetV_at (hbw.out _) ?_
                      intro w5 hx5
                      refine hK _ _ ?_
                      clear hK K
                      (refine wpAny_take (i := 10) (v := ?_) rfl (by kernel_rfl) (by kernel_rfl) (by kernel_rfl) (fun _ _ _ h => h) (Or.inl ⟨by rfl, ?_⟩) ?_; rotate_left; (focus ((intro w; go_simp); try (with_reducible rfl))); (try simp only [Act.put, List.setIfInBounds_toArray, List.set_cons_zero, List.set_cons_succ]))
                      (refine wpAny_take (i := 11) (v := ?_) rfl (by kernel_rfl) (by kernel_rfl) (by kernel_rfl) (fun _ _ _ h => h) (Or.inl ⟨by rfl, ?_⟩) ?_; rotate_left; (focus ((intro w; go_simp); try (with_reducible rfl))); (try simp only [Act.put, List.setIfInBounds_toArray, List.set_cons_zero, List.set_cons_succ]))
                      (refine wpAny_take (i := 12) (v := ?_) rfl (by kernel_rfl) (by kernel_rfl) (by kernel_rfl) (fun _ _ _ h => h) (Or.inl ⟨by rfl, ?_⟩) ?_; rotate_left; (focus ((intro w; go_simp); try (with_reducible rfl))); (try simp only [Act.put, List.setIfInBounds_toArray, List.set_cons_zero, List.set_cons_succ]))
                      have hOa : Own w5 w1.heap.size #[.int .i64 0, .int .i64 0] 40 := (Proofs.Ytmbkefgmiehdiaa.Own.new w1.drew #[.int .i64 0, .int .i64 0] 40).keep hx5
                      obtain ⟨ca, fa⟩ := hOa.facts
                      have za := hOa.lt
                      (refine wpAny_ready (rs := [14]) (by kernel_rfl) (by simp) ?_; refine AllReady.cons rfl (fun K hK => ?_) AllReady.nil; go_simp; refine hK _ _ ?_; clear hK K)
                      (refine wpAny_take (i := 15) (v := ?_) rfl (by kernel_rfl) (by kernel_rfl) (by kernel_rfl) (fun _ _ _ h => h) (Or.inl ⟨by rfl, ?_⟩) ?_; rotate_left; (focus ((intro w; go_simp); try (with_reducible rfl))); (try simp only [Act.put, List.setIfInBounds_toArray, List.set_cons_zero, List.set_cons_succ]))
                      refine wpAny_done (by kernel_rfl) ?_ _
                      simp only [List.getElem_toArray, List.getElem_cons_succ, List.getElem_cons_zero, Act.put, List.setIfInBounds_toArray, List.set_cons_zero, List.set_cons_succ]
                      go_wp2_with fail
                      go_meet
                      case rel => exact ⟨_, rfl, rfl, by simpa using (hOa.set 0 _).set 1 _, (by repeat (first | (with_reducible assumption) | (with_reducible exact Ext.rfl' _) | (with_reducible exact Ext.new _ _) | (with_reducible refine Ext.alloc' ?_ _) | (with_reducible refine Ext.drew' ?_) | (with_reducible refine Ext.drewN' ?_ _) | (with_reducible refine Ext.set' ?_ ?_ _; rotate_left; (focus (first | omega | (simp; done) | (simp; omega)))) | (with_reducible refine Ext.then (b := ?_) ?_ ?_; rotate_left; rotate_left; (with_reducible assumption))))⟩
                · go_simp
                  refine hK _ _ ?_
                  clear hK K
                  refine wpAny_ready (rs := [4]) (by kernel_rfl) (by simp) ?_
                  refine AllReady.cons rfl (fun K hK => ?_) AllReady.nil
                  · go_simp
                    refine hK _ _ ?_
                    clear hK K
                    refine wpAny_ready (rs := [9]) (by kernel_rfl) (by simp) ?_
                    refine AllReady.cons rfl (fun K hK => ?_) AllReady.nil
                    · go_simp
                      refine RetV_at (hbw.out _) ?_
                      intro w5 hx5
                      refine hK _ _ ?_
                      clear hK K
                      (refine wpAny_take (i := 10) (v := ?_) rfl (by kernel_rfl) (by kernel_rfl) (by kernel_rfl) (fun _ _ _ h => h) (Or.inl ⟨by rfl, ?_⟩) ?_; rotate_left; (focus ((intro w; go_simp); try (with_reducible rfl))); (try simp only [Act.put, List.setIfInBounds_toArray, List.set_cons_zero, List.set_cons_succ]))
                      (refine wpAny_take (i := 11) (v := ?_) rfl (by kernel_rfl) (by kernel_rfl) (by kernel_rfl) (fun _ _ _ h => h) (Or.inl ⟨by rfl, ?_⟩) ?_; rotate_left; (focus ((intro w; go_simp); try (with_reducible rfl))); (try simp only [Act.put, List.setIfInBounds_toArray, List.set_cons_zero, List.set_cons_succ]))
                      (refine wpAny_take (i := 12) (v := ?_) rfl (by kernel_rfl) (by kernel_rfl) (by kernel_rfl) (fun _ _ _ h => h) (Or.inl ⟨by rfl, ?_⟩) ?_; rotate_left; (focus ((intro w; go_simp); try (with_reducible rfl))); (try simp only [Act.put, List.setIfInBounds_toArray, List.set_cons_zero, List.set_cons_succ]))
                      have hOa : Own w5 w1.heap.size #[.int .i64 0, .int .i64 0] 40 := (Proofs.Ytmbkefgmiehdiaa.Own.new w1.drew #[.int .i64 0, .int .i64 0] 40).keep hx5
                      obtain ⟨ca, fa⟩ := hOa.facts
                      have za := hOa.lt
                      (refine wpAny_ready (rs := [14]) (by kernel_rfl) (by simp) ?_; refine AllReady.cons rfl (fun K hK => ?_) AllReady.nil; go_simp; refine hK _ _ ?_; clear hK K)
                      (refine wpAny_take (i := 15) (v := ?_) rfl (by kernel_rfl) (by kernel_rfl) (by kernel_rfl) (fun _ _ _ h => h) (Or.inl ⟨by rfl, ?_⟩) ?_; rotate_left; (focus ((intro w; go_simp); try (with_reducible rfl))); (try simp only [Act.put, List.setIfInBounds_toArray, List.set_cons_zero, List.set_cons_succ]))
                      refine wpAny_done (by kernel_rfl) ?_ _
                      simp only [List.getElem_toArray, List.getElem_cons_succ, List.getElem_cons_zero, Act.put, List.setIfInBounds_toArray, List.set_cons_zero, List.set_cons_succ]
                      go_wp2_with fail
                      go_meet
                      case rel => exact ⟨_, rfl, rfl, by simpa using (hOa.set 0 _).set 1 _, (by repeat (first | (with_reducible assumption) | (with_reducible exact Ext.rfl' _) | (with_reducible exact Ext.new _ _) | (with_reducible refine Ext.alloc' ?_ _) | (with_reducible refine Ext.drew' ?_) | (with_reducible refine Ext.drewN' ?_ _) | (with_reducible refine Ext.set' ?_ ?_ _; rotate_left; (focus (first | omega | (simp; done) | (simp; omega)))) | (with_reducible refine Ext.then (b := ?_) ?_ ?_; rotate_left; rotate_left; (with_reducible assumption))))⟩
              · go_simp
                refine hK _ _ ?_
                clear hK K
                refine wpAny_ready (rs := [4, 8]) (by kernel_rfl) (by simp) ?_
                refine AllReady.cons rfl (fun K hK => ?_) (AllReady.cons rfl (fun K hK => ?_) AllReady.nil)
                · go_simp
                  refine hK _ _ ?_
                  clear hK K
                  refine wpAny_ready (rs := [8]) (by kernel_rfl) (by simp) ?_
                  refine AllReady.cons rfl (fun K hK => ?_) AllReady.nil
                  · go_simp
                    refine hK _ _ ?_
                    clear hK K
                    refine wpAny_ready (rs := [9]) (by kernel_rfl) (by simp) ?_
                    refine AllReady.cons rfl (fun K hK => ?_) AllReady.nil
                    · go_simp
                      refine RetV_at (hbw.out _) ?_
                      intro w5 hx5
                      refine hK _ _ ?_
                      clear hK K
                      (refine wpAny_take (i := 10) (v := ?_) rfl (by kernel_rfl) (by kernel_rfl) (by kernel_rfl) (fun _ _ _ h => h) (Or.inl ⟨by rfl, ?_⟩) ?_; rotate_left; (focus ((intro w; go_simp); try (with_reducible rfl))); (try simp only [Act.put, List.setIfInBounds_toArray, List.set_cons_zero, List.set_cons_succ]))
                      (refine wpAny_take (i := 11) (v := ?_) rfl (by kernel_rfl) (by kernel_rfl) (by kernel_rfl) (fun _ _ _ h => h) (Or.inl ⟨by rfl, ?_⟩) ?_; rotate_left; (focus ((intro w; go_simp); try (with_reducible rfl))); (try simp only [Act.put, List.setIfInBounds_toArray, List.set_cons_zero, List.set_cons_succ]))
                      (refine wpAny_take (i := 12) (v := ?_) rfl (by kernel_rfl) (by kernel_rfl) (by kernel_rfl) (fun _ _ _ h => h) (Or.inl ⟨by rfl, ?_⟩) ?_; rotate_left; (focus ((intro w; go_simp); try (with_reducible rfl))); (try simp only [Act.put, List.setIfInBounds_toArray, List.set_cons_zero, List.set_cons_succ]))
                      have hOa : Own w5 w1.heap.size #[.int .i64 0, .int .i64 0] 40 := (Proofs.Ytmbkefgmiehdiaa.Own.new w1.drew #[.int .i64 0, .int .i64 0] 40).keep hx5
                      obtain ⟨ca, fa⟩ := hOa.facts
                      have za := hOa.lt
                      (refine wpAny_ready (rs := [14]) (by kernel_rfl) (by simp) ?_; refine AllReady.cons rfl (fun K hK => ?_) AllReady.nil; go_simp; refine hK _ _ ?_; clear hK K)
                      (refine wpAny_take (i := 15) (v := ?_) rfl (by kernel_rfl) (by kernel_rfl) (by kernel_rfl) (fun _ _ _ h => h) (Or.inl ⟨by rfl, ?_⟩) ?_; rotate_left; (focus ((intro w; go_simp); try (with_reducible rfl))); (try simp only [Act.put, List.setIfInBounds_toArray, List.set_cons_zero, List.set_cons_succ]))
                      refine wpAny_done (by kernel_rfl) ?_ _
                      simp only [List.getElem_toArray, List.getElem_cons_succ, List.getElem_cons_zero, Act.put, List.setIfInBounds_toArray, List.set_cons_zero, List.set_cons_succ]
                      go_wp2_with fail
                      go_meet
                      case rel => exact ⟨_, rfl, rfl, by simpa using (hOa.set 0 _).set 1 _, (by repeat (first | (with_reducible assumption) | (with_reducible exact Ext.rfl' _) | (with_reducible exact Ext.new _ _) | (with_reducible refine Ext.alloc' ?_ _) | (with_reducible refine Ext.drew' ?_) | (with_reducible refine Ext.drewN' ?_ _) | (with_reducible refine Ext.set' ?_ ?_ _; rotate_left; (focus (first | omega | (simp; done) | (simp; omega)))) | (with_reducible refine Ext.then (b := ?_) ?_ ?_; rotate_left; rotate_left; (with_reducible assumption))))⟩
                · go_simp
                  refine hK _ _ ?_
                  clear hK K
                  refine wpAny_ready (rs := [4]) (by kernel_rfl) (by simp) ?_
                  refine AllReady.cons rfl (fun K hK => ?_) AllReady.nil
                  · go_simp
                    refine hK _ _ ?_
                    clear hK K
                    refine wpAny_ready (rs := [9]) (by kernel_rfl) (by simp) ?_
                    refine AllReady.cons rfl (fun K hK => ?_) AllReady.nil
                    · go_simp
                      refine RetV_at (hbw.out _) ?_
                      intro w5 hx5
                      refine hK _ _ ?_
                      clear hK K
                      (refine wpAny_take (i := 10) (v := ?_) rfl (by kernel_rfl) (by kernel_rfl) (by kernel_rfl) (fun _ _ _ h => h) (Or.inl ⟨by rfl, ?_⟩) ?_; rotate_left; (focus ((intro w; go_simp); try (with_reducible rfl))); (try simp only [Act.put, List.setIfInBounds_toArray, List.set_cons_zero, List.set_cons_succ]))
                      (refine wpAny_take (i := 11) (v := ?_) rfl (by kernel_rfl) (by kernel_rfl) (by kernel_rfl) (fun _ _ _ h => h) (Or.inl ⟨by rfl, ?_⟩) ?_; rotate_left; (focus ((intro w; go_simp); try (with_reducible rfl))); (try simp only [Act.put, List.setIfInBounds_toArray, List.set_cons_zero, List.set_cons_succ]))
                      (refine wpAny_take (i := 12) (v := ?_) rfl (by kernel_rfl) (by kernel_rfl) (by kernel_rfl) (fun _ _ _ h => h) (Or.inl ⟨by rfl, ?_⟩) ?_; rotate_left; (focus ((intro w; go_simp); try (with_reducible rfl))); (try simp only [Act.put, List.setIfInBounds_toArray, List.set_cons_zero, List.set_cons_succ]))
                      have hOa : Own w5 w1.heap.size #[.int .i64 0, .int .i64 0] 40 := (Proofs.Ytmbkefgmiehdiaa.Own.new w1.drew #[.int .i64 0, .int .i64 0] 40).keep hx5
                      obtain ⟨ca, fa⟩ := hOa.facts
                      have za := hOa.lt
                      (refine wpAny_ready (rs := [14]) (by kernel_rfl) (by simp) ?_; refine AllReady.cons rfl (fun K hK => ?_) AllReady.nil; go_simp; refine hK _ _ ?_; clear hK K)
                      (refine wpAny_take (i := 15) (v := ?_) rfl (by kernel_rfl) (by kernel_rfl) (by kernel_rfl) (fun _ _ _ h => h) (Or.inl ⟨by rfl, ?_⟩) ?_; rotate_left; (focus ((intro w; go_simp); try (with_reducible rfl))); (try simp only [Act.put, List.setIfInBounds_toArray, List.set_cons_zero, List.set_cons_succ]))
                      refine wpAny_done (by kernel_rfl) ?_ _
                      simp only [List.getElem_toArray, List.getElem_cons_succ, List.getElem_cons_zero, Act.put, List.setIfInBounds_toArray, List.set_cons_zero, List.set_cons_succ]
                      go_wp2_with fail
                      go_meet
                      case rel => exact ⟨_, rfl, rfl, by simpa using (hOa.set 0 _).set 1 _, (by repeat (first | (with_reducible assumption) | (with_reducible exact Ext.rfl' _) | (with_reducible exact Ext.new _ _) | (with_reducible refine Ext.alloc' ?_ _) | (with_reducible refine Ext.drew' ?_) | (with_reducible refine Ext.drewN' ?_ _) | (with_reducible refine Ext.set' ?_ ?_ _; rotate_left; (focus (first | omega | (simp; done) | (simp; omega)))) | (with_reducible refine Ext.then (b := ?_) ?_ ?_; rotate_left; rotate_left; (with_reducible assumption))))⟩
            case rest =>
              obtain ⟨ga, rfl, rfl, hOa, hxa⟩ := hcut
              clear g0 g1 f0 f1 gl hbw
              have hL3 := hL2.ext hxa
              obtain ⟨ca, fa⟩ := hOa.facts
              have za := hOa.lt
              have a0 : _ = some (Value.int .i64 zn) := ca 0
              have a1 : _ = some (Value.int .i64 zd) := ca 1
              clear ca hL2 hxa
              have hL4 := hL3.ext (Ext.new wc (.cells #[.int .i64 zn, .int .i64 zd] 40))
              have hS := Src.lit1 (H := noH) (E := RatR) (sz := 2) (w := wc.alloc (.cells #[.int .i64 zn, .int .i64 zd] 40)) (b := wc.heap.size) (x := (⟨zn, zd⟩ : Rat2)) (cs := [.int .i64 zn, .int .i64 zd]) ⟨rfl, hzI⟩ rfl (fun j => by rw [(Proofs.Ytmbkefgmiehdiaa.Own.new wc #[.int .i64 zn, .int .i64 zd] 40).facts.1]; simp)
              go_wp2_with (first | (at_builtin; refine wpList_append_L rfl _ _ 51 rfl Try.underlying51 infoRat rfl rfl rfl flatRat hL4 hS (by simp) one_RatR ?d3 ?d4 ?d5))
              case d3 => simp; omega
              case d4 => simp; omega
              case d5 =>
                intro v2 w2 hL5
                clear hL3 hL4 hS hOa fa za a0 a1
                have hok2 : Hid (∀ y ∈ ns1 ++ [(⟨zn, zd⟩ : Rat2)], RatOk y) := Lib.hid (fun y hy => (List.mem_append.1 hy).elim (hok1.out y) (fun h => by rw [List.mem_singleton.1 h]; exact hz.out))
                have hln2 : (ns1 ++ [(⟨zn, zd⟩ : Rat2)]).length = ns1.length + 1 := by simp
                generalize ns1 ++ [(⟨zn, zd⟩ : Rat2)] = ns2 at *
                go_wp2_with fail
                go_roundw
                case rel => exact ⟨k + 1, ns2, by omega, by go_num, by omega, hok2, hL5⟩
                case measure => simp [intOf]; omega
  case rest =>
    clear hLt hok0 hl0' pok pbt
    obtain ⟨ns, lns, okns, hns, hx11⟩ := hcut
    replace hx := hx.then hx11
    replace hA := hA.mono mono_ItvR hx11.ple
    replace hB := hB.mono mono_ItvR hx11.ple
    replace hU := hU.mono mono_ItvR hx11.ple
    replace hM := hM.mono mono_ItvR hx11.ple
    replace hNA := hNA.mono mono_ItvR hx11.ple
    replace hNB := hNB.mono mono_ItvR hx11.ple
    clear hx11 hP
    obtain ⟨pn, qn, rfl, -, hns⟩ := hns.form
    have hAo := Lib.hid (fun (r : Rat2) (hr : RatOk r) w' (hx : Ext wc w') => hasL_c _ A r w' (hA.mono mono_ItvR hx.ple) hr.I)
    have hBo := Lib.hid (fun (r : Rat2) (hr : RatOk r) w' (hx : Ext wc w') => hasL_c _ B r w' (hB.mono mono_ItvR hx.ple) hr.I)
    have hUo := Lib.hid (fun (r : Rat2) (hr : RatOk r) w' (hx : Ext wc w') => hasL_c _ U r w' (hU.mono mono_ItvR hx.ple) hr.I)
    have hMo := Lib.hid (fun (r : Rat2) (hr : RatOk r) w' (hx : Ext wc w') => hasL_c _ M r w' (hM.mono mono_ItvR hx.ple) hr.I)
    have hNAo := Lib.hid (fun (r : Rat2) (hr : RatOk r) w' (hx : Ext wc w') => hasL_c _ NA r w' (hNA.mono mono_ItvR hx.ple) hr.I)
    obtain ⟨L, hL⟩ : ∃ L, ns.length = L := ⟨_, rfl⟩
    rw [hL] at lns hns ⊢
    replace hL := Lib.hid hL
    generalize hlA : A.length = nA at *
    generalize hlB : B.length = nB at *
    generalize hlU : U.length = nU at *
    generalize hlM : M.length = nM at *
    generalize hlNA : NA.length = nNA at *
    generalize hlNB : NB.length = nNB at *
    go_upto_block 2 with (fail)
    go_cut [] (fun wx => Ext wc wx)
    case first =>
      clear e5 e6 sX sY er ep es eq eAB hp hq hA hB hU hM hNA hNB
      go_wp2_with fail
      go_loopw [24] (fun vi wr => ∃ k : Nat, k ≤ L ∧ vi = .int .i64 k ∧ Ext wc wr) (fun vi _ => L - (intOf vi).toNat)
      case atStart => exact ⟨0, by omega, rfl, Ext.rfl' _⟩
      case round =>
        obtain ⟨k, hk, rfl, hxr⟩ := hrel
        rcases (Decidable.em (k < L)).symm with hlt | hlt
        · have hja : decide (k < L) = false := by simpa using hlt
          go_wp2_with fail
          go_meet
          case rel => exact hxr
        · have hja : decide (k < L) = true := decide_eq_true hlt
          have hkl : k < ns.length := by rw [hL.out]; exact hlt
          obtain ⟨b, o, rfl, g0, g1, gI, gl⟩ := RatsR.at (hns.mono mono_RatR hxr.ple) k hkl
          have hrk := okns.out _ (List.getElem_mem hkl)
          obtain ⟨n1, n2, n3⟩ := hnum.out _ hrk
          have c1 := fun w' (hx : Ext wc w') => hAo.out _ hrk w' hx
          have c2 := fun w' (hx : Ext wc w') => hBo.out _ hrk w' hx
          have c3 := fun w' (hx : Ext wc w') => hUo.out _ hrk w' hx
          have c4 := fun w' (hx : Ext wc w') => hMo.out _ hrk w' hx
          have c5 := fun w' (hx : Ext wc w') => hNAo.out _ hrk w' hx
          rw [n1] at c3
          rw [n2] at c4
          rw [n3] at c5
          clear n1 n2 n3 hrk gI
          generalize hasL A (ns[k]'hkl) = x at *
          generalize hasL B (ns[k]'hkl) = y at *
          generalize (ns[k]'hkl) = z at *
          obtain ⟨zn, zd⟩ := z
          unfold raA at *
          dsimp only at *
          replace c1 := Lib.hid c1
          replace c2 := Lib.hid c2
          replace c3 := Lib.hid c3
          replace c4 := Lib.hid c4
          replace c5 := Lib.hid c5
          have hx0 := hxr
          go_wp2_with fail
          refine RetV_at (c1.out _ hxr) ?_
          intro w1 hx1
          replace hxr := hxr.then hx1
          replace g0 := hx1.cell1 g0
          replace g1 := hx1.cell1 g1
          replace gl := cell_lt g0
          clear hx1 c1
          go_wp2_with fail
          refine RetV_at (c2.out _ hxr) ?_
          intro w2 hx2
          replace hxr := hxr.then hx2
          replace g0 := hx2.cell1 g0
          replace g1 := hx2.cell1 g1
          replace gl := cell_lt g0
          clear hx2 c2
          go_upto_region 25 with (fail)
          cases x <;> cases y
          all_goals
            simp only [Bool.or_true, Bool.or_false, Bool.false_or, Bool.true_or, Bool.and_true, Bool.and_false, Bool.false_and, Bool.true_and, Bool.not_true, Bool.not_false, Bool.or_self, Bool.and_self] at c3 c4 c5
            go_wp2_with fail
            refine RetV_at (c3.out _ hxr) ?_
            intro w3 hx3
            replace hxr := hxr.then hx3
            replace g0 := hx3.cell1 g0
            replace g1 := hx3.cell1 g1
            replace gl := cell_lt g0
            clear hx3 c3
            go_wp2_with fail
            refine RetV_at (c4.out _ hxr) ?_
            intro w4 hx4
            replace hxr := hxr.then hx4
            replace g0 := hx4.cell1 g0
            replace g1 := hx4.cell1 g1
            replace gl := cell_lt g0
            clear hx4 c4
            go_wp2_with fail
            refine RetV_at (c5.out _ hxr) ?_
            intro w5 hx5
            replace hxr := hxr.then hx5
            clear hx5 c5
            go_wp2_with fail
            go_roundw
            case rel => exact ⟨k + 1, by omega, by go_num, hxr⟩
            case measure => simp [intOf]; omega
    case rest =>
      replace hx := hx.then hcut
      replace hA := hA.mono mono_ItvR hcut.ple
      replace hB := hB.mono mono_ItvR hcut.ple
      replace hNA := hNA.mono mono_ItvR hcut.ple
      replace hNB := hNB.mono mono_ItvR hcut.ple
      clear hcut hU hM hns hAo hBo hUo hMo hNAo hnum okns
      have hAB := fun va vb w' (ha : ItvsR (ph w') va A) (hb : ItvsR (ph w') vb B) => equal_c va vb A B w' ha hb
      rw [eAB.out] at hAB
      have hAh := Lib.hid (fun (r : Rat2) (hI : r.I) w' va (hA : ItvsR (ph w') va A) => hasL_c va A r w' hA hI)
      have hBh := Lib.hid (fun (r : Rat2) (hI : r.I) w' vb (hB : ItvsR (ph w') vb B) => hasL_c vb B r w' hB hI)
      have hp1 : p = true → r.I := fun h => (hp.out h).1.I
      have hq1 : q = true → s.I := fun h => (hq.out h).1.I
      have hp2 : p = true → hasL A r = true := fun h => (hp.out h).2.1
      have hp3 : p = true → hasL B r = false := fun h => (hp.out h).2.2
      have hq2 : q = true → hasL B s = true := fun h => (hq.out h).2.1
      have hq3 : q = true → hasL A s = false := fun h => (hq.out h).2.2
      have hPX := fun w' v (h : ItvsR (ph w') v X) => pick_c v X w' h
      rw [er.out, ep.out, sX.out] at hPX
      have hPY := fun w' v (h : ItvsR (ph w') v Y) => pick_c v Y w' h
      rw [es.out, eq.out, sY.out] at hPY
      have hrA := fun (h : p = true) w' va hA => hAh.out r (hp1 h) w' va hA
      have hrB := fun (h : p = true) w' vb hB => hBh.out r (hp1 h) w' vb hB
      have hsA := fun (h : q = true) w' va hA => hAh.out s (hq1 h) w' va hA
      have hsB := fun (h : q = true) w' vb hB => hBh.out s (hq1 h) w' vb hB
      clear hp hq er ep es eq sX sY eAB hAh hBh
      obtain ⟨rn, rd⟩ := r
      obtain ⟨sn, sd⟩ := s
      unfold raA at *
      dsimp only at *
      replace hAB := Lib.hid hAB
      replace hPX := Lib.hid hPX
      replace hPY := Lib.hid hPY
      replace hrA := Lib.hid hrA
      replace hrB := Lib.hid hrB
      replace hsA := Lib.hid hsA
      replace hsB := Lib.hid hsB
      replace hp1 := Lib.hid hp1
      replace hq1 := Lib.hid hq1
      replace hp2 := Lib.hid hp2
      replace hp3 := Lib.hid hp3
      replace hq2 := Lib.hid hq2
      replace hq3 := Lib.hid hq3
      go_wp2_with fail
      refine (meet_e hA hNB e5.out).mono ?_
      rintro e w12 ⟨vX, rfl, hx12, hX⟩
      obtain ⟨pX, qX, rfl, -, hX⟩ := hX.form
      replace hx := hx.then hx12
      replace hA := hA.mono mono_ItvR hx12.ple
      replace hB := hB.mono mono_ItvR hx12.ple
      replace hNA := hNA.mono mono_ItvR hx12.ple
      clear hx12 e5 hNB
      generalize hlX : X.length = nX at *
      go_wp2_with fail
      refine (meet_e hB hNA e6.out).mono ?_
      rintro e w13 ⟨vY, rfl, hx13, hY⟩
      obtain ⟨pY, qY, rfl, -, hY⟩ := hY.form
      replace hx := hx.then hx13
      replace hA := hA.mono mono_ItvR hx13.ple
      replace hB := hB.mono mono_ItvR hx13.ple
      replace hX := hX.mono mono_ItvR hx13.ple
      clear hx13 e6 hNA
      generalize hlY : Y.length = nY at *
      go_wp2_with fail
      refine RetV_at (hPX.out _ _ hX) ?_
      intro w14 hx14
      have hx14' := hx14.then (Ext.new w14 (.cells #[.int .i64 rn, .int .i64 rd] 40))
      have hOr := Proofs.Ytmbkefgmiehdiaa.Own.new w14 #[.int .i64 rn, .int .i64 rd] 40
      replace hx := hx.then hx14'
      replace hA := hA.mono mono_ItvR hx14'.ple
      replace hB := hB.mono mono_ItvR hx14'.ple
      replace hY := hY.mono mono_ItvR hx14'.ple
      clear hx14 hx14' hX hPX
      go_upto_region 30 with (fail)
      generalize w14.heap.size = gr at *
      generalize w14.alloc _ = W14 at *
      go_wp2_with fail
      refine RetV_at (hPY.out _ _ hY) ?_
      intro w15 hx15
      have hx15' := hx15.then (Ext.new w15 (.cells #[.int .i64 sn, .int .i64 sd] 40))
      have hOs := Proofs.Ytmbkefgmiehdiaa.Own.new w15 #[.int .i64 sn, .int .i64 sd] 40
      replace hx := hx.then hx15'
      replace hA := hA.mono mono_ItvR hx15'.ple
      replace hB := hB.mono mono_ItvR hx15'.ple
      replace hOr := hOr.keep hx15'
      clear hx15 hx15' hY hPY
      go_upto_region 31 with (fail)
      generalize w15.heap.size = gs at *
      generalize w15.alloc _ = W15 at *
      have hli := Lib.hid (fun w => lives_c w)
      cases p with
      | false =>
        cases q with
        | false =>
          clear hrA hrB hsA hsB hp1 hq1 hp2 hp3 hq2 hq3
          simp only [Bool.or_false, Bool.or_true, Bool.or_self, Bool.true_or, Bool.false_or, Bool.not_true, Bool.not_false] at hAB
          go_wp2_with fail
          refine RetV_at (hAB.out _ _ _ hA hB) ?_
          intro w16 hx16
          replace hx := hx.then hx16
          replace hA := hA.mono mono_ItvR hx16.ple
          replace hB := hB.mono mono_ItvR hx16.ple
          replace hOr := hOr.keep hx16
          replace hOs := hOs.keep hx16
          clear hx16 hAB
          obtain ⟨cr, fr⟩ := hOr.facts
          obtain ⟨cs, fs⟩ := hOs.facts
          have zr := hOr.lt
          have zs := hOs.lt
          have r0 : _ = some (Value.int .i64 rn) := cr 0
          have r1 : _ = some (Value.int .i64 rd) := cr 1
          have s0 : _ = some (Value.int .i64 sn) := cs 0
          have s1 : _ = some (Value.int .i64 sd) := cs 1
          clear cr cs
          go_wp2_with fail
          refine RetV_at (hli.out _) ?_
          intro w30 hx30
          go_wp2_with fail
          go_ret
          exact ⟨rfl, hx.then hx30⟩
        | true =>
          have hsA1 := hsA.out rfl
          have hsB1 := hsB.out rfl
          have e1 := hq2.out rfl
          have e2 := hq3.out rfl
          (try dsimp only at hsA1 hsB1 e1 e2)
          rw [e1] at hsB1
          rw [e2] at hsA1
          clear e1 e2
          replace hsA1 := Lib.hid hsA1
          replace hsB1 := Lib.hid hsB1
          clear hrA hrB hsA hsB hp1 hq1 hp2 hp3 hq2 hq3
          simp only [Bool.or_false, Bool.or_true, Bool.or_self, Bool.true_or, Bool.false_or, Bool.not_true, Bool.not_false] at hAB
          go_wp2_with fail
          refine RetV_at (hAB.out _ _ _ hA hB) ?_
          intro w16 hx16
          replace hx := hx.then hx16
          replace hA := hA.mono mono_ItvR hx16.ple
          replace hB := hB.mono mono_ItvR hx16.ple
          replace hOr := hOr.keep hx16
          replace hOs := hOs.keep hx16
          clear hx16 hAB
          obtain ⟨cr, fr⟩ := hOr.facts
          obtain ⟨cs, fs⟩ := hOs.facts
          have zr := hOr.lt
          have zs := hOs.lt
          have r0 : _ = some (Value.int .i64 rn) := cr 0
          have r1 : _ = some (Value.int .i64 rd) := cr 1
          have s0 : _ = some (Value.int .i64 sn) := cs 0
          have s1 : _ = some (Value.int .i64 sd) := cs 1
          clear cr cs
          go_wp2_with fail
          refine RetV_at (hsB1.out _ _ hB) ?_
          intro w21 hx21
          replace hx := hx.then hx21
          replace hA := hA.mono mono_ItvR hx21.ple
          replace hB := hB.mono mono_ItvR hx21.ple
          replace r0 := hx21.cell1 r0
          replace r1 := hx21.cell1 r1
          replace zr := cell_lt r0
          replace s0 := hx21.cell1 s0
          replace s1 := hx21.cell1 s1
          replace zs := cell_lt s0
          clear hx21
          go_wp2_with fail
          refine RetV_at (hsA1.out _ _ hA) ?_
          intro w22 hx22
          replace hx := hx.then hx22
          replace hA := hA.mono mono_ItvR hx22.ple
          replace hB := hB.mono mono_ItvR hx22.ple
          replace r0 := hx22.cell1 r0
          replace r1 := hx22.cell1 r1
          replace zr := cell_lt r0
          replace s0 := hx22.cell1 s0
          replace s1 := hx22.cell1 s1
          replace zs := cell_lt s0
          clear hx22
          go_wp2_with fail
          refine RetV_at (hli.out _) ?_
          intro w30 hx30
          go_wp2_with fail
          go_ret
          exact ⟨rfl, hx.then hx30⟩
      | true =>
        have hrA1 := hrA.out rfl
        have hrB1 := hrB.out rfl
        have e1 := hp2.out rfl
        have e2 := hp3.out rfl
        (try dsimp only at hrA1 hrB1 e1 e2)
        rw [e1] at hrA1
        rw [e2] at hrB1
        clear e1 e2
        replace hrA1 := Lib.hid hrA1
        replace hrB1 := Lib.hid hrB1
        cases q with
        | false =>
          clear hrA hrB hsA hsB hp1 hq1 hp2 hp3 hq2 hq3
          simp only [Bool.or_false, Bool.or_true, Bool.or_self, Bool.true_or, Bool.false_or, Bool.not_true, Bool.not_false] at hAB
          go_wp2_with fail
          refine RetV_at (hAB.out _ _ _ hA hB) ?_
          intro w16 hx16
          replace hx := hx.then hx16
          replace hA := hA.mono mono_ItvR hx16.ple
          replace hB := hB.mono mono_ItvR hx16.ple
          replace hOr := hOr.keep hx16
          replace hOs := hOs.keep hx16
          clear hx16 hAB
          obtain ⟨cr, fr⟩ := hOr.facts
          obtain ⟨cs, fs⟩ := hOs.facts
          have zr := hOr.lt
          have zs := hOs.lt
          have r0 : _ = some (Value.int .i64 rn) := cr 0
          have r1 : _ = some (Value.int .i64 rd) := cr 1
          have s0 : _ = some (Value.int .i64 sn) := cs 0
          have s1 : _ = some (Value.int .i64 sd) := cs 1
          clear cr cs
          go_wp2_with fail
          refine RetV_at (hrA1.out _ _ hA) ?_
          intro w21 hx21
          replace hx := hx.then hx21
          replace hA := hA.mono mono_ItvR hx21.ple
          replace hB := hB.mono mono_ItvR hx21.ple
          replace r0 := hx21.cell1 r0
          replace r1 := hx21.cell1 r1
          replace zr := cell_lt r0
          replace s0 := hx21.cell1 s0
          replace s1 := hx21.cell1 s1
          replace zs := cell_lt s0
          clear hx21
          go_wp2_with fail
          refine RetV_at (hrB1.out _ _ hB) ?_
          intro w22 hx22
          replace hx := hx.then hx22
          replace hA := hA.mono mono_ItvR hx22.ple
          replace hB := hB.mono mono_ItvR hx22.ple
          replace r0 := hx22.cell1 r0
          replace r1 := hx22.cell1 r1
          replace zr := cell_lt r0
          replace s0 := hx22.cell1 s0
          replace s1 := hx22.cell1 s1
          replace zs := cell_lt s0
          clear hx22
          go_wp2_with fail
          refine RetV_at (hli.out _) ?_
          intro w30 hx30
          go_wp2_with fail
          go_ret
          exact ⟨rfl, hx.then hx30⟩
        | true =>
          have hsA1 := hsA.out rfl
          have hsB1 := hsB.out rfl
          have e1 := hq2.out rfl
          have e2 := hq3.out rfl
          (try dsimp only at hsA1 hsB1 e1 e2)
          rw [e1] at hsB1
          rw [e2] at hsA1
          clear e1 e2
          replace hsA1 := Lib.hid hsA1
          replace hsB1 := Lib.hid hsB1
          clear hrA hrB hsA hsB hp1 hq1 hp2 hp3 hq2 hq3
          simp only [Bool.or_false, Bool.or_true, Bool.or_self, Bool.true_or, Bool.false_or, Bool.not_true, Bool.not_false] at hAB
          go_wp2_with fail
          refine RetV_at (hAB.out _ _ _ hA hB) ?_
          intro w16 hx16
          replace hx := hx.then hx16
          replace hA := hA.mono mono_ItvR hx16.ple
          replace hB := hB.mono mono_ItvR hx16.ple
          replace hOr := hOr.keep hx16
          replace hOs := hOs.keep hx16
          clear hx16 hAB
          obtain ⟨cr, fr⟩ := hOr.facts
          obtain ⟨cs, fs⟩ := hOs.facts
          have zr := hOr.lt
          have zs := hOs.lt
          have r0 : _ = some (Value.int .i64 rn) := cr 0
          have r1 : _ = some (Value.int .i64 rd) := cr 1
          have s0 : _ = some (Value.int .i64 sn) := cs 0
          have s1 : _ = some (Value.int .i64 sd) := cs 1
          clear cr cs
          go_wp2_with fail
          refine RetV_at (hrA1.out _ _ hA) ?_
          intro w21 hx21
          replace hx := hx.then hx21
          replace hA := hA.mono mono_ItvR hx21.ple
          replace hB := hB.mono mono_ItvR hx21.ple
          replace r0 := hx21.cell1 r0
          replace r1 := hx21.cell1 r1
          replace zr := cell_lt r0
          replace s0 := hx21.cell1 s0
          replace s1 := hx21.cell1 s1
          replace zs := cell_lt s0
          clear hx21
          go_wp2_with fail
          refine RetV_at (hrB1.out _ _ hB) ?_
          intro w22 hx22
          replace hx := hx.then hx22
          replace hA := hA.mono mono_ItvR hx22.ple
          replace hB := hB.mono mono_ItvR hx22.ple
          replace r0 := hx22.cell1 r0
          replace r1 := hx22.cell1 r1
          replace zr := cell_lt r0
          replace s0 := hx22.cell1 s0
          replace s1 := hx22.cell1 s1
          replace zs := cell_lt s0
          clear hx22
          go_wp2_with fail
          refine RetV_at (hsB1.out _ _ hB) ?_
          intro w23 hx23
          replace hx := hx.then hx23
          replace hA := hA.mono mono_ItvR hx23.ple
          replace hB := hB.mono mono_ItvR hx23.ple
          replace r0 := hx23.cell1 r0
          replace r1 := hx23.cell1 r1
          replace zr := cell_lt r0
          replace s0 := hx23.cell1 s0
          replace s1 := hx23.cell1 s1
          replace zs := cell_lt s0
          clear hx23
          go_wp2_with fail
          refine RetV_at (hsA1.out _ _ hA) ?_
          intro w24 hx24
          replace hx := hx.then hx24
          replace hA := hA.mono mono_ItvR hx24.ple
          replace hB := hB.mono mono_ItvR hx24.ple
          replace r0 := hx24.cell1 r0
          replace r1 := hx24.cell1 r1
          replace zr := cell_lt r0
          replace s0 := hx24.cell1 s0
          replace s1 := hx24.cell1 s1
          replace zs := cell_lt s0
          clear hx24
          go_wp2_with fail
          refine RetV_at (hli.out _) ?_
          intro w30 hx30
          go_wp2_with fail
          go_ret
          exact ⟨rfl, hx.then hx30⟩
theorem spanNumbersLaw (va vb : Value) (la lb : List Int) (m n : Int) (w : World) (ha : IntsR (ph w) va la) (hb : IntsR (ph w) vb lb) (_ : la.length ≤ 140737488355328) (_ : lb.length ≤ 140737488355328) (hm : I64 m) (hn : I64 n) :
    Calls Try.prog 7 #[va, vb, .int .i64 m, .int .i64 n] w (RetV w (.bool true)) := spanNumbers_c va vb la lb m n w ha hb hm hn
end Go.Proofs.Ytmbkefgmiehdiaa
