/- package term: Breaks.; package term: Breaks, the walk. -/
import Derived.Test.YtcmdekhhclgdcaaGreatDoorTSrt
import Derived.Test.YtcmdekhhclgdcaaGreatDoorTermC
import Derived.WalkMore
namespace Go.Proofs.YtcmdekhhclgdcaaGreatDoor
open Go.RowKit Go.Shelf
set_option linter.unusedSimpArgs false
set_option linter.unusedVariables false
def badB (file : Int) (a : Ac) : Bool := (a.kind == 9 && a.file == file) && (decide (a.day ≤ a.number) && (decide (a.day < 0) || decide (131072 < a.number)))
def tchk (file : Int) (xs : List Ac) : Int := if ¬ (0 ≤ file ∧ file ≤ 4095) then 1 else if xs.any (badB file) = true then 5 else 0
/-- the joined interruptions of a file -/
def BrkOk (file : Int) (xs : List Ac) (l : List Iv) : Prop := Canon l ∧ (∀ d, cov l d = brokB file xs d) ∧ (∀ x ∈ l, 0 ≤ x.1 ∧ x.1 ≤ x.2 ∧ x.2 ≤ 131072) ∧ l.length ≤ xs.length
def BrkP (w : World) (file : Int) (xs : List Ac) (e : Ending) (w' : World) : Prop :=
  ∃ v l, e = .returned (.tuple #[v, .int .i64 (tchk file xs)]) ∧ Ext w w' ∧ IvsR (ph w') v l ∧ (tchk file xs = 0 → BrkOk file xs l) ∧ (tchk file xs ≠ 0 → v = .slice none 0 0 ∧ l = [])
def okIv (x : Iv) : Bool := decide (0 ≤ x.1) && decide (x.2 ≤ 131072)
theorem tchk_5 {file : Int} {xs : List Ac} (hf : 0 ≤ file ∧ file ≤ 4095) {x : IvT} (hx : x ∈ ivs file xs) (hb : okIv x.1 = false) : tchk file xs = 5 := by
  unfold tchk
  rw [if_neg (by simpa using hf), if_pos]
  unfold ivs at hx
  obtain ⟨a, ha, hy⟩ := List.mem_filterMap.1 hx
  unfold ivT at hy
  split at hy
  · rename_i h
    cases hy
    refine List.any_eq_true.2 ⟨a, ha, ?_⟩
    unfold ivB at h
    unfold badB
    unfold okIv at hb
    simp at h hb ⊢
    refine ⟨h.1, h.2, ?_⟩
    by_cases h3 : 0 ≤ a.day
    · right; exact hb h3
    · left; omega
  · cases hy
theorem tchk_0 {file : Int} {xs : List Ac} (hf : 0 ≤ file ∧ file ≤ 4095) (h : ∀ x ∈ ivs file xs, okIv x.1 = true) : tchk file xs = 0 := by
  unfold tchk
  rw [if_neg (by simpa using hf), if_neg]
  intro hb
  obtain ⟨a, ha, hy⟩ := List.any_eq_true.1 hb
  unfold badB at hy
  simp at hy
  obtain ⟨⟨h1, h2⟩, h3, h4⟩ := hy
  have hI : ivB file a = true := by unfold ivB; simp [h1, h2, h3]
  have hm : (⟨(a.day, a.number), ivB_le hI⟩ : IvT) ∈ ivs file xs := by
    unfold ivs
    refine List.mem_filterMap.2 ⟨a, ha, ?_⟩
    unfold ivT; rw [dif_pos hI]
  have := h _ hm
  unfold okIv at this
  simp at this
  omega
theorem cov_ivs (file : Int) (xs : List Ac) (d : Int) : cov ((ivs file xs).map Subtype.val) d = brokB file xs d := by
  rw [Bool.eq_iff_iff, cov_iff]
  unfold brokB
  rw [List.any_eq_true]
  constructor
  · rintro ⟨x, hx, h1, h2⟩
    obtain ⟨y, hy, rfl⟩ := List.mem_map.1 hx
    obtain ⟨a, ha, hz⟩ := List.mem_filterMap.1 hy
    unfold ivT at hz
    split at hz
    · rename_i h
      cases hz
      refine ⟨a, ha, ?_⟩
      unfold ivB at h
      unfold brkB
      simp at h ⊢
      exact ⟨⟨h.1, h1⟩, h2⟩
    · cases hz
  · rintro ⟨a, ha, h⟩
    unfold brkB at h
    simp at h
    obtain ⟨⟨⟨h1, h2⟩, h3⟩, h4⟩ := h
    have hI : ivB file a = true := by unfold ivB; simp [h1, h2]; omega
    refine ⟨(a.day, a.number), List.mem_map.2 ⟨⟨(a.day, a.number), ivB_le hI⟩, List.mem_filterMap.2 ⟨a, ha, by unfold ivT; rw [dif_pos hI]⟩, rfl⟩, h3, h4⟩
/-- one step of joining -/
def stepJ : List Iv → Iv → List Iv
  | [], x => [x]
  | o :: out, x => if x.1 ≤ o.2 + 1 then (o.1, max o.2 x.2) :: out else x :: o :: out
theorem joinR_fold : ∀ (l out : List Iv), joinR out l = l.foldl stepJ out
  | [], out => by cases out <;> rfl
  | x :: l, [] => by show joinR [x] l = _; rw [joinR_fold l [x]]; rfl
  | x :: l, o :: out => by
    rw [joinR, List.foldl_cons, stepJ]
    split
    · exact joinR_fold l _
    · exact joinR_fold l _
theorem joinR_snoc (l : List Iv) (x : Iv) : joinR [] (l ++ [x]) = stepJ (joinR [] l) x := by rw [joinR_fold, joinR_fold, List.foldl_append]; rfl
theorem stepJ_bd {out : List Iv} {x : Iv} (h : ∀ y ∈ out, 0 ≤ y.1 ∧ y.1 ≤ y.2 ∧ y.2 ≤ 131072) (hx : 0 ≤ x.1 ∧ x.1 ≤ x.2 ∧ x.2 ≤ 131072) : (∀ y ∈ stepJ out x, 0 ≤ y.1 ∧ y.1 ≤ y.2 ∧ y.2 ≤ 131072) ∧ (stepJ out x).length ≤ out.length + 1 := by
  cases out with
  | nil => exact ⟨fun y hy => by rw [List.mem_singleton.1 hy]; exact hx, by simp [stepJ]⟩
  | cons o out =>
    have ho := h o (by simp)
    have e : stepJ (o :: out) x = if x.1 ≤ o.2 + 1 then (o.1, max o.2 x.2) :: out else x :: o :: out := rfl
    rw [e]
    split
    · refine ⟨fun y hy => ?_, by simp⟩
      rcases List.mem_cons.1 hy with rfl | hy
      · dsimp only; omega
      · exact h y (by simp [hy])
    · refine ⟨fun y hy => ?_, by simp⟩
      rcases List.mem_cons.1 hy with rfl | hy
      · exact hx
      · exact h y hy
theorem joinR_bd : ∀ (l : List Iv), (∀ y ∈ l, 0 ≤ y.1 ∧ y.1 ≤ y.2 ∧ y.2 ≤ 131072) → (∀ y ∈ joinR [] l, 0 ≤ y.1 ∧ y.1 ≤ y.2 ∧ y.2 ≤ 131072) ∧ (joinR [] l).length ≤ l.length := by
  have key : ∀ (n : Nat) (l : List Iv), l.length = n → (∀ y ∈ l, 0 ≤ y.1 ∧ y.1 ≤ y.2 ∧ y.2 ≤ 131072) → (∀ y ∈ joinR [] l, 0 ≤ y.1 ∧ y.1 ≤ y.2 ∧ y.2 ≤ 131072) ∧ (joinR [] l).length ≤ l.length := by
    intro n
    induction n with
    | zero => intro l hl _; obtain rfl : l = [] := List.length_eq_zero_iff.1 hl; have e : joinR [] [] = [] := rfl; rw [e]; exact ⟨fun y hy => (by cases hy), Nat.le_refl _⟩
    | succ n ih =>
      intro l hl h
      have hne : l ≠ [] := fun e => by subst e; simp at hl
      rw [← List.dropLast_concat_getLast hne] at h ⊢
      have h1 := ih l.dropLast (by simp [hl]) fun y hy => h y (by simp [hy])
      rw [joinR_snoc]
      have h2 := stepJ_bd h1.1 (h (l.getLast hne) (by simp))
      refine ⟨h2.1, ?_⟩
      rw [List.length_append, List.length_singleton]
      omega
  exact fun l h => key _ l rfl h
theorem joined {file : Int} {xs : List Ac} {l : List Iv} (hp : l.Perm ((ivs file xs).map Subtype.val)) (hs : l.Pairwise (fun x y : Iv => x.1 ≤ y.1)) (hok : ∀ x ∈ ivs file xs, okIv x.1 = true) : BrkOk file xs (joinR [] l).reverse := by
  have hb : ∀ y ∈ l, 0 ≤ y.1 ∧ y.1 ≤ y.2 ∧ y.2 ≤ 131072 := by
    intro y hy
    obtain ⟨z, hz, rfl⟩ := List.mem_map.1 (hp.mem_iff.1 hy)
    have h1 := hok z hz
    have h2 := z.2
    unfold okIv at h1
    simp at h1
    omega
  have hj := joinR_law l [] trivial (fun x hx => (hb x hx).2.1) (fun o ho => by simp at ho) hs
  have hd := joinR_bd l hb
  refine ⟨hj.1.canon, fun d => ?_, fun x hx => hd.1 x (by simpa using hx), ?_⟩
  · have h1 : cov (joinR [] l).reverse d = cov (joinR [] l) d := by
      rw [Bool.eq_iff_iff, cov_iff, cov_iff]; simp
    have h2 : cov l d = cov ((ivs file xs).map Subtype.val) d := by
      rw [Bool.eq_iff_iff, cov_iff, cov_iff]
      constructor
      · rintro ⟨x, hx, h⟩; exact ⟨x, hp.mem_iff.1 hx, h⟩
      · rintro ⟨x, hx, h⟩; exact ⟨x, hp.mem_iff.2 hx, h⟩
    rw [h1, hj.2, h2, cov_ivs]
    simp [cov]
  · have h1 := hp.length_eq
    have h2 := ivs_len file xs
    rw [List.length_reverse]
    rw [List.length_map] at h1
    omega
end Go.Proofs.YtcmdekhhclgdcaaGreatDoor
namespace Go.Proofs.YtcmdekhhclgdcaaGreatDoor
open Go.RowKit Go.Shelf
set_option linter.unusedSimpArgs false
set_option linter.unusedVariables false
attribute [local go_sem] Oper.semAt_some
theorem infoIv : (Tryz.prog.info? 126).map (fun i => (i.zero, i.size, i.bytes)) = some (some (.agg #[.int .i64 0, .int .i64 0]), 2, 16) := by kernel_rfl
theorem one_IvR {h : PH} : ∀ cs x, IvR h cs x → ∀ u ∈ cs, u.oneCell' = true := by
  rintro cs x ⟨rfl, -⟩ u hu
  simp only [List.mem_cons, List.not_mem_nil, or_false] at hu
  rcases hu with rfl | rfl <;> rfl
/-- the memory of Breaks: its boxes, the iterator's boxes, the row -/
abbrev brkL (n : Nat) (file : Int) (va v : Value) (l : List Iv) : List Chunk :=
  [box n #[.slice none 0 0] 101, box (n + 1) #[.int .i64 0] 33, box (n + 1 + 1) #[v] 101, box (n + 1 + 1 + 1) #[.int .i64 file] 3, box (n + 1 + 1 + 1 + 1) #[va] 31, own mono_IvR 2 126 v l]
theorem brkL_isC (n : Nat) (file : Int) (va v : Value) (l : List Iv) : ∀ c ∈ brkL n file va v l, c.isC := by
  intro c hc
  simp only [brkL, List.mem_cons, List.not_mem_nil, or_false] at hc
  rcases hc with rfl | rfl | rfl | rfl | rfl | rfl
  · exact isC_box _ _ _
  · exact isC_box _ _ _
  · exact isC_box _ _ _
  · exact isC_box _ _ _
  · exact isC_box _ _ _
  · exact isC_own _ _ _ _ _
def BrkI (w : World) (file : Int) (va : Value) (pre : List IvT) (W : World) : Prop := (∃ v, Mem w noH (brkL w.heap.size file va v (pre.map Subtype.val)) noH W) ∧ ∀ x ∈ pre, okIv x.1 = true
def BrkX (w : World) (c : Code) (pre : List IvT) (W : World) : Prop := c = .ret ∧ Own W w.heap.size #[.slice none 0 0] 101 ∧ Own W (w.heap.size + 1) #[.int .i64 5] 33 ∧ Ext w W ∧ ∃ x ∈ pre, okIv x.1 = false
theorem BrkI.from (w : World) (file : Int) (va : Value) (n : Nat) (hn : w.heap.size ≤ n) : OwnFrom n (BrkI w file va) := by
  rintro pre A B row ⟨⟨v, hM⟩, h2⟩ hg hr
  exact ⟨⟨v, hM.ownFrom (brkL_isC _ _ _ _ _) hn hg hr⟩, h2⟩
theorem BrkI.ex {w : World} {file : Int} {va : Value} {pre : List IvT} {W : World} (h : BrkI w file va pre W) : Ext w W := h.1.elim fun _ h => h.ex
theorem BrkI.alloc {w : World} {file : Int} {va : Value} {pre : List IvT} {W : World} (h : BrkI w file va pre W) (o : Obj) : BrkI w file va pre (W.alloc o) := ⟨h.1.imp fun _ h => h.allocN o, h.2⟩
theorem BrkI.kb {w : World} {file : Int} {va : Value} {pre pre' : List IvT} {W W' : World} (h : BrkI w file va pre W) (h' : BrkI w file va pre' W') (hb : Below w.heap.size W W') : KB2 w.heap.size (w.heap.size + 1 + 1 + 1 + 1) (w.heap.size + 1 + 1 + 1) W W' := by
  obtain ⟨v, h1⟩ := h.1
  obtain ⟨v', h2⟩ := h'.1
  exact ⟨hb, ((h2.box 4 rfl).facts.1 0).trans ((h1.box 4 rfl).facts.1 0).symm, ((h2.box 3 rfl).facts.1 0).trans ((h1.box 3 rfl).facts.1 0).symm⟩
theorem BrkX.from (w : World) (c : Code) (n : Nat) (hn : w.heap.size ≤ n) : OwnFrom n (BrkX w c) := by
  rintro pre A B row ⟨h0, h1, h2, h3, h4⟩ hg hr
  exact ⟨h0, own_kept h1 hg fun r e => (hr r e).2, own_kept h2 hg fun r e => (hr r e).2, h3.grown hg fun r e => Nat.le_trans hn (hr r e).1, h4⟩
def BrkA (n : Nat) (file : Int) (va : Value) (xs : List Ac) (tm : IvT → Nat → Array Value) (x : IvT) (a' : Act) (W : World) : Prop :=
  ∃ Bx, Bx < W.heap.size ∧ Own W Bx #[.int .i64 x.1.1, .int .i64 x.1.2] 126 ∧ a' = { tmps := tm x Bx, defers := [] }
theorem BrkA.from (n : Nat) (file : Int) (va : Value) (xs : List Ac) (tm : IvT → Nat → Array Value) (B : Nat) (hB : B ≤ n) (x : IvT) (a' : Act) : OwnFrom B (fun (_ : Unit) W => BrkA n file va xs tm x a' W) := by
  rintro _ A C row ⟨Bx, h1, h2, h3⟩ hg hr
  exact ⟨Bx, Nat.lt_of_lt_of_le h1 hg.size, own_kept h2 hg fun r e => (hr r e).2, h3⟩
theorem brk_ret {w W : World} {file : Int} {va v : Value} {l : List Iv} {B : Nat} {pre : List IvT} {x : IvT} (hM : Mem w noH (brkL w.heap.size file va v l) noH W) (hx : x ∈ pre) (hb : okIv x.1 = false) :
    KeepsFrom B W ((W.setCell ⟨w.heap.size, 0, none⟩ (.slice none 0 0)).setCell ⟨w.heap.size + 1, 0, none⟩ (.int .i64 5)) ∧ BrkX w .ret pre ((W.setCell ⟨w.heap.size, 0, none⟩ (.slice none 0 0)).setCell ⟨w.heap.size + 1, 0, none⟩ (.int .i64 5)) := by
  have o4 := ((hM.box 0 rfl).set 0 (.slice none 0 0)).setOther (p := ⟨w.heap.size + 1, 0, none⟩) (by simp) (.int .i64 5)
  have o5 := ((hM.box 1 rfl).setOther (p := ⟨w.heap.size, 0, none⟩) (by simp) (.slice none 0 0)).set 0 (.int .i64 5)
  exact ⟨((KeepsOthers.setCell _ _ _).trans (KeepsOthers.setCell _ _ _)).from _, rfl, o4, o5, (hM.ex.setCell (p := ⟨w.heap.size, 0, none⟩) (Nat.le_refl _) _).setCell (p := ⟨w.heap.size + 1, 0, none⟩) (by simp) _, x, hx, hb⟩
set_option maxRecDepth 100000 in
set_option maxHeartbeats 2000000 in
theorem breaks_in (file : Int) (xs : List Ac) (va : Value) (w : World) (hA : ActsR (ph w) va xs) (hlen : xs.length ≤ 100000) : CallsIn Fence.wide 7 Tryz.prog 49 #[.int .i64 file, va] w (BrkP w file xs) := by
  obtain ⟨xa, xc, rfl, xlen, -⟩ := hA.form
  refine callsIn_of_wp_marks Tryz.func49 rfl trivial ?_ rfl
  simp only [Tryz.ntmps49, List.size_toArray, List.length_cons, List.length_nil, Nat.reduceAdd, Nat.reduceSub, Array.replicate_succ, Array.replicate_zero, List.push_toArray, List.append_toArray, List.nil_append, List.cons_append]
  refine wpIn_wide.2 ?_
  by_cases hf1 : file < 0
  · have hE : Hid (tchk file xs = 1) := if_pos (by omega)
    go_wp2_with fail
    go_step3
    go_wp2_with fail
    rw [Exit.noGoto_ret]
    exact ⟨.tuple #[.slice none 0 0, .int .i64 1], by simp [results, Tryz.results49, go_sem], ⟨_, [], by rw [hE.out], (by repeat (first | (with_reducible assumption) | (with_reducible exact Ext.rfl' _) | (with_reducible exact Ext.new _ _) | (with_reducible refine Ext.alloc' ?_ _) | (with_reducible refine Ext.drew' ?_) | (with_reducible refine Ext.drewN' ?_ _) | (with_reducible refine Ext.set' ?_ ?_ _; rotate_left; (focus (first | omega | (simp; done) | (simp; omega)))) | (with_reducible refine Ext.then (b := ?_) ?_ ?_; rotate_left; rotate_left; (with_reducible assumption)))), SliceRep.nil _ _ _, fun h => (by rw [hE.out] at h; cases h), fun _ => ⟨rfl, rfl⟩⟩⟩
  by_cases hf2 : 4095 < file
  · have hE : Hid (tchk file xs = 1) := if_pos (by omega)
    go_wp2_with fail
    go_step3
    go_wp2_with fail
    rw [Exit.noGoto_ret]
    exact ⟨.tuple #[.slice none 0 0, .int .i64 1], by simp [results, Tryz.results49, go_sem], ⟨_, [], by rw [hE.out], (by repeat (first | (with_reducible assumption) | (with_reducible exact Ext.rfl' _) | (with_reducible exact Ext.new _ _) | (with_reducible refine Ext.alloc' ?_ _) | (with_reducible refine Ext.drew' ?_) | (with_reducible refine Ext.drewN' ?_ _) | (with_reducible refine Ext.set' ?_ ?_ _; rotate_left; (focus (first | omega | (simp; done) | (simp; omega)))) | (with_reducible refine Ext.then (b := ?_) ?_ ?_; rotate_left; rotate_left; (with_reducible assumption)))), SliceRep.nil _ _ _, fun h => (by rw [hE.out] at h; cases h), fun _ => ⟨rfl, rfl⟩⟩⟩
  have hf : 0 ≤ file ∧ file ≤ 4095 := by omega
  go_wp2_with fail
  go_step3
  go_wp2_with fail
  refine (inter_p _ _ _ _ _).mono ?_
  rintro e w' ⟨rfl, rfl⟩
  go_wp2_with fail
  refine (wpIn_wide (n := 7)).1 ?_
  have hx0 : Ext w (((((w.alloc (.cells #[.slice none 0 0] 101)).alloc (.cells #[.int .i64 0] 33)).alloc (.cells #[.slice none 0 0] 101)).alloc (.cells #[.int .i64 file] 3)).alloc (.cells #[.slice xa xs.length xc] 31)) := (by repeat (first | (with_reducible assumption) | (with_reducible exact Ext.rfl' _) | (with_reducible exact Ext.new _ _) | (with_reducible refine Ext.alloc' ?_ _) | (with_reducible refine Ext.drew' ?_) | (with_reducible refine Ext.drewN' ?_ _) | (with_reducible refine Ext.set' ?_ ?_ _; rotate_left; (focus (first | omega | (simp; done) | (simp; omega)))) | (with_reducible refine Ext.then (b := ?_) ?_ ?_; rotate_left; rotate_left; (with_reducible assumption))))
  have hsz : (((((w.alloc (.cells #[.slice none 0 0] 101)).alloc (.cells #[.int .i64 0] 33)).alloc (.cells #[.slice none 0 0] 101)).alloc (.cells #[.int .i64 file] 3)).alloc (.cells #[.slice xa xs.length xc] 31)).heap.size = w.heap.size + 5 := by simp
  have hM := (((((((Mem.start w noH (noH_le _)).new #[.slice none 0 0] 101).new' #[.int .i64 0] 33 (n := w.heap.size + 1) (by simp)).new' #[.slice none 0 0] 101 (n := w.heap.size + 1 + 1) (by simp)).new' #[.int .i64 file] 3 (n := w.heap.size + 1 + 1 + 1) (by simp)).new' #[.slice xa xs.length xc] 31 (n := w.heap.size + 1 + 1 + 1 + 1) (by simp)).nil mono_IvR 2 126)
  simp only [List.nil_append, List.cons_append] at hM
  generalize ((((w.alloc (.cells #[.slice none 0 0] 101)).alloc (.cells #[.int .i64 0] 33)).alloc (.cells #[.slice none 0 0] 101)).alloc (.cells #[.int .i64 file] 3)).alloc (.cells #[.slice xa xs.length xc] 31) = W0 at *
  refine wpIn_rangeFunc_ownH rfl (by omega) (gf := 94) (lb := #[.pointer (some ⟨w.heap.size + 1 + 1 + 1 + 1, 0, none⟩), .pointer (some ⟨w.heap.size + 1 + 1 + 1, 0, none⟩)]) rfl trivial (enters_of Tryz.func94 (by kernel_rfl) rfl)
    (encs := fun x : IvT => #[.agg #[.int .i64 x.1.1, .int .i64 x.1.2]]) (Kp := KB2 w.heap.size (w.heap.size + 1 + 1 + 1 + 1) (w.heap.size + 1 + 1 + 1)) (S := fun ys => ys = ivs file xs) (Sp := fun pre => pre <+: ivs file xs) (N := xs.length)
    (w0 := W0) ?seq KB2.then (KB2.put (by omega) (by omega) (by omega)) (Below.refl _ _) (fun _ => rfl)
    (BrkI w file (.slice xa xs.length xc)) (BrkX w) (BrkI.from _ _ _ _ (by omega)) (fun c => BrkX.from _ c _ (by omega))
    ⟨⟨_, hM⟩, fun x hx => by cases hx⟩ (BrkA W0.heap.size file (.slice xa xs.length xc) xs (fun x Bx => #[.int .i64 file, .slice xa xs.length xc, undef, undef, .pointer (some ⟨w.heap.size, 0, none⟩), .pointer (some ⟨w.heap.size + 1, 0, none⟩), .pointer (some ⟨w.heap.size + 1 + 1, 0, none⟩), .slice none 0 0, .pointer (some ⟨Bx, 0, none⟩), undef, undef, undef, .int .i64 file, .bool (decide (file < 0)), .bool (decide (file < 0)), .int .i64 file, .bool (decide (4095 < file)), .bool (decide (file < 0) || decide (4095 < file)), .int .i64 file, .slice xa xs.length xc, .func (.func 94) #[] #[.pointer (some ⟨w.heap.size + 1 + 1 + 1 + 1, 0, none⟩), .pointer (some ⟨w.heap.size + 1 + 1 + 1, 0, none⟩)], .agg #[.int .i64 x.1.1, .int .i64 x.1.2], undef, undef, undef, undef, undef, undef, undef, undef, undef, undef, undef, undef, undef, undef, undef, undef, undef, undef, undef, undef, undef, undef, undef, undef, undef, undef, undef, undef, undef, undef, undef, undef, undef, undef, undef, undef, undef, undef, undef, undef, undef, undef, undef, undef, undef, undef, undef, undef, undef, undef, undef, undef, undef, undef, undef, undef])) (BrkA.from _ _ _ _ _ _ (Nat.le_refl _)) ?assign ?body ?done ?stop
  case assign =>
    rintro l pre x W K hI hK
    gi_wp2
    have h1 := (KeepsOthers.alloc W (.cells #[.int .i64 x.1.1, .int .i64 x.1.2] 126)).from W0.heap.size
    have h2 := hI.alloc (.cells #[.int .i64 x.1.1, .int .i64 x.1.2] 126)
    have h3 := hI.kb h2 ((Below.refl w.heap.size W).alloc hI.ex.size _)
    have h4 := Proofs.YtcmdekhhclgdcaaGreatDoor.Own.new W #[.int .i64 x.1.1, .int .i64 x.1.2] 126
    have h5 : W.heap.size < (W.alloc (.cells #[.int .i64 x.1.1, .int .i64 x.1.2] 126)).heap.size := by simp
    generalize W.heap.size = Bx at *
    exact hK _ _ h1 h3 h2 ⟨Bx, h5, h4, rfl⟩
  case seq =>
    intro l J Jx W hW hJ _ hY h0
    refine inter_in 6 l (w.heap.size + 1 + 1 + 1 + 1) (w.heap.size + 1 + 1 + 1) w.heap.size file xs (.slice xa xs.length xc) (by omega) J Jx (fun pre W o h => hJ pre W _ none h (World.grownBy_alloc W o none) (fun r e => by cases e)) hY W ?_ ?_ ?_ ?_ h0
    · have := hW.size; omega
    · have := hW.size; omega
    · have := hW.size; omega
    · intro wr hkb
      refine ⟨hkb.2.1.trans ?_, hkb.2.2.trans ?_, hA.mono mono_ActR (Ext.ple ((hx0.trans (hW.mono (by omega))).trans hkb.1))⟩
      · exact (hW.cell (p := ⟨_, 0, none⟩) (by simp; omega)).trans ((hM.box 4 rfl).facts.1 0)
      · exact (hW.cell (p := ⟨_, 0, none⟩) (by simp; omega)).trans ((hM.box 3 rfl).facts.1 0)
  case body =>
    rintro l pre x a' W hl ⟨r, hr⟩ hI ⟨Bx, hBx, oX, rfl⟩ hlt
    have hI' := hI
    obtain ⟨⟨v, hM1⟩, hok⟩ := hI
    obtain ⟨cX, -⟩ := oX.facts
    have x0 : _ = some (Value.int .i64 x.1.1) := cX 0
    have x1 : _ = some (Value.int .i64 x.1.2) := cX 1
    have c6 : _ = some v := (hM1.box 2 rfl).facts.1 0
    have f4 := (hM1.box 0 rfl).facts.2 0
    have f5 := (hM1.box 1 rfl).facts.2 0
    have f6 := (hM1.box 2 rfl).facts.2 0
    have c4 : _ = some (Value.slice none 0 0) := (hM1.box 0 rfl).facts.1 0
    have c5 : _ = some (Value.int .i64 0) := (hM1.box 1 rfl).facts.1 0
    clear cX
    obtain ⟨⟨y0, y1⟩, hy⟩ := x
    dsimp only at x0 x1 oX hy
    by_cases h1 : y0 < 0
    · have hb : okIv (y0, y1) = false := by unfold okIv; simp; omega
      gi_wp2
      exact brk_ret hM1 (List.mem_append_right _ (List.mem_singleton.2 rfl)) hb
    · by_cases h2 : 131072 < y1
      · have hb : okIv (y0, y1) = false := by unfold okIv; simp; omega
        gi_wp2
        exact brk_ret hM1 (List.mem_append_right _ (List.mem_singleton.2 rfl)) hb
      · have hb : okIv (y0, y1) = true := by unfold okIv; simp; omega
        have hM2 := hM1.allocN (.cells #[.int .i64 y0, .int .i64 y1] 126)
        have hxI : IvR noH [.int .i64 y0, .int .i64 y1] (y0, y1) := ⟨rfl, by unfold I64; dsimp only; omega⟩
        have hS := Src.lit1 (w := W.alloc (.cells #[.int .i64 y0, .int .i64 y1] 126)) (b := W.heap.size) (sz := 2) hxI rfl (fun j => by rw [(Proofs.YtcmdekhhclgdcaaGreatDoor.Own.new W #[.int .i64 y0, .int .i64 y1] 126).facts.1 j]; simp)
        have hpl : pre.length ≤ 100000 := by omega
        gi_wp2_with (refine wpListIn_ofR rfl (by simp) (fun Q' hQ => ?_); at_builtin; refine wpList_append_MG 5 rfl _ _ 101 rfl Tryz.underlying101 infoIv rfl rfl rfl hM2 rfl hS one_IvR (by simp; omega) (by simp; omega) (fun v' w1 hM3 hg3 => ?c5))
        case c5 =>
          simp only [List.set_cons_succ, List.set_cons_zero] at hM3
          obtain ⟨ga, gc, rfl, -⟩ := hM3.form 5 rfl
          refine hQ _ _ ?_
          have f6' := (hM3.box 2 rfl).facts.2 0
          have c6' : _ = some v := (hM3.box 2 rfl).facts.1 0
          have hM4 := hM3.set 2 rfl 0 (.slice ga (pre.map Subtype.val ++ [(y0, y1)]).length gc)
          simp only [List.set_cons_succ, List.set_cons_zero, List.setIfInBounds_toArray] at hM4
          gi_wp2
          rw [show (pre.map Subtype.val ++ [(y0, y1)]).length = pre.length + 1 by simp] at hM4
          have hI2 : BrkI w file (.slice xa xs.length xc) (pre ++ [⟨(y0, y1), hy⟩]) (w1.setCell ⟨w.heap.size + 1 + 1, 0, none⟩ (.slice ga (pre.length + 1) gc)) := by
            refine ⟨⟨_, by rw [List.map_append]; exact hM4⟩, fun z hz => ?_⟩
            rcases List.mem_append.1 hz with h | h
            · exact hok z h
            · rw [List.mem_singleton.1 h]; exact hb
          have hk := hM2.keeps 5 rfl hg3
          exact ⟨(((KeepsOthers.alloc _ _).trans hk.1).trans (KeepsOthers.setCell _ _ _)).from _, hI'.kb hI2 ((((Below.refl w.heap.size W).alloc hI'.ex.size _).trans hk.2).setCell (p := ⟨w.heap.size + 1 + 1, 0, none⟩) (by dsimp only; omega) _), hI2⟩
  case stop =>
    rintro D c pre W hD hpre ⟨rfl, o4, o5, hx, x, hxm, hb⟩ hK
    have hE := tchk_5 hf (hpre.subset hxm) hb
    gi_wp2
    rw [Exit.noGoto_ret]
    have b5 := belowK_b (w := W0) (Nat.le_refl _) W D _ (.deferred none) hD hK rfl rfl
    have r0 := (b5.cell (p := ⟨w.heap.size, 0, none⟩) (show w.heap.size < W0.heap.size by omega)).trans (o4.facts.1 0)
    have r1 := (b5.cell (p := ⟨w.heap.size + 1, 0, none⟩) (show w.heap.size + 1 < W0.heap.size by omega)).trans (o5.facts.1 0)
    simp at r0 r1
    refine ⟨by simp, .inl ⟨_, _, rfl, run_takeDeferred hK, ?_⟩⟩
    refine ⟨.tuple #[.slice none 0 0, .int .i64 5], by simp [results, Tryz.results49, go_sem, r0, r1], ?_⟩
    exact ⟨_, [], by rw [hE], hx.trans (b5.mono (by omega)), SliceRep.nil _ _ _, fun h => (by rw [hE] at h; cases h), fun _ => ⟨rfl, rfl⟩⟩
  case done =>
    rintro D zs W hD rfl ⟨⟨v, hM1⟩, hok⟩ hK
    have hE := tchk_0 hf hok
    have hM2 := hM1.addRaw (brkL_isC _ _ _ _ _) (by omega) hK rfl
    have hzl := ivs_len file xs
    have hjo := fun l h1 h2 => joined (l := l) (file := file) (xs := xs) h1 h2 hok
    simp only [List.cons_append, List.nil_append] at hM2
    generalize ivs file xs = zs at *
    have c6 : _ = some v := (hM1.box 2 rfl).facts.1 0
    gi_wp2
    go_wp2_with fail
    refine (sort_c noH v _ W (hM2.ok 5 _ rfl) (by rw [List.length_map]; omega)).mono ?_
    rintro e w1 ⟨rfl, ys, hp, hs, ho, hg⟩
    have hM3 := hM2.put 5 rfl (c' := own mono_IvR 2 126 v ys) ho (fun k hk => .inl hk) (hM2.ex.grown hg (fun k hk => (hM2.fr 5 _ rfl k hk).1)) (fun k hk hne => hg.block k hk (fun e => hne e.symm))
    have hM4 := hM3.nil mono_IvR 2 126
    simp only [List.set_cons_succ, List.set_cons_zero, List.cons_append, List.nil_append] at hM4
    have hj := Lib.hid (hjo ys hp hs)
    have hbd : ∀ y ∈ ys, 0 ≤ y.1 ∧ y.1 ≤ y.2 ∧ y.2 ≤ 131072 := by
      intro y hy
      obtain ⟨z, hz, rfl⟩ := List.mem_map.1 (hp.mem_iff.1 hy)
      have h1 := hok z hz
      have h2 := z.2
      unfold okIv at h1
      simp at h1
      omega
    have hyl : ys.length ≤ 100000 := by have := hp.length_eq; rw [List.length_map] at this; omega
    have c6' : _ = some v := (hM4.box 2 rfl).facts.1 0
    obtain ⟨sa, sc, rfl, -⟩ := hM4.form 5 rfl
    clear hM hM1 hM2 hM3 hp hs hg hjo hok hzl hK ho c6
    go_wp2_with fail
    go_step3
    go_wp2_with fail
    go_loopw [7, 38] (fun vo i wr => ∃ k : Nat, k ≤ ys.length ∧ i = .int .i64 k ∧ Mem w noH [box w.heap.size #[.slice none 0 0] 101, box (w.heap.size + 1) #[.int .i64 0] 33, box (w.heap.size + 1 + 1) #[.slice sa ys.length sc] 101, box (w.heap.size + 1 + 1 + 1) #[.int .i64 file] 3, box (w.heap.size + 1 + 1 + 1 + 1) #[.slice xa xs.length xc] 31, own mono_IvR 2 126 (.slice sa ys.length sc) ys, raw D (.deferred (some [])), own mono_IvR 2 126 vo (joinR [] (ys.take k)).reverse] noH wr) (fun _ i _ => ys.length - (intOf i).toNat)
    case atStart => exact ⟨0, by omega, rfl, hM4⟩
    case round =>
      clear hM4 c6'
      obtain ⟨k, hk, rfl, hM⟩ := hrel
      by_cases hlt : k < ys.length
      · obtain ⟨sg, scc, cs, hsa, -, hcs, ⟨rfl, hxi⟩, hsg⟩ := hM.get 5 rfl k hlt
        cases hsa
        have hx := hbd ys[k] (List.getElem_mem hlt)
        have hst := joinR_snoc (ys.take k) ys[k]
        rw [← take_snoc ys k hlt] at hst
        have hb := (joinR_bd (ys.take k) fun y hy => hbd y (List.mem_of_mem_take hy))
        generalize ys[k] = x at *
        have gc : ∀ j u, [Value.int .i64 x.1, Value.int .i64 x.2][j]? = some u → wr.cell? ⟨sg, k * 2 + j, none⟩ = some u := by
          intro j u hu
          obtain ⟨hj, he⟩ := List.getElem?_eq_some_iff.1 hu
          rw [hcs j hj, ← he]; simp [List.getD_eq_getElem?_getD, show j < 2 from hj]
        obtain ⟨x0, x1⟩ := x
        dsimp only at hx gc hst hxi
        generalize hos : joinR [] (ys.take k) = os at *
        clear hos
        have hOx := Proofs.YtcmdekhhclgdcaaGreatDoor.Own.new wr #[.int .i64 x0, .int .i64 x1] 126
        have hMx := hM.allocN (.cells #[.int .i64 x0, .int .i64 x1] 126)
        have hxx := Ext.new wr (.cells #[.int .i64 x0, .int .i64 x1] 126)
        obtain ⟨cx, fx⟩ := hOx.facts
        have cx0 : _ = some (Value.int .i64 x0) := cx 0
        have cx1 : _ = some (Value.int .i64 x1) := cx 1
        have hszx : wr.heap.size < (wr.alloc (.cells #[.int .i64 x0, .int .i64 x1] 126)).heap.size := by simp
        have hIx : IvR noH [.int .i64 x0, .int .i64 x1] (x0, x1) := ⟨rfl, hxi⟩
        clear cx fx hM hcs
        cases os with
        | nil =>
          obtain ⟨oa, oc, rfl, -⟩ := hMx.form 7 rfl
          go_wp2_with (first | (refine wpList_load_mid rfl 126 _ rfl _ _ rfl [Value.int .i64 _, Value.int .i64 _] _ gc Tryz.underlying126 rfl (by kernel_rfl) ?_) | (refine wpList_store_new rfl 126 _ _ rfl #[Value.int .i64 _, Value.int .i64 _] rfl rfl 126 _ (by kernel_rfl) rfl rfl ?_))
          generalize wr.alloc _ = W1 at *
          (refine wp_region_I 14 (by kernel_rfl) (by kernel_rfl) ?_; simp only [List.toList_toArray, List.take_succ_cons, List.take_zero, List.drop_succ_cons, List.drop_zero])
          (repeat (first | (refine walkI_no rfl (by simp) rfl rfl rfl ?_ ?_; (focus (simp [undef]; done)); (try simp only [List.nil_append, List.cons_append])) | (refine walkI_is (u := ?_) rfl (by simp) rfl ?_ ?_; rotate_left; (focus (intro A w' hS hA K hK; (simp only [List.map_cons, List.map_nil, knows, Is, Op.operands, Call.operands, List.lookup_cons, List.lookup_nil, Nat.reduceBEq, Bool.false_eq_true, if_false, if_true, Act.eval, Array.getD_eq_getD_getElem?, List.getElem?_toArray, List.getElem?_cons_succ, List.getElem?_cons_zero, Option.getD_some, and_true, true_and, List.append_toArray, List.nil_append, List.cons_append, List.toList_toArray, Array.toList_append, Option.toArray, List.append_nil] at hA); first | fail | (obtain ⟨hSc, hSf, hSs⟩ := hS.cells; go_simp; exact hK _ (by repeat (first | (with_reducible assumption) | (with_reducible exact Ext.rfl' _) | (with_reducible exact Ext.new _ _) | (with_reducible refine Ext.alloc' ?_ _) | (with_reducible refine Ext.drew' ?_) | (with_reducible refine Ext.drewN' ?_ _) | (with_reducible refine Ext.set' ?_ ?_ _; rotate_left; (focus (first | omega | (simp; done) | (simp; omega)))) | (with_reducible refine Ext.then (b := ?_) ?_ ?_; rotate_left; rotate_left; (with_reducible assumption))))))); (try simp only [List.nil_append, List.cons_append])) | (refine walkI_yesis (u := ?_) rfl (by simp) rfl rfl rfl ?_ ?_; rotate_left; (focus (intro A w' hS hA K hK; (simp only [List.map_cons, List.map_nil, knows, Is, Op.operands, Call.operands, List.lookup_cons, List.lookup_nil, Nat.reduceBEq, Bool.false_eq_true, if_false, if_true, Act.eval, Array.getD_eq_getD_getElem?, List.getElem?_toArray, List.getElem?_cons_succ, List.getElem?_cons_zero, Option.getD_some, and_true, true_and, List.append_toArray, List.nil_append, List.cons_append, List.toList_toArray, Array.toList_append, Option.toArray, List.append_nil] at hA); first | fail | (obtain ⟨hSc, hSf, hSs⟩ := hS.cells; go_simp; exact hK _ (by repeat (first | (with_reducible assumption) | (with_reducible exact Ext.rfl' _) | (with_reducible exact Ext.new _ _) | (with_reducible refine Ext.alloc' ?_ _) | (with_reducible refine Ext.drew' ?_) | (with_reducible refine Ext.drewN' ?_ _) | (with_reducible refine Ext.set' ?_ ?_ _; rotate_left; (focus (first | omega | (simp; done) | (simp; omega)))) | (with_reducible refine Ext.then (b := ?_) ?_ ?_; rotate_left; rotate_left; (with_reducible assumption))))))); (try simp only [List.nil_append, List.cons_append]))))
          (refine walkI_nil ?_; simp only [List.nil_append, List.cons_append, fins, Is, forall_eq, Act.put, List.setIfInBounds_toArray, List.set_cons_zero, List.set_cons_succ])
          rintro w5 hx5
          have hMy := (hMx.ext hx5).allocN (.cells #[.int .i64 x0, .int .i64 x1] 126)
          replace cx0 := hx5.cell1 cx0
          replace cx1 := hx5.cell1 cx1
          have hS := Src.lit1 (w := w5.alloc (.cells #[.int .i64 x0, .int .i64 x1] 126)) (b := w5.heap.size) (sz := 2) hIx rfl (fun j => by rw [(Proofs.YtcmdekhhclgdcaaGreatDoor.Own.new w5 #[.int .i64 x0, .int .i64 x1] 126).facts.1 j]; simp)
          go_wp2_with (at_builtin; refine wpList_append_M 7 rfl _ _ 101 rfl Tryz.underlying101 infoIv rfl rfl rfl hMy rfl hS one_IvR (by simp) (by simp) ?c5)
          case c5 =>
            intro v' w6 hM6
            try simp only [List.set_cons_succ, List.set_cons_zero] at hM6
            obtain ⟨na, nc, rfl, -⟩ := hM6.form 7 rfl
            go_wp2_with fail
            go_roundw
            case rel => exact ⟨k + 1, by omega, rfl, by rw [hst]; exact hM6⟩
            case measure => simp [intOf]; omega
        | cons o r =>
          have ho := hb.1 o (by simp)
          have hk7 : (o :: r).reverse[r.length]? = some o := by rw [List.reverse_cons]; simp
          have hl7 : (o :: r).reverse.length = r.length + 1 := by simp
          have hml : r.length ≤ 100000 := by have := hb.2; simp at this; omega
          have hrs : ∀ y, (o :: r).reverse.set r.length y = (y :: r).reverse := by intro y; rw [List.reverse_cons, List.reverse_cons]; simp
          obtain ⟨og, oc, hoa, p0, p1, pf, pl, -⟩ := hMx.setSnd 7 rfl r.length hk7 (y := o.2) (by unfold I64; omega)
          subst hoa
          rw [hl7] at hMx
          replace hl7 := Lib.hid hl7
          replace hrs := Lib.hid hrs
          replace hk7 := Lib.hid hk7
          clear hb
          have hkw : IntKind.i64.wrap (r.length : Int) = (r.length : Int) := by rw [IntKind.wrap_i64]; omega
          obtain ⟨o0, o1⟩ := o
          dsimp only at ho p0 p1
          obtain ⟨ho0, ho1, ho2⟩ := ho
          obtain ⟨hx0', hx1', hx2'⟩ := hx
          have hq1 : (r.length : Int) < (r.length : Int) + 1 := by omega
          have hw1 : IntKind.i64.wrap (o1 + 1) = o1 + 1 := by rw [IntKind.wrap_i64]; omega
          by_cases hle : x0 ≤ o1 + 1
          · have hst2 : Hid (joinR [] (ys.take (k + 1)) = (o0, max o1 x1) :: r) := by show _ = _; rw [hst]; exact if_pos hle
            clear hst
            go_wp2_with (first | (refine wpList_load_mid rfl 126 _ rfl _ _ rfl [Value.int .i64 _, Value.int .i64 _] _ gc Tryz.underlying126 rfl (by kernel_rfl) ?_) | (refine wpList_store_new rfl 126 _ _ rfl #[Value.int .i64 _, Value.int .i64 _] rfl rfl 126 _ (by kernel_rfl) rfl rfl ?_))
            generalize wr.alloc _ = W1 at *
            (refine wp_region_I 14 (by kernel_rfl) (by kernel_rfl) ?_; simp only [List.toList_toArray, List.take_succ_cons, List.take_zero, List.drop_succ_cons, List.drop_zero])
            (repeat (first | (refine walkI_no rfl (by simp) rfl rfl rfl ?_ ?_; (focus (simp [undef]; done)); (try simp only [List.nil_append, List.cons_append])) | (refine walkI_is (u := ?_) rfl (by simp) rfl ?_ ?_; rotate_left; (focus (intro A w' hS hA K hK; (simp only [List.map_cons, List.map_nil, knows, Is, Op.operands, Call.operands, List.lookup_cons, List.lookup_nil, Nat.reduceBEq, Bool.false_eq_true, if_false, if_true, Act.eval, Array.getD_eq_getD_getElem?, List.getElem?_toArray, List.getElem?_cons_succ, List.getElem?_cons_zero, Option.getD_some, and_true, true_and, List.append_toArray, List.nil_append, List.cons_append, List.toList_toArray, Array.toList_append, Option.toArray, List.append_nil] at hA); first | fail | (obtain ⟨hSc, hSf, hSs⟩ := hS.cells; go_simp; exact hK _ (by repeat (first | (with_reducible assumption) | (with_reducible exact Ext.rfl' _) | (with_reducible exact Ext.new _ _) | (with_reducible refine Ext.alloc' ?_ _) | (with_reducible refine Ext.drew' ?_) | (with_reducible refine Ext.drewN' ?_ _) | (with_reducible refine Ext.set' ?_ ?_ _; rotate_left; (focus (first | omega | (simp; done) | (simp; omega)))) | (with_reducible refine Ext.then (b := ?_) ?_ ?_; rotate_left; rotate_left; (with_reducible assumption))))))); (try simp only [List.nil_append, List.cons_append])) | (refine walkI_yesis (u := ?_) rfl (by simp) rfl rfl rfl ?_ ?_; rotate_left; (focus (intro A w' hS hA K hK; (simp only [List.map_cons, List.map_nil, knows, Is, Op.operands, Call.operands, List.lookup_cons, List.lookup_nil, Nat.reduceBEq, Bool.false_eq_true, if_false, if_true, Act.eval, Array.getD_eq_getD_getElem?, List.getElem?_toArray, List.getElem?_cons_succ, List.getElem?_cons_zero, Option.getD_some, and_true, true_and, List.append_toArray, List.nil_append, List.cons_append, List.toList_toArray, Array.toList_append, Option.toArray, List.append_nil] at hA); first | fail | (obtain ⟨hSc, hSf, hSs⟩ := hS.cells; go_simp; exact hK _ (by repeat (first | (with_reducible assumption) | (with_reducible exact Ext.rfl' _) | (with_reducible exact Ext.new _ _) | (with_reducible refine Ext.alloc' ?_ _) | (with_reducible refine Ext.drew' ?_) | (with_reducible refine Ext.drewN' ?_ _) | (with_reducible refine Ext.set' ?_ ?_ _; rotate_left; (focus (first | omega | (simp; done) | (simp; omega)))) | (with_reducible refine Ext.then (b := ?_) ?_ ?_; rotate_left; rotate_left; (with_reducible assumption))))))); (try simp only [List.nil_append, List.cons_append]))))
            (refine walkI_nil ?_; simp only [List.nil_append, List.cons_append, fins, Is, forall_eq, Act.put, List.setIfInBounds_toArray, List.set_cons_zero, List.set_cons_succ])
            rintro w5 hx5
            have hMy := hMx.ext hx5
            replace cx0 := hx5.cell1 cx0
            replace cx1 := hx5.cell1 cx1
            replace p0 := hx5.cell1 p0
            replace p1 := hx5.cell1 p1
            have pl5 := Nat.lt_of_lt_of_le pl hx5.size
            have sz5 := Nat.lt_of_lt_of_le hszx hx5.size
            clear cx0 p0 pf
            have cx0 : w5.cell? ⟨wr.heap.size, 1, none⟩ = some (.int .i64 x1) := cx1
            go_wp2_with fail
            (refine wp_region_I 13 (by kernel_rfl) (by kernel_rfl) ?_; simp only [List.toList_toArray, List.take_succ_cons, List.take_zero, List.drop_succ_cons, List.drop_zero])
            (repeat (first | (refine walkI_no rfl (by simp) rfl rfl rfl ?_ ?_; (focus (simp [undef]; done)); (try simp only [List.nil_append, List.cons_append])) | (refine walkI_is (u := ?_) rfl (by simp) rfl ?_ ?_; rotate_left; (focus (intro A w' hS hA K hK; (simp only [List.map_cons, List.map_nil, knows, Is, Op.operands, Call.operands, List.lookup_cons, List.lookup_nil, Nat.reduceBEq, Bool.false_eq_true, if_false, if_true, Act.eval, Array.getD_eq_getD_getElem?, List.getElem?_toArray, List.getElem?_cons_succ, List.getElem?_cons_zero, Option.getD_some, and_true, true_and, List.append_toArray, List.nil_append, List.cons_append, List.toList_toArray, Array.toList_append, Option.toArray, List.append_nil] at hA); first | fail | (obtain ⟨hSc, hSf, hSs⟩ := hS.cells; go_simp; exact hK _ (by repeat (first | (with_reducible assumption) | (with_reducible exact Ext.rfl' _) | (with_reducible exact Ext.new _ _) | (with_reducible refine Ext.alloc' ?_ _) | (with_reducible refine Ext.drew' ?_) | (with_reducible refine Ext.drewN' ?_ _) | (with_reducible refine Ext.set' ?_ ?_ _; rotate_left; (focus (first | omega | (simp; done) | (simp; omega)))) | (with_reducible refine Ext.then (b := ?_) ?_ ?_; rotate_left; rotate_left; (with_reducible assumption))))))); (try simp only [List.nil_append, List.cons_append])) | (refine walkI_yesis (u := ?_) rfl (by simp) rfl rfl rfl ?_ ?_; rotate_left; (focus (intro A w' hS hA K hK; (simp only [List.map_cons, List.map_nil, knows, Is, Op.operands, Call.operands, List.lookup_cons, List.lookup_nil, Nat.reduceBEq, Bool.false_eq_true, if_false, if_true, Act.eval, Array.getD_eq_getD_getElem?, List.getElem?_toArray, List.getElem?_cons_succ, List.getElem?_cons_zero, Option.getD_some, and_true, true_and, List.append_toArray, List.nil_append, List.cons_append, List.toList_toArray, Array.toList_append, Option.toArray, List.append_nil] at hA); first | fail | (obtain ⟨hSc, hSf, hSs⟩ := hS.cells; go_simp; exact hK _ (by repeat (first | (with_reducible assumption) | (with_reducible exact Ext.rfl' _) | (with_reducible exact Ext.new _ _) | (with_reducible refine Ext.alloc' ?_ _) | (with_reducible refine Ext.drew' ?_) | (with_reducible refine Ext.drewN' ?_ _) | (with_reducible refine Ext.set' ?_ ?_ _; rotate_left; (focus (first | omega | (simp; done) | (simp; omega)))) | (with_reducible refine Ext.then (b := ?_) ?_ ?_; rotate_left; rotate_left; (with_reducible assumption))))))); (try simp only [List.nil_append, List.cons_append]))))
            (refine walkI_nil ?_; simp only [List.nil_append, List.cons_append, fins, Is, forall_eq, Act.put, List.setIfInBounds_toArray, List.set_cons_zero, List.set_cons_succ])
            rintro w6 hx6
            obtain ⟨_, _, e7, -, q1, qf, -, hM7⟩ := (hMy.ext hx6).setSnd 7 rfl r.length hk7.out (y := max o1 x1) (by unfold I64; dsimp only; omega)
            rw [hl7.out] at e7
            cases e7
            rw [hrs.out] at hM7
            simp only [List.set_cons_succ, List.set_cons_zero] at hM7
            go_wp2_with fail
            go_roundw
            case rel => exact ⟨k + 1, by omega, rfl, by rw [hst2.out]; exact hM7⟩
            case measure => simp [intOf]; omega
          · have hst2 : Hid (joinR [] (ys.take (k + 1)) = (x0, x1) :: (o0, o1) :: r) := by show _ = _; rw [hst]; exact if_neg hle
            clear hst
            go_wp2_with (first | (refine wpList_load_mid rfl 126 _ rfl _ _ rfl [Value.int .i64 _, Value.int .i64 _] _ gc Tryz.underlying126 rfl (by kernel_rfl) ?_) | (refine wpList_store_new rfl 126 _ _ rfl #[Value.int .i64 _, Value.int .i64 _] rfl rfl 126 _ (by kernel_rfl) rfl rfl ?_))
            generalize wr.alloc _ = W1 at *
            (refine wp_region_I 14 (by kernel_rfl) (by kernel_rfl) ?_; simp only [List.toList_toArray, List.take_succ_cons, List.take_zero, List.drop_succ_cons, List.drop_zero])
            (repeat (first | (refine walkI_no rfl (by simp) rfl rfl rfl ?_ ?_; (focus (simp [undef]; done)); (try simp only [List.nil_append, List.cons_append])) | (refine walkI_is (u := ?_) rfl (by simp) rfl ?_ ?_; rotate_left; (focus (intro A w' hS hA K hK; (simp only [List.map_cons, List.map_nil, knows, Is, Op.operands, Call.operands, List.lookup_cons, List.lookup_nil, Nat.reduceBEq, Bool.false_eq_true, if_false, if_true, Act.eval, Array.getD_eq_getD_getElem?, List.getElem?_toArray, List.getElem?_cons_succ, List.getElem?_cons_zero, Option.getD_some, and_true, true_and, List.append_toArray, List.nil_append, List.cons_append, List.toList_toArray, Array.toList_append, Option.toArray, List.append_nil] at hA); first | fail | (obtain ⟨hSc, hSf, hSs⟩ := hS.cells; go_simp; exact hK _ (by repeat (first | (with_reducible assumption) | (with_reducible exact Ext.rfl' _) | (with_reducible exact Ext.new _ _) | (with_reducible refine Ext.alloc' ?_ _) | (with_reducible refine Ext.drew' ?_) | (with_reducible refine Ext.drewN' ?_ _) | (with_reducible refine Ext.set' ?_ ?_ _; rotate_left; (focus (first | omega | (simp; done) | (simp; omega)))) | (with_reducible refine Ext.then (b := ?_) ?_ ?_; rotate_left; rotate_left; (with_reducible assumption))))))); (try simp only [List.nil_append, List.cons_append])) | (refine walkI_yesis (u := ?_) rfl (by simp) rfl rfl rfl ?_ ?_; rotate_left; (focus (intro A w' hS hA K hK; (simp only [List.map_cons, List.map_nil, knows, Is, Op.operands, Call.operands, List.lookup_cons, List.lookup_nil, Nat.reduceBEq, Bool.false_eq_true, if_false, if_true, Act.eval, Array.getD_eq_getD_getElem?, List.getElem?_toArray, List.getElem?_cons_succ, List.getElem?_cons_zero, Option.getD_some, and_true, true_and, List.append_toArray, List.nil_append, List.cons_append, List.toList_toArray, Array.toList_append, Option.toArray, List.append_nil] at hA); first | fail | (obtain ⟨hSc, hSf, hSs⟩ := hS.cells; go_simp; exact hK _ (by repeat (first | (with_reducible assumption) | (with_reducible exact Ext.rfl' _) | (with_reducible exact Ext.new _ _) | (with_reducible refine Ext.alloc' ?_ _) | (with_reducible refine Ext.drew' ?_) | (with_reducible refine Ext.drewN' ?_ _) | (with_reducible refine Ext.set' ?_ ?_ _; rotate_left; (focus (first | omega | (simp; done) | (simp; omega)))) | (with_reducible refine Ext.then (b := ?_) ?_ ?_; rotate_left; rotate_left; (with_reducible assumption))))))); (try simp only [List.nil_append, List.cons_append]))))
            (refine walkI_nil ?_; simp only [List.nil_append, List.cons_append, fins, Is, forall_eq, Act.put, List.setIfInBounds_toArray, List.set_cons_zero, List.set_cons_succ])
            rintro w5 hx5
            have hMy := (hMx.ext hx5).allocN (.cells #[.int .i64 x0, .int .i64 x1] 126)
            replace cx0 := hx5.cell1 cx0
            replace cx1 := hx5.cell1 cx1
            have hS := Src.lit1 (w := w5.alloc (.cells #[.int .i64 x0, .int .i64 x1] 126)) (b := w5.heap.size) (sz := 2) hIx rfl (fun j => by rw [(Proofs.YtcmdekhhclgdcaaGreatDoor.Own.new w5 #[.int .i64 x0, .int .i64 x1] 126).facts.1 j]; simp)
            go_wp2_with (at_builtin; refine wpList_append_M 7 rfl _ _ 101 rfl Tryz.underlying101 infoIv rfl rfl rfl hMy rfl hS one_IvR (by simp; omega) (by simp; omega) ?c6)
            case c6 =>
              intro v' w6 hM6
              try simp only [List.set_cons_succ, List.set_cons_zero] at hM6
              obtain ⟨na, nc, rfl, -⟩ := hM6.form 7 rfl
              go_wp2_with fail
              go_roundw
              case rel => exact ⟨k + 1, by omega, rfl, by rw [hst2.out]; simpa using hM6⟩
              case measure => simp [intOf]; omega
      · obtain rfl : k = ys.length := by omega
        rw [List.take_length] at hM
        obtain ⟨oa, oc, rfl, -⟩ := hM.form 7 rfl
        generalize (joinR [] ys).reverse = out at *
        have f4 := (hM.box 0 rfl).facts.2 0
        have f5 := (hM.box 1 rfl).facts.2 0
        have c4 : _ = some (Value.slice none 0 0) := (hM.box 0 rfl).facts.1 0
        have c5 : _ = some (Value.int .i64 0) := (hM.box 1 rfl).facts.1 0
        have hM2 := (hM.set 0 rfl 0 (.slice oa out.length oc)).set 1 rfl 0 (.int .i64 0)
        simp only [List.set_cons_succ, List.set_cons_zero, List.setIfInBounds_toArray] at hM2
        go_wp2_with fail
        rw [Exit.noGoto_ret]
        generalize ((wr.setCell _ _).setCell _ _) = W4 at *
        have k4 : W4.heap[D]? = some (Obj.deferred (some [])) := hM2.ok 6 _ rfl
        have hM3 := hM2.pick [0, 1, 7] (by decide)
        simp only [List.map_cons, List.map_nil, List.getElem?_cons_zero, List.getElem?_cons_succ, Option.getD_some] at hM3
        have hM4 := hM3.ownFrom (B := W4.putObj D (.deferred none)) (row := some D) (n := W0.heap.size) (by
          intro c hc
          simp only [List.mem_cons, List.not_mem_nil, or_false] at hc
          rcases hc with rfl | rfl | rfl
          · exact isC_box _ _ _
          · exact isC_box _ _ _
          · exact isC_own _ _ _ _ _) (by omega) (grownBy_putObj' _ _ _) (fun r e => by cases e; exact ⟨hD, _, k4, rfl⟩)
        have r0 : _ = some (Value.slice oa out.length oc) := (hM4.box 0 rfl).facts.1 0
        have r1 : _ = some (Value.int .i64 0) := (hM4.box 1 rfl).facts.1 0
        refine ⟨by simp, .inl ⟨_, _, rfl, run_takeDeferred k4, ?_⟩⟩
        refine ⟨.tuple #[.slice oa out.length oc, .int .i64 0], by simp [results, Tryz.results49, go_sem, r0, r1], ?_⟩
        exact ⟨_, out, by rw [hE], hM4.ex, hM4.rep 2 rfl, fun _ => hj.out, fun h => absurd hE h⟩
theorem breaks_c (file : Int) (xs : List Ac) (va : Value) (w : World) (hA : ActsR (ph w) va xs) (hlen : xs.length ≤ 100000) : Calls Tryz.prog 49 #[.int .i64 file, va] w (BrkP w file xs) := (callsIn_wide (n := 7)).1 (breaks_in file xs va w hA hlen)
end Go.Proofs.YtcmdekhhclgdcaaGreatDoor
