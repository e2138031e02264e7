/- package term: Breaks. -/
import Derived.Test.YtcmdekhhclgdcaaDoorMemR
import Derived.Test.YtcmdekhhclgdcaaDoorTInter
namespace Go.Proofs.YtcmdekhhclgdcaaDoor
open Go.RowKit Go.Shelf
set_option linter.unusedSimpArgs false
set_option linter.unusedVariables false
def badB (file : Int) (a : Ac) : Bool := (a.kind == 9 && a.file == file) && (decide (a.day ≤ a.number) && (decide (a.day < 0) || decide (131072 < a.number)))
def tchk (file : Int) (xs : List Ac) : Int := if ¬ (0 ≤ file ∧ file ≤ 4095) then 1 else if xs.any (badB file) = true then 5 else 0
/-- the joined interruptions of a file -/
def BrkOk (file : Int) (xs : List Ac) (l : List Iv) : Prop := Canon l ∧ (∀ d, cov l d = brokB file xs d) ∧ (∀ x ∈ l, 0 ≤ x.1 ∧ x.1 ≤ x.2 ∧ x.2 ≤ 131072) ∧ l.length ≤ xs.length
def BrkP (w : World) (file : Int) (xs : List Ac) (e : Ending) (w' : World) : Prop :=
  ∃ v l, e = .returned (.tuple #[v, .int .i64 (tchk file xs)]) ∧ Ext w w' ∧ IvsR (ph w') v l ∧ (tchk file xs = 0 → BrkOk file xs l) ∧ (tchk file xs ≠ 0 → v = .slice none 0 0 ∧ l = [])
def okIv (x : Iv) : Bool := decide (0 ≤ x.1) && decide (x.2 ≤ 131072)
theorem tchk_5 {file : Int} {xs : List Ac} (hf : 0 ≤ file ∧ file ≤ 4095) {x : IvT} (hx : x ∈ ivs file xs) (hb : okIv x.1 = false) : tchk file xs = 5 := by
  unfold tchk
  rw [if_neg (by simpa using hf), if_pos]
  unfold ivs at hx
  obtain ⟨a, ha, hy⟩ := List.mem_filterMap.1 hx
  unfold ivT at hy
  split at hy
  · rename_i h
    cases hy
    refine List.any_eq_true.2 ⟨a, ha, ?_⟩
    unfold ivB at h
    unfold badB
    unfold okIv at hb
    simp at h hb ⊢
    refine ⟨h.1, h.2, ?_⟩
    by_cases h3 : 0 ≤ a.day
    · right; exact hb h3
    · left; omega
  · cases hy
theorem tchk_0 {file : Int} {xs : List Ac} (hf : 0 ≤ file ∧ file ≤ 4095) (h : ∀ x ∈ ivs file xs, okIv x.1 = true) : tchk file xs = 0 := by
  unfold tchk
  rw [if_neg (by simpa using hf), if_neg]
  intro hb
  obtain ⟨a, ha, hy⟩ := List.any_eq_true.1 hb
  unfold badB at hy
  simp at hy
  obtain ⟨⟨h1, h2⟩, h3, h4⟩ := hy
  have hI : ivB file a = true := by unfold ivB; simp [h1, h2, h3]
  have hm : (⟨(a.day, a.number), ivB_le hI⟩ : IvT) ∈ ivs file xs := by
    unfold ivs
    refine List.mem_filterMap.2 ⟨a, ha, ?_⟩
    unfold ivT; rw [dif_pos hI]
  have := h _ hm
  unfold okIv at this
  simp at this
  omega
theorem cov_ivs (file : Int) (xs : List Ac) (d : Int) : cov ((ivs file xs).map Subtype.val) d = brokB file xs d := by
  rw [Bool.eq_iff_iff, cov_iff]
  unfold brokB
  rw [List.any_eq_true]
  constructor
  · rintro ⟨x, hx, h1, h2⟩
    obtain ⟨y, hy, rfl⟩ := List.mem_map.1 hx
    obtain ⟨a, ha, hz⟩ := List.mem_filterMap.1 hy
    unfold ivT at hz
    split at hz
    · rename_i h
      cases hz
      refine ⟨a, ha, ?_⟩
      unfold ivB at h
      unfold brkB
      simp at h ⊢
      exact ⟨⟨h.1, h1⟩, h2⟩
    · cases hz
  · rintro ⟨a, ha, h⟩
    unfold brkB at h
    simp at h
    obtain ⟨⟨⟨h1, h2⟩, h3⟩, h4⟩ := h
    have hI : ivB file a = true := by unfold ivB; simp [h1, h2]; omega
    refine ⟨(a.day, a.number), List.mem_map.2 ⟨⟨(a.day, a.number), ivB_le hI⟩, List.mem_filterMap.2 ⟨a, ha, by unfold ivT; rw [dif_pos hI]⟩, rfl⟩, h3, h4⟩
/-- one step of joining -/
def stepJ : List Iv → Iv → List Iv
  | [], x => [x]
  | o :: out, x => if x.1 ≤ o.2 + 1 then (o.1, max o.2 x.2) :: out else x :: o :: out
theorem joinR_fold : ∀ (l out : List Iv), joinR out l = l.foldl stepJ out
  | [], out => by cases out <;> rfl
  | x :: l, [] => by show joinR [x] l = _; rw [joinR_fold l [x]]; rfl
  | x :: l, o :: out => by
    rw [joinR, List.foldl_cons, stepJ]
    split
    · exact joinR_fold l _
    · exact joinR_fold l _
theorem joinR_snoc (l : List Iv) (x : Iv) : joinR [] (l ++ [x]) = stepJ (joinR [] l) x := by rw [joinR_fold, joinR_fold, List.foldl_append]; rfl
theorem stepJ_bd {out : List Iv} {x : Iv} (h : ∀ y ∈ out, 0 ≤ y.1 ∧ y.1 ≤ y.2 ∧ y.2 ≤ 131072) (hx : 0 ≤ x.1 ∧ x.1 ≤ x.2 ∧ x.2 ≤ 131072) : (∀ y ∈ stepJ out x, 0 ≤ y.1 ∧ y.1 ≤ y.2 ∧ y.2 ≤ 131072) ∧ (stepJ out x).length ≤ out.length + 1 := by
  cases out with
  | nil => exact ⟨fun y hy => by rw [List.mem_singleton.1 hy]; exact hx, by simp [stepJ]⟩
  | cons o out =>
    have ho := h o (by simp)
    have e : stepJ (o :: out) x = if x.1 ≤ o.2 + 1 then (o.1, max o.2 x.2) :: out else x :: o :: out := rfl
    rw [e]
    split
    · refine ⟨fun y hy => ?_, by simp⟩
      rcases List.mem_cons.1 hy with rfl | hy
      · dsimp only; omega
      · exact h y (by simp [hy])
    · refine ⟨fun y hy => ?_, by simp⟩
      rcases List.mem_cons.1 hy with rfl | hy
      · exact hx
      · exact h y hy
theorem joinR_bd : ∀ (l : List Iv), (∀ y ∈ l, 0 ≤ y.1 ∧ y.1 ≤ y.2 ∧ y.2 ≤ 131072) → (∀ y ∈ joinR [] l, 0 ≤ y.1 ∧ y.1 ≤ y.2 ∧ y.2 ≤ 131072) ∧ (joinR [] l).length ≤ l.length := by
  have key : ∀ (n : Nat) (l : List Iv), l.length = n → (∀ y ∈ l, 0 ≤ y.1 ∧ y.1 ≤ y.2 ∧ y.2 ≤ 131072) → (∀ y ∈ joinR [] l, 0 ≤ y.1 ∧ y.1 ≤ y.2 ∧ y.2 ≤ 131072) ∧ (joinR [] l).length ≤ l.length := by
    intro n
    induction n with
    | zero => intro l hl _; obtain rfl : l = [] := List.length_eq_zero_iff.1 hl; have e : joinR [] [] = [] := rfl; rw [e]; exact ⟨fun y hy => (by cases hy), Nat.le_refl _⟩
    | succ n ih =>
      intro l hl h
      have hne : l ≠ [] := fun e => by subst e; simp at hl
      rw [← List.dropLast_concat_getLast hne] at h ⊢
      have h1 := ih l.dropLast (by simp [hl]) fun y hy => h y (by simp [hy])
      rw [joinR_snoc]
      have h2 := stepJ_bd h1.1 (h (l.getLast hne) (by simp))
      refine ⟨h2.1, ?_⟩
      rw [List.length_append, List.length_singleton]
      omega
  exact fun l h => key _ l rfl h
theorem joined {file : Int} {xs : List Ac} {l : List Iv} (hp : l.Perm ((ivs file xs).map Subtype.val)) (hs : l.Pairwise (fun x y : Iv => x.1 ≤ y.1)) (hok : ∀ x ∈ ivs file xs, okIv x.1 = true) : BrkOk file xs (joinR [] l).reverse := by
  have hb : ∀ y ∈ l, 0 ≤ y.1 ∧ y.1 ≤ y.2 ∧ y.2 ≤ 131072 := by
    intro y hy
    obtain ⟨z, hz, rfl⟩ := List.mem_map.1 (hp.mem_iff.1 hy)
    have h1 := hok z hz
    have h2 := z.2
    unfold okIv at h1
    simp at h1
    omega
  have hj := joinR_law l [] trivial (fun x hx => (hb x hx).2.1) (fun o ho => by simp at ho) hs
  have hd := joinR_bd l hb
  refine ⟨hj.1.canon, fun d => ?_, fun x hx => hd.1 x (by simpa using hx), ?_⟩
  · have h1 : cov (joinR [] l).reverse d = cov (joinR [] l) d := by
      rw [Bool.eq_iff_iff, cov_iff, cov_iff]; simp
    have h2 : cov l d = cov ((ivs file xs).map Subtype.val) d := by
      rw [Bool.eq_iff_iff, cov_iff, cov_iff]
      constructor
      · rintro ⟨x, hx, h⟩; exact ⟨x, hp.mem_iff.1 hx, h⟩
      · rintro ⟨x, hx, h⟩; exact ⟨x, hp.mem_iff.2 hx, h⟩
    rw [h1, hj.2, h2, cov_ivs]
    simp [cov]
  · have h1 := hp.length_eq
    have h2 := ivs_len file xs
    rw [List.length_reverse]
    rw [List.length_map] at h1
    omega
end Go.Proofs.YtcmdekhhclgdcaaDoor
