/- the points of sets: their ends tell all. -/
import Derived.Test.YtmbkefgmiehdiaaSpP
namespace Go.Proofs.Ytmbkefgmiehdiaa
set_option linter.unusedVariables false
set_option linter.unusedSimpArgs false
theorem mem_putR {x r : Rat2} : ∀ {l : List Rat2}, x ∈ putR l r ↔ x = r ∨ x ∈ l
  | [] => by simp [putR]
  | p :: l => by
    unfold putR
    split
    · rw [List.mem_cons, mem_putR, List.mem_cons]
      constructor
      · rintro (h | h | h)
        · exact .inr (.inl h)
        · exact .inl h
        · exact .inr (.inr h)
      · rintro (h | h | h)
        · exact .inr (.inl h)
        · exact .inl h
        · exact .inr (.inr h)
    · split
      · rename_i h1 h2
        subst h2
        rw [List.mem_cons]
        constructor
        · exact .inr
        · rintro (h | h)
          · exact .inl h
          · exact h
      · simp [List.mem_cons]
def AscR (l : List Rat2) : Prop := l.Pairwise fun a b => lessR a b = true
theorem asc_putR {r : Rat2} (hr : r.ok) : ∀ {l : List Rat2}, (∀ p ∈ l, p.ok) → AscR l → AscR (putR l r)
  | [], _, _ => List.pairwise_singleton _ _
  | p :: l, ho, h => by
    obtain ⟨h1, h2⟩ := List.pairwise_cons.1 h
    unfold putR
    split
    · rename_i hl
      refine List.pairwise_cons.2 ⟨fun x hx => ?_, asc_putR hr (fun p hp => ho p (List.mem_cons_of_mem _ hp)) h2⟩
      rcases mem_putR.1 hx with rfl | hx
      · exact hl
      · exact h1 x hx
    · rename_i hl
      split
      · exact h
      · rename_i hne
        have hrp : lessR r p = true := lessR_total (ho p List.mem_cons_self) hr (by simpa using hl) hne
        refine List.pairwise_cons.2 ⟨fun x hx => ?_, h⟩
        rcases List.mem_cons.1 hx with rfl | hx
        · exact hrp
        · exact lessR_trans hr (ho p List.mem_cons_self) (ho x (List.mem_cons_of_mem _ hx)) hrp (h1 x hx)
/-- what the points are: small, ascending, with all limits -/
structure Pts (l : List Itv) (ps : List Rat2) : Prop where
  sm : ∀ p ∈ ps, smallB p = true
  asc : AscR ps
  lo : ∀ x ∈ l, x.loI = false → x.lo ∈ ps
  hi : ∀ x ∈ l, x.hiI = false → x.hi ∈ ps
theorem goodB.smlo {x : Itv} (h : goodB x = true) (hi : x.loI = false) : smallB x.lo = true := by
  have := (goodB_iff.1 h).1
  unfold limB at this
  rwa [if_neg (by rw [hi]; simp)] at this
theorem goodB.smhi {x : Itv} (h : goodB x = true) (hi : x.hiI = false) : smallB x.hi = true := by
  have := (goodB_iff.1 h).2.1
  unfold limB at this
  rwa [if_neg (by rw [hi]; simp)] at this
theorem Pts.put1 {l : List Itv} {ps : List Rat2} {r : Rat2} (h : Pts l ps) (hr : smallB r = true) : Pts l (putR ps r) where
  sm p hp := by
    rcases mem_putR.1 hp with rfl | hp
    · exact hr
    · exact h.sm p hp
  asc := asc_putR (smallB_ok hr) (fun p hp => smallB_ok (h.sm p hp)) h.asc
  lo x hx hi := mem_putR.2 (.inr (h.lo x hx hi))
  hi x hx hi := mem_putR.2 (.inr (h.hi x hx hi))
theorem Pts.snoc {l : List Itv} {ps : List Rat2} {x : Itv} (h : Pts l ps) (hx : goodB x = true) : Pts (l ++ [x]) (ptsX ps x) := by
  have h1 : Pts l (if x.loI then ps else putR ps x.lo) ∧ (x.loI = false → x.lo ∈ (if x.loI then ps else putR ps x.lo)) := by
    cases hi : x.loI with
    | true => exact ⟨by simpa using h, fun e => by cases e⟩
    | false =>
      rw [if_neg (by simp)]
      exact ⟨h.put1 (goodB.smlo hx hi), fun _ => mem_putR.2 (.inl rfl)⟩
  unfold ptsX
  dsimp only
  generalize (if x.loI then ps else putR ps x.lo) = b at *
  have h2 : Pts l (if x.hiI then b else putR b x.hi) ∧ (x.hiI = false → x.hi ∈ (if x.hiI then b else putR b x.hi)) ∧ ∀ p ∈ b, p ∈ (if x.hiI then b else putR b x.hi) := by
    cases hi : x.hiI with
    | true => exact ⟨by simpa using h1.1, (fun e => by cases e), fun p hp => by simpa using hp⟩
    | false =>
      rw [if_neg (by simp)]
      exact ⟨h1.1.put1 (goodB.smhi hx hi), fun _ => mem_putR.2 (.inl rfl), fun p hp => mem_putR.2 (.inr hp)⟩
  obtain ⟨h3, h4, h5⟩ := h2
  refine ⟨h3.sm, h3.asc, fun y hy hi => ?_, fun y hy hi => ?_⟩
  · rcases List.mem_append.1 hy with hy | hy
    · exact h3.lo y hy hi
    · rw [List.mem_singleton.1 hy] at hi ⊢; exact h5 _ (h1.2 hi)
  · rcases List.mem_append.1 hy with hy | hy
    · exact h3.hi y hy hi
    · rw [List.mem_singleton.1 hy] at hi ⊢; exact h4 hi
theorem ptsL_snoc (l : List Itv) (x : Itv) : ptsL (l ++ [x]) = ptsX (ptsL l) x := by unfold ptsL; rw [List.foldl_append]; rfl
theorem pts_of {l : List Itv} (h : ∀ x ∈ l, goodB x = true) : Pts l (ptsL l) := by
  have key : ∀ n, n ≤ l.length → Pts (l.take n) (ptsL (l.take n)) := by
    intro n
    induction n with
    | zero => intro _; exact ⟨(fun p hp => by cases hp), List.Pairwise.nil, (fun x hx => by simp at hx), fun x hx => by simp at hx⟩
    | succ n ih =>
      intro hn
      rw [List.take_succ_eq_append_getElem (by omega), ptsL_snoc]
      exact (ih (by omega)).snoc (h _ (List.getElem_mem _))
  have := key l.length (Nat.le_refl _)
  rwa [List.take_length] at this
theorem asc_starts : ∀ {ps : List Rat2}, AscR ps → (ps.flatMap fun p => [(⟨0, p, false⟩ : En), ⟨0, p, true⟩]).Pairwise fun a b => lessE a b = true
  | [], _ => List.Pairwise.nil
  | p :: ps, h => by
    obtain ⟨h1, h2⟩ := List.pairwise_cons.1 h
    rw [List.flatMap_cons, List.pairwise_append]
    refine ⟨?_, asc_starts h2, fun a ha b hb => ?_⟩
    · simp [lessE_ab, lessR_irr]
    · obtain ⟨q, hq, hb⟩ := List.mem_flatMap.1 hb
      have hpq := h1 q hq
      simp only [List.mem_cons, List.not_mem_nil, or_false] at ha hb
      have hqp : lessR q p = false := by
        unfold lessR at *
        simp at *; omega
      rcases ha with rfl | rfl <;> rcases hb with rfl | rfl
      · rw [lessR_eq]; exact hpq
      · rw [lessE_ab, hqp]; rfl
      · rw [lessE_ba]; exact hpq
      · rw [lessR_eq]; exact hpq
theorem ends_pts {ls : List (List Itv)} {ps : List Rat2} (h : Pts ls.flatten ps) : Ends ls (starts ps ++ [topE]) := by
  have hsm : ∀ e ∈ ps.flatMap fun p => [(⟨0, p, false⟩ : En), ⟨0, p, true⟩], e.sm ∧ e.far = 0 := by
    intro e he
    obtain ⟨p, hp, he⟩ := List.mem_flatMap.1 he
    simp only [List.mem_cons, List.not_mem_nil, or_false] at he
    rcases he with rfl | rfl
    · exact ⟨.inl ⟨rfl, h.sm p hp⟩, rfl⟩
    · exact ⟨.inl ⟨rfl, h.sm p hp⟩, rfl⟩
  refine ⟨⟨_, rfl⟩, ?_, ?_, ?_⟩
  · intro e he
    unfold starts at he
    rcases List.mem_append.1 he with he | he
    · rcases List.mem_cons.1 he with rfl | he
      · exact .inr (.inl rfl)
      · exact (hsm e he).1
    · rw [List.mem_singleton.1 he]; exact .inr (.inr rfl)
  · unfold starts
    rw [List.pairwise_append]
    refine ⟨List.pairwise_cons.2 ⟨fun e he => ?_, asc_starts h.asc⟩, List.pairwise_singleton _ _, fun a ha b hb => ?_⟩
    · have := (hsm e he).2
      unfold lessE
      rw [if_pos (by rw [this]; decide), this]; rfl
    · rw [List.mem_singleton.1 hb]
      rcases List.mem_cons.1 ha with rfl | ha
      · rfl
      · exact sm_top (hsm a ha).1 (by rw [(hsm a ha).2]; decide)
  · intro l hl x hx
    have hf : x ∈ ls.flatten := List.mem_flatten.2 ⟨l, hl, hx⟩
    unfold starts
    constructor
    · unfold loE
      split
      · simp
      · rename_i hi
        refine List.mem_append_left _ (List.mem_cons_of_mem _ (List.mem_flatMap.2 ⟨x.lo, h.lo x hf (by simpa using hi), ?_⟩))
        cases x.loO <;> simp
    · unfold hiE
      split
      · simp
      · rename_i hi
        refine List.mem_append_left _ (List.mem_cons_of_mem _ (List.mem_flatMap.2 ⟨x.hi, h.hi x hf (by simpa using hi), ?_⟩))
        cases x.hiO <;> simp
theorem ends_starts {ls : List (List Itv)} (h : ∀ x ∈ ls.flatten, goodB x = true) : Ends ls (starts (ptsL ls.flatten) ++ [topE]) := ends_pts (pts_of h)
end Go.Proofs.Ytmbkefgmiehdiaa
