/- package priorartref15: what Breaks computes. -/
import Derived.Test.YtcmdekhhclgdcaaDoorTBrk2
namespace Go.Proofs.YtcmdekhhclgdcaaDoor
open Go.RowKit Go.Shelf
set_option linter.unusedSimpArgs false
set_option linter.unusedVariables false
theorem BrkOk.uniq {file : Int} {xs : List Ac} {l r : List Iv} (h : BrkOk file xs l) (k : BrkOk file xs r) : l = r := canon_uniq h.1 k.1 fun d => (h.2.1 d).trans (k.2.1 d).symm
/-- a day on which an interruption of the file begins, the day before not being broken -/
def begB (file : Int) (xs : List Ac) (a : Ac) : Bool := ivB file a && !brokB file xs (a.day - 1)
/-- the beginnings among some acts, in order -/
def BegOk (file : Int) (xs ys : List Ac) (l : List Int) : Prop := l.Pairwise (· < ·) ∧ (∀ d, d ∈ l ↔ ∃ a ∈ ys, begB file xs a = true ∧ a.day = d) ∧ l.length ≤ ys.length
def insS (l : List Int) (d : Int) : List Int := l.takeWhile (fun x => decide (x < d)) ++ d :: l.dropWhile (fun x => decide (x < d))
theorem insS_mem (l : List Int) (d x : Int) : x ∈ insS l d ↔ x ∈ l ∨ x = d := by
  unfold insS
  rw [List.mem_append, List.mem_cons]
  conv => rhs; rw [← List.takeWhile_append_dropWhile (p := fun x => decide (x < d)) (l := l), List.mem_append]
  constructor
  · rintro (h | h | h)
    · exact .inl (.inl h)
    · exact .inr h
    · exact .inl (.inr h)
  · rintro ((h | h) | h)
    · exact .inl h
    · exact .inr (.inr h)
    · exact .inr (.inl h)
theorem insS_len (l : List Int) (d : Int) : (insS l d).length = l.length + 1 := by
  unfold insS
  have := congrArg List.length (List.takeWhile_append_dropWhile (p := fun x => decide (x < d)) (l := l))
  rw [List.length_append] at this
  rw [List.length_append, List.length_cons]; omega
theorem insS_sorted : ∀ {l : List Int} {d : Int}, l.Pairwise (· < ·) → d ∉ l → (insS l d).Pairwise (· < ·)
  | [], d, _, _ => by simp [insS]
  | x :: l, d, h, hn => by
    obtain ⟨h1, h2⟩ := List.pairwise_cons.1 h
    by_cases hx : x < d
    · have e : insS (x :: l) d = x :: insS l d := by unfold insS; simp [hx]
      rw [e, List.pairwise_cons]
      refine ⟨fun y hy => ?_, insS_sorted h2 (fun hm => hn (by simp [hm]))⟩
      rcases (insS_mem l d y).1 hy with hy | rfl
      · exact h1 y hy
      · exact hx
    · have e : insS (x :: l) d = d :: x :: l := by unfold insS; simp [hx]
      rw [e, List.pairwise_cons]
      have hxd : d < x := by
        have : d ≠ x := fun e => hn (by simp [e])
        omega
      refine ⟨fun y hy => ?_, h⟩
      rcases List.mem_cons.1 hy with rfl | hy
      · exact hxd
      · have := h1 y hy; omega
theorem BegOk.skip {file : Int} {xs ys : List Ac} {l : List Int} {a : Ac} (h : BegOk file xs ys l) (ha : begB file xs a = false ∨ a.day ∈ l) : BegOk file xs (ys ++ [a]) l := by
  obtain ⟨h1, h2, h3⟩ := h
  refine ⟨h1, fun d => ?_, by simp; omega⟩
  rw [h2 d]
  constructor
  · rintro ⟨b, hb, hc⟩; exact ⟨b, by simp [hb], hc⟩
  · rintro ⟨b, hb, hc, hd⟩
    rcases List.mem_append.1 hb with hb | hb
    · exact ⟨b, hb, hc, hd⟩
    · obtain rfl := List.mem_singleton.1 hb
      rcases ha with ha | ha
      · rw [ha] at hc; cases hc
      · rw [hd] at ha; exact (h2 d).1 ha
theorem BegOk.put {file : Int} {xs ys : List Ac} {l : List Int} {a : Ac} (h : BegOk file xs ys l) (ha : begB file xs a = true) (hn : a.day ∉ l) : BegOk file xs (ys ++ [a]) (insS l a.day) := by
  obtain ⟨h1, h2, h3⟩ := h
  refine ⟨insS_sorted h1 hn, fun d => ?_, by rw [insS_len]; simp; omega⟩
  rw [insS_mem, h2 d]
  constructor
  · rintro (⟨b, hb, hc⟩ | rfl)
    · exact ⟨b, by simp [hb], hc⟩
    · exact ⟨a, by simp, ha, rfl⟩
  · rintro ⟨b, hb, hc, hd⟩
    rcases List.mem_append.1 hb with hb | hb
    · exact .inl ⟨b, hb, hc, hd⟩
    · obtain rfl := List.mem_singleton.1 hb
      exact .inr hd.symm
/-- a run of broken days from b to y, whole at its end -/
def RunOk (p : Int → Bool) (b y : Int) : Prop := b ≤ y ∧ (∀ d, b ≤ d → d ≤ y → p d = true) ∧ p (y + 1) = false
theorem brok_bd {file : Int} {xs : List Ac} (hE : tchk file xs = 0) {d : Int} (h : brokB file xs d = true) : 0 ≤ d ∧ d ≤ 131072 := by
  obtain ⟨a, ha, hb⟩ := List.any_eq_true.1 h
  unfold tchk at hE
  split at hE
  · cases hE
  · split at hE
    · cases hE
    · rename_i h3
      have h4 : badB file a = false := by
        rw [Bool.not_eq_true, List.any_eq_false] at h3
        simpa using h3 a ha
      unfold brkB at hb
      unfold badB at h4
      simp at hb h4
      obtain ⟨⟨⟨h5, h6⟩, h7⟩, h8⟩ := hb
      have := h4 h5 h6 (by omega)
      omega
theorem canon_of : ∀ {out : List Iv} {p : Int → Bool}, (out.map Prod.fst).Pairwise (· < ·) → (∀ x ∈ out, RunOk p x.1 x.2 ∧ p (x.1 - 1) = false) → Canon out
  | [], _, _, _ => trivial
  | [x], _, _, h => (h x (by simp)).1.1
  | x :: y :: r, p, hs, h => by
    obtain ⟨h1, h2⟩ := List.pairwise_cons.1 hs
    have hx := h x (by simp)
    have hy := h y (by simp)
    refine ⟨hx.1.1, ?_, canon_of h2 fun z hz => h z (List.mem_cons_of_mem _ hz)⟩
    have hlt : x.1 < y.1 := h1 y.1 (by simp)
    refine Classical.byContradiction fun hn => ?_
    have := hx.1.2.1 (y.1 - 1) (by omega) (by omega)
    rw [hy.2] at this; cases this
theorem brkOk_of {file : Int} {xs : List Ac} {l : List Int} {out : List Iv} (hE : tchk file xs = 0) (hl : BegOk file xs xs l) (ho : out.map Prod.fst = l) (hr : ∀ x ∈ out, RunOk (brokB file xs) x.1 x.2) : BrkOk file xs out := by
  have hb : ∀ x ∈ out, brokB file xs (x.1 - 1) = false := by
    intro x hx
    have hm : x.1 ∈ l := by rw [← ho]; exact List.mem_map.2 ⟨x, hx, rfl⟩
    obtain ⟨a, -, h1, h2⟩ := (hl.2.1 _).1 hm
    unfold begB at h1
    simp at h1
    rw [← h2]; exact h1.2
  refine ⟨canon_of (p := brokB file xs) (by rw [ho]; exact hl.1) fun x hx => ⟨hr x hx, hb x hx⟩, fun d => ?_, fun x hx => ?_, ?_⟩
  · rw [Bool.eq_iff_iff, cov_iff]
    constructor
    · rintro ⟨x, hx, h1, h2⟩; exact (hr x hx).2.1 d h1 h2
    · intro hd
      have key : ∀ n : Nat, ∀ d', d' = d - n → (∀ e, d' ≤ e → e ≤ d → brokB file xs e = true) → ∃ x ∈ out, x.1 ≤ d ∧ d ≤ x.2 := by
        have hd0 := brok_bd hE hd
        intro n
        induction hk : (d.toNat + 1 - n) generalizing n with
        | zero =>
          intro d' hd' hall
          have := brok_bd hE (hall d' (Int.le_refl _) (by omega))
          omega
        | succ m ih =>
          intro d' hd' hall
          cases hp : brokB file xs (d' - 1) with
          | true =>
            refine ih (n + 1) (by omega) (d' - 1) (by omega) fun e h1 h2 => ?_
            by_cases he : e = d' - 1
            · rw [he]; exact hp
            · exact hall e (by omega) h2
          | false =>
            have h0 := hall d' (Int.le_refl _) (by omega)
            obtain ⟨a, ha, hb⟩ := List.any_eq_true.1 h0
            unfold brkB at hb
            simp at hb
            obtain ⟨⟨⟨h5, h6⟩, h7⟩, h8⟩ := hb
            have hday : a.day = d' := by
              refine Classical.byContradiction fun hne => ?_
              have : brokB file xs (d' - 1) = true := List.any_eq_true.2 ⟨a, ha, by unfold brkB; simp [h5, h6]; omega⟩
              rw [hp] at this; cases this
            have hm : d' ∈ l := (hl.2.1 d').2 ⟨a, ha, by unfold begB ivB; rw [hday, hp]; simp [h5, h6]; omega, hday⟩
            rw [← ho] at hm
            obtain ⟨x, hx, hx1⟩ := List.mem_map.1 hm
            refine ⟨x, hx, by omega, ?_⟩
            have hR := hr x hx
            refine Classical.byContradiction fun hn => ?_
            have := hall (x.2 + 1) (by have := hR.1; omega) (by omega)
            rw [hR.2.2] at this; cases this
      exact key 0 d (by omega) fun e h1 h2 => by obtain rfl : e = d := by omega
                                                 exact hd
  · have h1 := hr x hx
    have h2 := brok_bd hE (h1.2.1 x.1 (Int.le_refl _) h1.1)
    have h3 := brok_bd hE (h1.2.1 x.2 h1.1 (Int.le_refl _))
    exact ⟨h2.1, h1.1, h3.2⟩
  · have : out.length = l.length := by rw [← ho, List.length_map]
    rw [this]; exact hl.2.2
end Go.Proofs.YtcmdekhhclgdcaaDoor
