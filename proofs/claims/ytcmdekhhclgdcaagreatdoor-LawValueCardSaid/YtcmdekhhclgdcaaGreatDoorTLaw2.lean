/- terms: the plain laws of the end of a term. -/
import Derived.Test.YtcmdekhhclgdcaaGreatDoorEndB
import Derived.Test.YtcmdekhhclgdcaaGreatDoorGenA
namespace Go.Proofs.YtcmdekhhclgdcaaGreatDoor
set_option linter.unusedSimpArgs false
set_option linter.unusedVariables false
theorem nextF_ok {p : Int → Bool} : ∀ (f : Nat) (d r : Int), nextF p f d = (r, 0) → d ≤ r ∧ r ≤ 131072 ∧ p r = true ∧ ∀ x, d ≤ x → x < r → p x = false
  | 0, d, r, h => by unfold nextF at h; simp at h
  | f + 1, d, r, h => by
    unfold nextF at h
    split at h
    · simp at h
    · rename_i h1
      split at h
      · rename_i h2
        simp at h; subst h
        exact ⟨Int.le_refl _, by omega, h2, fun x _ _ => by omega⟩
      · rename_i h2
        obtain ⟨q1, q2, q3, q4⟩ := nextF_ok f (d + 1) r h
        refine ⟨by omega, q2, q3, fun x hx hy => ?_⟩
        by_cases hd : x = d
        · subst hd; simpa using h2
        · exact q4 x (by omega) hy
theorem nextF_err {p : Int → Bool} : ∀ (f : Nat) (d : Int), (nextF p f d).2 = 0 ∨ (nextF p f d).2 = 4 ∨ (nextF p f d).2 = 5
  | 0, d => .inr (.inl rfl)
  | f + 1, d => by
    unfold nextF
    split
    · exact .inr (.inr rfl)
    · split
      · exact .inl rfl
      · exact nextF_err f (d + 1)
theorem nextF_mono {p q : Int → Bool} {f g : Nat} {d d' r r' : Int} (h : nextF p f d = (r, 0)) (h' : nextF q g d' = (r', 0)) (hd : d ≤ d') (hpq : ∀ x, q x = true → p x = true) : r ≤ r' := by
  obtain ⟨h1, h2, h3, h4⟩ := nextF_ok f d r h
  obtain ⟨k1, k2, k3, k4⟩ := nextF_ok g d' r' h'
  refine Classical.byContradiction fun hn => ?_
  have := h4 r' (by omega) (by omega)
  rw [hpq r' k3] at this; cases this
theorem many_split (p : Int → Bool) {a b c : Int} (h : a ≤ b + 1) (h' : b ≤ c) : many p a c = many p a b + many p (b + 1) c := by
  unfold many
  rw [show (c - a + 1).toNat = (b - a + 1).toNat + (c - (b + 1) + 1).toNat by omega, cnt_add, show a + (((b - a + 1).toNat : Nat) : Int) = b + 1 by omega]
theorem many_one (p : Int → Bool) (a : Int) : many p a a = if p a then 1 else 0 := by
  unfold many
  rw [show (a - a + 1).toNat = 0 + 1 by omega, cnt, cnt]
  simp
theorem many_empty (p : Int → Bool) {a b : Int} (h : b < a) : many p a b = 0 := by
  unfold many
  rw [show (b - a + 1).toNat = 0 by omega]; rfl
/-- the unbroken days up to x, from day d on -/
def unb (p : Int → Bool) (d x : Int) : Int := x - many p (d + 1) x
theorem unb_mono (p : Int → Bool) {d x y : Int} (h : d ≤ x) (h' : x ≤ y) : unb p d x ≤ unb p d y := by
  unfold unb
  rw [many_split p (a := d + 1) (b := x) (c := y) (by omega) h']
  have := many_le p (x + 1) y
  omega
theorem unb_last {p : Int → Bool} {d x : Int} (h : d < x) (hp : p x = false) : unb p d (x - 1) = unb p d x - 1 := by
  unfold unb
  rw [many_split p (a := d + 1) (b := x - 1) (c := x) (by omega) (by omega), show x - 1 + 1 = x by omega, many_one, hp]
  simp; omega
theorem cnt_zero {p : Int → Bool} {a : Int} : ∀ {n : Nat}, cnt p a n = 0 → ∀ d, a ≤ d → d < a + n → p d = false
  | 0, _, d, h1, h2 => by omega
  | n + 1, h, d, h1, h2 => by
    rw [cnt] at h
    have hb := cnt_le p a n
    have h3 : cnt p a n = 0 ∧ p (a + n) = false := by
      cases hp : p (a + n) <;> simp [hp] at h ⊢ <;> omega
    by_cases e : d = a + n
    · subst e; exact h3.2
    · exact cnt_zero h3.1 d h1 (by omega)
theorem many_zero {p : Int → Bool} {a b d : Int} (h : many p a b = 0) (h1 : a ≤ d) (h2 : d ≤ b) : p d = false :=
  cnt_zero h d h1 (by omega)
theorem endF_law {p : Int → Bool} (d e0 : Int) (h0 : d ≤ e0) : ∀ (f : Nat) (a e : Int), d + 1 ≤ a → a ≤ e + 1 → 131073 - e ≤ f → e = e0 + many p (d + 1) (a - 1) → (e = d ∨ a ≤ e ) →
    endF p f a e ≤ 131072 → e ≤ endF p f a e ∧ unb p d (endF p f a e) = e0 ∧ (endF p f a e = d ∨ p (endF p f a e) = false)
  | 0, a, e, h1, h2, h3, h4, h5, h6 => by
    have : e ≤ 131072 := h6
    omega
  | f + 1, a, e, h1, h2, h3, h4, h5, h6 => by
    by_cases hk : many p a e = 0 ∨ 131072 < e
    · rw [endF_stop hk] at h6 ⊢
      have hk : many p a e = 0 := by omega
      refine ⟨Int.le_refl _, ?_, ?_⟩
      · unfold unb
        rw [many_split p (a := d + 1) (b := a - 1) (c := e) (by omega) (by omega), show a - 1 + 1 = a by omega, hk]
        omega
      · rcases h5 with h5 | h5
        · exact .inl h5
        · exact .inr (many_zero hk h5 (Int.le_refl _))
    · rw [endF_go hk] at h6 ⊢
      have hm := many_le p a e
      have h7 : 0 < many p a e := by omega
      obtain ⟨q1, q2, q3⟩ := endF_law d e0 h0 f (e + 1) (e + many p a e) (by omega) (by omega) (by omega) (by
        have := many_split p (a := d + 1) (b := a - 1) (c := e) (by omega) (by omega)
        rw [show a - 1 + 1 = a by omega] at this
        rw [show e + 1 - 1 = e by omega]
        omega) (.inr (by omega)) h6
      exact ⟨by omega, q2, q3⟩
/-- the end of a term without closures -/
def endD (p : Int → Bool) (d e0 : Int) : Int := endF p 131074 (d + 1) e0
theorem endD_law {p : Int → Bool} {d e0 : Int} (hd : 0 ≤ d) (h0 : d ≤ e0) (h : endD p d e0 ≤ 131072) : e0 ≤ endD p d e0 ∧ unb p d (endD p d e0) = e0 ∧ (endD p d e0 = d ∨ p (endD p d e0) = false) :=
  endF_law d e0 h0 131074 (d + 1) e0 (by omega) (by omega) (by omega) (by rw [show d + 1 - 1 = d by omega, many_empty p (by omega)]; omega) (by omega) h
theorem unb_le {p q : Int → Bool} (h : ∀ x, p x = true → q x = true) (d x : Int) : unb q d x ≤ unb p d x := by
  have hc : ∀ (a : Int) (n : Nat), cnt p a n ≤ cnt q a n := by
    intro a n
    induction n with
    | zero => exact Int.le_refl _
    | succ n ih =>
      rw [cnt, cnt]
      cases hp : p (a + n) with
      | true => rw [h _ hp]; simpa using ih
      | false => simp; split <;> omega
  unfold unb many
  have := hc (d + 1) (x - (d + 1) + 1).toNat
  omega
theorem endD_mono {p q : Int → Bool} {d e0 e1 : Int} (hd : 0 ≤ d) (h0 : d ≤ e0) (h1 : e0 ≤ e1) (hpq : ∀ x, p x = true → q x = true) (hp : endD p d e0 ≤ 131072) (hq : endD q d e1 ≤ 131072) : endD p d e0 ≤ endD q d e1 := by
  obtain ⟨p1, p2, p3⟩ := endD_law hd h0 hp
  obtain ⟨q1, q2, q3⟩ := endD_law hd (by omega) hq
  refine Classical.byContradiction fun hn => ?_
  have p4 : p (endD p d e0) = false := by
    rcases p3 with p3 | p3
    · omega
    · exact p3
  have h3 := unb_last (d := d) (by omega) p4
  have h4 := unb_le hpq d (endD q d e1)
  have h5 := unb_mono p (d := d) (x := endD q d e1) (y := endD p d e0 - 1) (by omega) (by omega)
  omega
theorem endD_none {p : Int → Bool} {d e0 : Int} (h : ∀ x, p x = false) : endD p d e0 = e0 := by
  have hz : ∀ (a : Int) (n : Nat), cnt p a n = 0 := by
    intro a n
    induction n with
    | zero => rfl
    | succ n ih => rw [cnt, ih, h]; rfl
  unfold endD
  show endF p (131073 + 1) (d + 1) e0 = e0
  exact endF_stop (.inl (hz _ _))
theorem lenM_31 (y m : Int) : lenM y m ≤ 31 := by unfold lenM; split <;> (try split) <;> omega
theorem ms_le : ∀ (n : Nat) (M : Int), ms (M + n) ≤ ms M + 31 * n
  | 0, M => by simp
  | n + 1, M => by
    have h := ms_le n M
    have e := ms_succ (M + n)
    have := lenM_31 ((M + n) / 12) ((M + n) % 12 + 1)
    rw [show M + ((n + 1 : Nat) : Int) = M + n + 1 by omega]
    omega
theorem addD_le {d n : Int} (h0 : 0 ≤ d) (hn : 0 ≤ n) : addD (dateV d) n ≤ d + 31 * n + 31 := by
  have h1 := dateV_is d h0
  have e := h1.toMk
  rw [addD_mkD]
  generalize 12 * (dateV d).1 + (dateV d).2.1 - 1 = M at *
  generalize (dateV d).2.2 = k at *
  have h2 := ms_le n.toNat M
  rw [show ((n.toNat : Nat) : Int) = n by omega] at h2
  unfold mkD at e ⊢
  have := h1.k0
  have := lenM_31 ((M + n) / 12) ((M + n) % 12 + 1)
  have := lenM_28 (M / 12) (M % 12 + 1)
  omega
theorem addV_fine {d n : Int} (h0 : 0 ≤ d) (hn : 0 ≤ n) (hn' : n ≤ 12000) (h : d + 31 * n + 31 ≤ 131072) : addV d n = (addD (dateV d) n, 0) := by
  have := addD_le h0 hn
  unfold addV
  rw [if_neg (by omega), if_neg (by omega), if_pos (by omega)]
theorem tchk_cases (file : Int) (xs : List Ac) (h : 0 ≤ file ∧ file ≤ 4095) : tchk file xs = 0 ∨ tchk file xs = 5 := by
  unfold tchk
  rw [if_neg (by omega)]
  split
  · exact .inr rfl
  · exact .inl rfl
theorem checkE_fine {c : Cal} {office d : Int} (hc : calE c = 0) (ho : 0 ≤ office ∧ office ≤ 11) (hd : 0 ≤ d ∧ d ≤ 131072) : checkE c office d = 0 := by
  unfold checkE
  rw [hc]
  simp only [ne_eq, not_true, if_false]
  rw [if_neg (by simpa using ho), if_neg (by simpa using hd)]
theorem endE_fine {c : Cal} {xs : List Ac} {office file d n e0 : Int} (hc : calE c = 0) (ho : 0 ≤ office ∧ office ≤ 11) (ha : addV d n = (e0, 0)) :
    endE c xs office file d n = if tchk file xs ≠ 0 then (0, tchk file xs) else if 131072 < endD (brokB file xs) d e0 then (0, 5) else nextE c xs office (endD (brokB file xs) d e0) := by
  unfold endE
  rw [checkE_fine hc ho (by omega), ha]
  simp only [ne_eq, not_true, if_false]
  rfl
theorem nextE_fine {c : Cal} {xs : List Ac} {office d : Int} (hc : calE c = 0) (ho : 0 ≤ office ∧ office ≤ 11) (hd : 0 ≤ d ∧ d ≤ 131072) : nextE c xs office d = nextF (opB c xs office) 4096 d := by
  unfold nextE
  rw [if_pos (checkE_fine hc ho hd)]
/-- the errors of the end of a term -/
theorem endE_err {c : Cal} {xs : List Ac} {office file d n e0 : Int} (hc : calE c = 0) (ho : 0 ≤ office ∧ office ≤ 11) (hf : 0 ≤ file ∧ file ≤ 4095) (ha : addV d n = (e0, 0)) :
    (endE c xs office file d n).2 = 0 ∨ (endE c xs office file d n).2 = 4 ∨ (endE c xs office file d n).2 = 5 := by
  have ⟨d0, _, _, d1, d2, _⟩ := addV_ok (d := d) (n := n) (by rw [ha])
  rw [ha] at d1 d2
  rw [endE_fine hc ho ha]
  split
  · rcases tchk_cases file xs hf with h | h <;> rw [h] <;> simp
  · split
    · exact .inr (.inr rfl)
    · rename_i h
      unfold nextE
      split
      · exact nextF_err _ _
      · rename_i h2
        refine absurd (checkE_fine hc ho ⟨?_, by omega⟩) h2
        exact (endF_bd 131074 (d + 1) e0 (by omega) (by omega) (by omega)).1
/-- a term that has an end -/
theorem endE_ok {c : Cal} {xs : List Ac} {office file d n e0 r : Int} (hc : calE c = 0) (ho : 0 ≤ office ∧ office ≤ 11) (ha : addV d n = (e0, 0)) (h : endE c xs office file d n = (r, 0)) :
    tchk file xs = 0 ∧ endD (brokB file xs) d e0 ≤ 131072 ∧ e0 ≤ endD (brokB file xs) d e0 ∧ nextF (opB c xs office) 4096 (endD (brokB file xs) d e0) = (r, 0) := by
  have ⟨d0, _, _, d1, d2, _⟩ := addV_ok (d := d) (n := n) (by rw [ha])
  rw [ha] at d1 d2
  dsimp only at d1 d2
  rw [endE_fine hc ho ha] at h
  split at h
  · rename_i h1
    exact absurd (congrArg Prod.snd h) h1
  · rename_i h1
    split at h
    · simp at h
    · rename_i h2
      have h3 : endD (brokB file xs) d e0 ≤ 131072 := by omega
      obtain ⟨q1, -, -⟩ := endD_law d0 d1 h3
      rw [nextE_fine hc ho ⟨by omega, h3⟩] at h
      exact ⟨by simpa using h1, h3, q1, h⟩
theorem openLaw {c : Cal} {xs : List Ac} {d n e0 r : Int} (hc : calE c = 0) (ha : addV d n = (e0, 0)) (hf : ∀ x ∈ xs, FileOk x) (h : endE c xs 1 1 d n = (r, 0)) :
    openE c xs 1 r = (true, 0) ∧ e0 ≤ r ∧ endE c xs 1 7 d n = nextE c xs 1 e0 := by
  have ⟨d0, _, _, d1, d2, _⟩ := addV_ok (d := d) (n := n) (by rw [ha])
  rw [ha] at d1 d2
  dsimp only at d1 d2
  obtain ⟨h1, h2, h3, h4⟩ := endE_ok hc (by omega) ha h
  obtain ⟨q1, q2, q3, -⟩ := nextF_ok _ _ _ h4
  refine ⟨?_, by omega, ?_⟩
  · unfold openE
    rw [if_pos (checkE_fine hc (by omega) ⟨by omega, q2⟩), q3]
  · have hb : ∀ x, brokB 7 xs x = false := by
      intro x
      unfold brokB
      rw [List.any_eq_false]
      intro a ha'
      have := hf a ha'
      unfold FileOk at this
      unfold brkB
      have h7 : (a.file == 7) = false := by simp; omega
      rw [h7]; simp
    have ht : tchk 7 xs = 0 := by
      unfold tchk
      rw [if_neg (by omega), if_neg]
      rw [List.any_eq_true]
      rintro ⟨a, ha', hx⟩
      have := hf a ha'
      unfold FileOk at this
      unfold badB at hx
      have h7 : (a.file == 7) = false := by simp; omega
      rw [h7] at hx
      simp at hx
    rw [endE_fine hc (by omega) ha, ht, endD_none hb]
    simp only [ne_eq, not_true, if_false]
    rw [if_neg (by omega)]
theorem keptLaw {r d day : Int} (h : 0 ≤ day ∧ day ≤ 131072) : keptE (r, 0) d day = (decide (d ≤ day) && decide (day ≤ r), 0) := by
  unfold keptE
  rw [if_neg (by simp), if_neg (by omega)]
theorem endE_mono {c : Cal} {xs ys : List Ac} {office file file' d n n' e0 e1 r r' : Int} (hc : calE c = 0) (ho : 0 ≤ office ∧ office ≤ 11) (ha : addV d n = (e0, 0)) (hb : addV d n' = (e1, 0)) (he : e0 ≤ e1)
    (hbr : ∀ x, brokB file xs x = true → brokB file' ys x = true) (hop : ∀ x, opB c ys office x = true → opB c xs office x = true)
    (h : endE c xs office file d n = (r, 0)) (h' : endE c ys office file' d n' = (r', 0)) : r ≤ r' := by
  have ⟨d0, _, _, d1, d2, _⟩ := addV_ok (d := d) (n := n) (by rw [ha])
  rw [ha] at d1 d2
  obtain ⟨-, p2, p3, p4⟩ := endE_ok hc ho ha h
  obtain ⟨-, q2, q3, q4⟩ := endE_ok hc ho hb h'
  exact nextF_mono p4 q4 (endD_mono d0 d1 he hbr p2 q2) hop
/-- a later beginning, without interruptions -/
theorem endE_late {c : Cal} {xs : List Ac} {office file d d' n e0 e1 r r' : Int} (hc : calE c = 0) (ho : 0 ≤ office ∧ office ≤ 11) (ha : addV d n = (e0, 0)) (hb : addV d' n = (e1, 0)) (he : e0 ≤ e1)
    (hbr : ∀ x, brokB file xs x = false) (h : endE c xs office file d n = (r, 0)) (h' : endE c xs office file d' n = (r', 0)) : r ≤ r' := by
  obtain ⟨-, -, -, p4⟩ := endE_ok hc ho ha h
  obtain ⟨-, -, -, q4⟩ := endE_ok hc ho hb h'
  rw [endD_none hbr] at p4 q4
  exact nextF_mono p4 q4 he fun x hx => hx
theorem addV_add {d n : Int} (h0 : 0 ≤ d) (hn : 0 ≤ n) (hn' : n ≤ 12000) (h : d + 31 * n + 31 ≤ 131072) : ∃ e, addV d n = (e, 0) ∧ e = addD (dateV d) n := ⟨_, addV_fine h0 hn hn' h, rfl⟩
/-- acts turned: other interruptions of file 1, another order -/
def turnA (a : Ac) : Ac := if a.kind = 9 ∧ a.file = 1 then { a with file := 5 } else a
theorem any_turn {p : Ac → Bool} (hp : ∀ a, p (turnA a) = p a) (xs : List Ac) : ((xs.map turnA).reverse).any p = xs.any p := by
  rw [List.any_reverse, List.any_map]
  congr 1
  funext a; exact hp a
theorem endE_turn {c : Cal} {xs : List Ac} {office d n : Int} : endE c ((xs.map turnA).reverse) office 0 d n = endE c xs office 0 d n := by
  have h1 : tchk 0 ((xs.map turnA).reverse) = tchk 0 xs := by
    unfold tchk
    rw [any_turn]
    intro a
    unfold turnA
    split
    · rename_i h
      unfold badB
      simp [h.2]
    · rfl
  have h2 : brokB 0 ((xs.map turnA).reverse) = brokB 0 xs := by
    funext x
    unfold brokB
    rw [any_turn]
    intro a
    unfold turnA
    split
    · rename_i h
      unfold brkB
      simp [h.2]
    · rfl
  have h3 : opB c ((xs.map turnA).reverse) office = opB c xs office := by
    funext x
    unfold opB
    rw [any_turn]
    intro a
    unfold turnA
    split
    · unfold shutB; rfl
    · rfl
  unfold endE nextE
  rw [h1, h2, h3]
theorem brokB_none {file : Int} {xs : List Ac} (h : ∀ x ∈ xs, FileOk x) (hf : 2 ≤ file) (x : Int) : brokB file xs x = false := by
  unfold brokB
  rw [List.any_eq_false]
  intro a ha
  have := h a ha
  unfold FileOk at this
  unfold brkB
  have h7 : (a.file == file) = false := by simp; omega
  rw [h7]; simp
theorem brokB_app {file x : Int} {xs ys : List Ac} (h : brokB file xs x = true) : brokB file (xs ++ ys) x = true := by
  unfold brokB at *; rw [List.any_append, h]; rfl
theorem opB_app {c : Cal} {office x : Int} {xs ys : List Ac} (h : opB c (xs ++ ys) office x = true) : opB c xs office x = true := by
  unfold opB at *
  rw [List.any_append] at h
  simp at h ⊢
  exact ⟨h.1, h.2.1, h.2.2.1⟩
/-- all of the conditions of TermLater -/
theorem laterLaw {c : Cal} {few more : List Ac} {d n a b : Int} (hc : calE c = 0) (hf : ∀ x ∈ few, FileOk x) (d0 : 0 ≤ d) (d1 : d < 120000) (n0 : 0 ≤ n) (n1 : n < 30) (a0 : 0 ≤ a) (a1 : a < 20) (b0 : 0 ≤ b) (b1 : b < 40) :
    endE c (((few ++ more).map turnA).reverse) 0 0 d n = endE c (few ++ more) 0 0 d n ∧
    ((endE c few 0 0 d n).2 = 0 → (endE c (few ++ more) 0 0 d n).2 = 0 → (endE c few 0 0 d n).1 ≤ (endE c (few ++ more) 0 0 d n).1) ∧
    ((endE c few 0 0 d n).2 = 0 → (endE c few 0 0 d (n + a)).2 = 0 → (endE c few 0 0 d n).1 ≤ (endE c few 0 0 d (n + a)).1) ∧
    ((endE c few 0 9 (d + b) n).2 = 0 → (endE c few 0 9 d n).2 = 0 → (endE c few 0 9 d n).1 ≤ (endE c few 0 9 (d + b) n).1) := by
  obtain ⟨e0, h0, k0⟩ := addV_add (d := d) (n := n) d0 n0 (by omega) (by omega)
  obtain ⟨e1, h1, k1⟩ := addV_add (d := d) (n := n + a) d0 (by omega) (by omega) (by omega)
  obtain ⟨e2, h2, k2⟩ := addV_add (d := d + b) (n := n) (by omega) n0 (by omega) (by omega)
  refine ⟨endE_turn, fun p q => ?_, fun p q => ?_, fun p q => ?_⟩
  · exact endE_mono hc (by omega) h0 h0 (Int.le_refl _) (fun x => brokB_app) (fun x => opB_app) (Prod.ext rfl p) (Prod.ext rfl q)
  · exact endE_mono hc (by omega) h0 h1 (by rw [k0, k1]; exact addD_mono d0 (Int.le_refl _) (by omega)) (fun x h => h) (fun x h => h) (Prod.ext rfl p) (Prod.ext rfl q)
  · exact endE_late hc (by omega) h0 h2 (by rw [k0, k2]; exact addD_mono d0 (by omega) (Int.le_refl _)) (brokB_none hf (by omega)) (Prod.ext rfl q) (Prod.ext rfl p)
/-- TermDays -/
theorem daysLaw {xs : List Ac} {d n : Int} (hk : ∀ x ∈ xs, x.kind = 9) (d0 : 0 ≤ d) (d1 : d < 120000) (n0 : 0 ≤ n) (n1 : n < 30) :
    ∃ e0, addV d n = (e0, 0) ∧ ((endE c0 xs 3 0 d n).2 = 5 ∨
      ∃ r, endE c0 xs 3 0 d n = (r, 0) ∧ d ≤ r ∧ r ≤ 131072 ∧ r - d - many (brokB 0 xs) (d + 1) r = e0 - d ∧ (d < r → brokB 0 xs r = false)) := by
  obtain ⟨e0, h0, -⟩ := addV_add (d := d) (n := n) d0 n0 (by omega) (by omega)
  refine ⟨e0, h0, ?_⟩
  have ⟨_, _, _, d2, d3, _⟩ := addV_ok (d := d) (n := n) (by rw [h0])
  rw [h0] at d2 d3
  dsimp only at d2 d3
  rw [endE_fine calE_0 (by omega) h0]
  split
  · rename_i h
    rcases tchk_cases 0 xs (by omega) with h2 | h2
    · exact absurd h2 h
    · exact .inl h2
  · split
    · exact .inl rfl
    · rename_i h
      obtain ⟨q1, q2, q3⟩ := endD_law (p := brokB 0 xs) d0 d2 (by omega)
      refine .inr ⟨endD (brokB 0 xs) d e0, ?_, by omega, by omega, ?_, ?_⟩
      · rw [nextE_fine calE_0 (by omega) (by omega)]
        show nextF _ (4095 + 1) _ = _
        unfold nextF
        rw [if_neg h, if_pos]
        unfold opB
        have : xs.any (shutB 3 (endD (brokB 0 xs) d e0)) = false := by
          rw [List.any_eq_false]
          intro x hx
          have := hk x hx
          unfold shutB
          simp [this]
        rw [this]
        simp
      · unfold unb at q2; omega
      · intro hlt
        rcases q3 with q3 | q3
        · omega
        · exact q3
end Go.Proofs.YtcmdekhhclgdcaaGreatDoor
