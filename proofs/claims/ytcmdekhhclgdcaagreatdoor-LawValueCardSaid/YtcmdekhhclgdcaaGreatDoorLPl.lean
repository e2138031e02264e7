/- package law: what rulings lead to, in plain words. -/
import Derived.Test.YtcmdekhhclgdcaaGreatDoorLSrt
namespace Go.Proofs.YtcmdekhhclgdcaaGreatDoor
open Go.RowKit Go.Shelf
set_option linter.unusedSimpArgs false
set_option linter.unusedVariables false
/-- the rulings about a parameter of an office: of each day the one that counts, in order -/
structure RulOk (o : Int) (p : Nat) (xs l : List Ac) : Prop where
  asc : l.Pairwise (fun a b => a.day < b.day)
  top : ∀ a ∈ l, a ∈ xs ∧ rulB o p a = true ∧ ∀ b ∈ xs, rulB o p b = true → b.day = a.day → ¬ rlt b a
  all : ∀ b ∈ xs, rulB o p b = true → ∃ a ∈ l, a.day = b.day
theorem ddP_mem {x : Ac} : ∀ {l : List Ac} {d : Option Int}, x ∈ ddP d l → x ∈ l
  | [], _, h => by cases h
  | y :: r, d, h => by
    rw [ddP] at h
    split at h
    · exact List.mem_cons_of_mem _ (ddP_mem h)
    · rcases List.mem_cons.1 h with rfl | h
      · exact List.mem_cons_self
      · exact List.mem_cons_of_mem _ (ddP_mem h)
theorem ddP_spec : ∀ (l : List Ac) (d : Option Int), l.Pairwise (fun x y => ¬ rlt y x) → (∀ e, d = some e → ∀ x ∈ l, e ≤ x.day) →
    (ddP d l).Pairwise (fun a b => a.day < b.day) ∧ (∀ a ∈ ddP d l, (∀ e, d = some e → e < a.day) ∧ ∀ b ∈ l, b.day = a.day → ¬ rlt b a) ∧ (∀ b ∈ l, d = some b.day ∨ ∃ a ∈ ddP d l, a.day = b.day)
  | [], d, _, _ => ⟨List.Pairwise.nil, by simp [ddP], by simp⟩
  | x :: r, d, hs, hd => by
    obtain ⟨h1, h2⟩ := List.pairwise_cons.1 hs
    have hle : ∀ e, some x.day = some e → ∀ y ∈ r, e ≤ y.day := by
      intro e he y hy
      cases he
      have := h1 y hy
      unfold rlt at this; omega
    obtain ⟨i1, i2, i3⟩ := ddP_spec r (some x.day) h2 hle
    rw [ddP]
    split
    · rename_i hq
      refine ⟨i1, fun a ha => ⟨fun e he => ?_, fun b hb hbd => ?_⟩, fun b hb => ?_⟩
      · rw [hq] at he; exact (i2 a ha).1 e he
      · rcases List.mem_cons.1 hb with rfl | hb
        · have := (i2 a ha).1 _ rfl; omega
        · exact (i2 a ha).2 b hb hbd
      · rcases List.mem_cons.1 hb with rfl | hb
        · exact .inl hq
        · rw [hq]; exact i3 b hb
    · rename_i hq
      have hx : ∀ e, d = some e → e < x.day := fun e he => by
        have := hd e he x List.mem_cons_self
        have : e ≠ x.day := fun h => hq (by rw [he, h])
        omega
      refine ⟨List.pairwise_cons.2 ⟨fun a ha => (i2 a ha).1 _ rfl, i1⟩, fun a ha => ?_, fun b hb => .inr ?_⟩
      · rcases List.mem_cons.1 ha with rfl | ha
        · refine ⟨hx, fun b hb hbd => ?_⟩
          rcases List.mem_cons.1 hb with rfl | hb
          · unfold rlt; omega
          · exact h1 b hb
        · refine ⟨fun e he => ?_, fun b hb hbd => ?_⟩
          · have := hx e he; have := (i2 a ha).1 _ rfl; omega
          · rcases List.mem_cons.1 hb with rfl | hb
            · have := (i2 a ha).1 _ rfl; omega
            · exact (i2 a ha).2 b hb hbd
      · rcases List.mem_cons.1 hb with rfl | hb
        · exact ⟨_, List.mem_cons_self, rfl⟩
        · rcases i3 b hb with h | ⟨a, ha, hd⟩
          · exact ⟨x, List.mem_cons_self, by injection h⟩
          · exact ⟨a, List.mem_cons_of_mem _ ha, hd⟩
theorem rulOk_of {o : Int} {p : Nat} {xs zs : List Ac} (hp : zs.Perm (xs.filter (rulB o p))) (hs : zs.Pairwise (fun x y => ¬ rlt y x)) : RulOk o p xs (dd zs) := by
  obtain ⟨i1, i2, i3⟩ := ddP_spec zs none hs (by intro e he; cases he)
  have hm : ∀ b, b ∈ zs ↔ b ∈ xs ∧ rulB o p b = true := fun b => by rw [hp.mem_iff, List.mem_filter]
  refine ⟨i1, fun a ha => ?_, fun b hb hr => ?_⟩
  · obtain ⟨h1, h2⟩ := (hm a).1 (ddP_mem ha)
    exact ⟨h1, h2, fun b hb hr hd => (i2 a ha).2 b ((hm b).2 ⟨hb, hr⟩) hd⟩
  · rcases i3 b ((hm b).2 ⟨hb, hr⟩) with h | h
    · cases h
    · exact h
/-- the value that rulings in order lead to on a day -/
def valF : Int → List Ac → Int → Int
  | b, [], _ => b
  | b, a :: l, d => valF (if a.day ≤ d then a.amount else b) l d
/-- a ruling counts rather than another one -/
def lat (a b : Ac) : Prop := b.day < a.day ∨ a.day = b.day ∧ (b.known < a.known ∨ a.known = b.known ∧ b.amount < a.amount)
/-- the value on a day, told by the acts alone -/
def ValP (o : Int) (p : Nat) (xs : List Ac) (base d v : Int) : Prop :=
  ((∀ b ∈ xs, rulB o p b = true → ¬ b.day ≤ d) ∧ v = base) ∨ ∃ a ∈ xs, rulB o p a = true ∧ a.day ≤ d ∧ v = a.amount ∧ ∀ b ∈ xs, rulB o p b = true → b.day ≤ d → ¬ lat b a
theorem ValP.uniq {o : Int} {p : Nat} {xs ys : List Ac} {base d v v' : Int} (h : ValP o p xs base d v) (h' : ValP o p ys base d v') (hm : ∀ b, rulB o p b = true → b.day ≤ d → (b ∈ xs ↔ b ∈ ys)) : v = v' := by
  rcases h with ⟨h1, h2⟩ | ⟨a, ha, hr, hd, hv, ht⟩
  · rcases h' with ⟨h3, h4⟩ | ⟨a, ha, hr, hd, hv, ht⟩
    · rw [h2, h4]
    · exact absurd hd (h1 a ((hm a hr hd).2 ha) hr)
  · rcases h' with ⟨h3, h4⟩ | ⟨a', ha', hr', hd', hv', ht'⟩
    · exact absurd hd (h3 a ((hm a hr hd).1 ha) hr)
    · have e1 := ht a' ((hm a' hr' hd').2 ha') hr' hd'
      have e2 := ht' a ((hm a hr hd).1 ha) hr hd
      unfold lat at e1 e2
      rw [hv, hv']; omega
theorem valF_cases : ∀ (l : List Ac) (b d : Int), l.Pairwise (fun a b => a.day < b.day) → ((∀ a ∈ l, d < a.day) ∧ valF b l d = b) ∨ ∃ a ∈ l, a.day ≤ d ∧ valF b l d = a.amount ∧ ∀ c ∈ l, c.day ≤ d → c.day ≤ a.day
  | [], b, d, _ => .inl ⟨by simp, rfl⟩
  | x :: r, b, d, hs => by
    obtain ⟨h1, h2⟩ := List.pairwise_cons.1 hs
    rw [valF]
    by_cases hx : x.day ≤ d
    · rw [if_pos hx]
      rcases valF_cases r x.amount d h2 with ⟨i1, i2⟩ | ⟨a, ha, hd, hv, hc⟩
      · refine .inr ⟨x, List.mem_cons_self, hx, i2, fun c hc hcd => ?_⟩
        rcases List.mem_cons.1 hc with rfl | hc
        · exact Int.le_refl _
        · have := i1 c hc; omega
      · refine .inr ⟨a, List.mem_cons_of_mem _ ha, hd, hv, fun c hc' hcd => ?_⟩
        rcases List.mem_cons.1 hc' with rfl | hc'
        · have := h1 a ha; omega
        · exact hc c hc' hcd
    · rw [if_neg hx]
      have hr : ∀ a ∈ r, d < a.day := fun a ha => by have := h1 a ha; omega
      rcases valF_cases r b d h2 with ⟨i1, i2⟩ | ⟨a, ha, hd, hv, hc⟩
      · refine .inl ⟨fun a ha => ?_, i2⟩
        rcases List.mem_cons.1 ha with rfl | ha
        · omega
        · exact i1 a ha
      · have := hr a ha; omega
theorem valF_before : ∀ {l : List Ac} {b d : Int}, (∀ a ∈ l, d < a.day) → valF b l d = b
  | [], b, d, _ => rfl
  | x :: r, b, d, h => by
    rw [valF, if_neg (by have := h x List.mem_cons_self; omega)]
    exact valF_before fun a ha => h a (List.mem_cons_of_mem _ ha)
theorem valF_P {o : Int} {p : Nat} {xs l : List Ac} (h : RulOk o p xs l) (base d : Int) : ValP o p xs base d (valF base l d) := by
  rcases valF_cases l base d h.asc with ⟨h1, h2⟩ | ⟨a, ha, hd, hv, hc⟩
  · refine .inl ⟨fun b hb hr hbd => ?_, h2⟩
    obtain ⟨a, ha, e⟩ := h.all b hb hr
    have := h1 a ha; omega
  · obtain ⟨t1, t2, t3⟩ := h.top a ha
    refine .inr ⟨a, t1, t2, hd, hv, fun b hb hr hbd => ?_⟩
    obtain ⟨a', ha', e⟩ := h.all b hb hr
    have := hc a' ha' (by omega)
    by_cases e2 : b.day = a.day
    · have := t3 b hb hr e2
      unfold rlt at this; unfold lat; omega
    · unfold lat; omega
def latB (a b : Ac) : Bool := decide (b.day < a.day) || (a.day == b.day && (decide (b.known < a.known) || (a.known == b.known && decide (b.amount < a.amount))))
theorem latB_iff {a b : Ac} : latB a b = true ↔ lat a b := by unfold latB lat; simp
/-- the best ruling so far -/
def nbF (o : Int) (p : Nat) (d : Int) (b : Option Ac) (x : Ac) : Option Ac :=
  if rulB o p x = true ∧ x.day ≤ d then (match b with | none => some x | some y => if latB x y = true then some x else some y) else b
def bestF (o : Int) (p : Nat) (d : Int) : Option Ac → List Ac → Option Ac
  | b, [] => b
  | b, x :: r => bestF o p d (nbF o p d b x) r
theorem bestF_snoc {o : Int} {p : Nat} {d : Int} : ∀ (b : Option Ac) (l : List Ac) (x : Ac), bestF o p d b (l ++ [x]) = nbF o p d (bestF o p d b l) x
  | b, [], x => rfl
  | b, y :: r, x => by rw [List.cons_append, bestF, bestF, bestF_snoc _ r x]
def BestP (o : Int) (p : Nat) (d : Int) (S : List Ac) (b : Option Ac) : Prop :=
  (b = none ∧ ∀ x ∈ S, rulB o p x = true → ¬ x.day ≤ d) ∨ ∃ a, b = some a ∧ a ∈ S ∧ rulB o p a = true ∧ a.day ≤ d ∧ ∀ c ∈ S, rulB o p c = true → c.day ≤ d → ¬ lat c a
theorem nbF_P {o : Int} {p : Nat} {d : Int} {S : List Ac} {b : Option Ac} (h : BestP o p d S b) (x : Ac) : BestP o p d (S ++ [x]) (nbF o p d b x) := by
  unfold nbF
  by_cases hx : rulB o p x = true ∧ x.day ≤ d
  · rw [if_pos hx]
    rcases h with ⟨rfl, h⟩ | ⟨a, rfl, h1, h2, h3, h4⟩
    · refine .inr ⟨x, rfl, by simp, hx.1, hx.2, fun c hc hr hd => ?_⟩
      rcases List.mem_append.1 hc with hc | hc
      · exact absurd hd (h c hc hr)
      · rw [List.mem_singleton.1 hc]; unfold lat; omega
    · by_cases hl : latB x a = true
      · refine .inr ⟨x, by simp [hl], by simp, hx.1, hx.2, fun c hc hr hd => ?_⟩
        rcases List.mem_append.1 hc with hc | hc
        · have := h4 c hc hr hd
          have hl2 := latB_iff.1 hl
          unfold lat at *; omega
        · rw [List.mem_singleton.1 hc]; unfold lat; omega
      · refine .inr ⟨a, by simp [hl], List.mem_append_left _ h1, h2, h3, fun c hc hr hd => ?_⟩
        rcases List.mem_append.1 hc with hc | hc
        · exact h4 c hc hr hd
        · rw [List.mem_singleton.1 hc]; exact fun h => hl (latB_iff.2 h)
  · rw [if_neg hx]
    rcases h with ⟨rfl, h⟩ | ⟨a, rfl, h1, h2, h3, h4⟩
    · refine .inl ⟨rfl, fun c hc hr hd => ?_⟩
      rcases List.mem_append.1 hc with hc | hc
      · exact h c hc hr hd
      · rw [List.mem_singleton.1 hc] at hr hd; exact hx ⟨hr, hd⟩
    · refine .inr ⟨a, rfl, List.mem_append_left _ h1, h2, h3, fun c hc hr hd => ?_⟩
      rcases List.mem_append.1 hc with hc | hc
      · exact h4 c hc hr hd
      · rw [List.mem_singleton.1 hc] at hr hd; exact absurd ⟨hr, hd⟩ hx
theorem bestF_P {o : Int} {p : Nat} {d : Int} : ∀ (xs S : List Ac) (b : Option Ac), BestP o p d S b → BestP o p d (S ++ xs) (bestF o p d b xs)
  | [], S, b, h => by rw [List.append_nil]; exact h
  | x :: r, S, b, h => by
    have := bestF_P r (S ++ [x]) _ (nbF_P h x)
    rw [bestF, show S ++ x :: r = S ++ [x] ++ r by simp]; exact this
/-- the value of a parameter on a day -/
def valR (o : Int) (p : Nat) (d : Int) (xs : List Ac) (base : Int) : Int := match bestF o p d none xs with | none => base | some a => a.amount
theorem valR_P (o : Int) (p : Nat) (d : Int) (xs : List Ac) (base : Int) : ValP o p xs base d (valR o p d xs base) := by
  have h := bestF_P (o := o) (p := p) (d := d) xs [] none (.inl ⟨rfl, by simp⟩)
  rw [List.nil_append] at h
  unfold valR
  rcases h with ⟨e, h⟩ | ⟨a, e, h1, h2, h3, h4⟩
  · rw [e]; exact .inl ⟨h, rfl⟩
  · rw [e]; exact .inr ⟨a, h1, h2, h3, rfl, h4⟩
theorem valR_eq {o : Int} {p : Nat} {d : Int} {xs ys : List Ac} {base v : Int} (h : ValP o p ys base d v) (hm : ∀ b, rulB o p b = true → b.day ≤ d → (b ∈ xs ↔ b ∈ ys)) : valR o p d xs base = v :=
  (valR_P o p d xs base).uniq h hm
theorem valF_valR {o : Int} {p : Nat} {xs l : List Ac} (h : RulOk o p xs l) (base d : Int) : valF base l d = valR o p d xs base :=
  ((valR_eq (xs := xs) (valF_P h base d)) fun _ _ _ => Iff.rfl).symm
/-- the value is in the range -/
theorem valR_in {o : Int} {p : Nat} {d : Int} {xs : List Ac} {base : Int} (hb : inR p base = true) : inR p (valR o p d xs base) = true := by
  rcases valR_P o p d xs base with ⟨-, e⟩ | ⟨a, -, hr, -, e, -⟩
  · rw [e]; exact hb
  · rw [e]; unfold rulB at hr; simp only [Bool.and_eq_true] at hr; exact hr.2.2.2.2
theorem rulB_day {o : Int} {p : Nat} {x : Ac} (h : rulB o p x = true) : 0 ≤ x.day ∧ x.day ≤ 131072 := by
  unfold rulB inB at h; simp only [Bool.and_eq_true, decide_eq_true_eq] at h; exact h.2.2.2.1
/-- the days on which the value changes -/
def chF : Int → List Ac → List Int
  | _, [] => []
  | last, a :: l => if a.amount = last then chF last l else a.day :: chF a.amount l
def nxtF (o : Int) (p : Nat) (d : Int) : Int → List Ac → Int
  | m, [] => m
  | m, x :: r => nxtF o p d (if rulB o p x = true ∧ d < x.day then min m x.day else m) r
theorem nxtF_snoc {o : Int} {p : Nat} {d : Int} : ∀ (m : Int) (l : List Ac) (x : Ac), nxtF o p d m (l ++ [x]) = if rulB o p x = true ∧ d < x.day then min (nxtF o p d m l) x.day else nxtF o p d m l
  | m, [], x => rfl
  | m, y :: r, x => by rw [List.cons_append, nxtF, nxtF, nxtF_snoc _ r x]
theorem nxtF_spec {o : Int} {p : Nat} {d : Int} : ∀ (xs : List Ac) (m : Int), nxtF o p d m xs ≤ m ∧ (∀ x ∈ xs, rulB o p x = true → d < x.day → nxtF o p d m xs ≤ x.day) ∧ (nxtF o p d m xs = m ∨ ∃ x ∈ xs, rulB o p x = true ∧ d < x.day ∧ nxtF o p d m xs = x.day)
  | [], m => ⟨Int.le_refl _, by simp, .inl rfl⟩
  | x :: r, m => by
    rw [nxtF]
    by_cases hx : rulB o p x = true ∧ d < x.day
    · rw [if_pos hx]
      obtain ⟨h1, h2, h3⟩ := nxtF_spec (o := o) (p := p) (d := d) r (min m x.day)
      have l1 := Int.min_le_left m x.day
      have l2 := Int.min_le_right m x.day
      have l3 : min m x.day = m ∨ min m x.day = x.day := by omega
      generalize min m x.day = q at *
      refine ⟨by omega, fun y hy hr hd => ?_, ?_⟩
      · rcases List.mem_cons.1 hy with rfl | hy
        · omega
        · exact h2 y hy hr hd
      · rcases h3 with h3 | ⟨y, hy, h3⟩
        · rcases l3 with l3 | l3
          · exact .inl (by omega)
          · exact .inr ⟨x, List.mem_cons_self, hx.1, hx.2, by omega⟩
        · exact .inr ⟨y, List.mem_cons_of_mem _ hy, h3⟩
    · rw [if_neg hx]
      obtain ⟨h1, h2, h3⟩ := nxtF_spec r m
      refine ⟨h1, fun y hy hr hd => ?_, ?_⟩
      · rcases List.mem_cons.1 hy with rfl | hy
        · exact absurd ⟨hr, hd⟩ hx
        · exact h2 y hy hr hd
      · rcases h3 with h3 | ⟨y, hy, h3⟩
        · exact .inl h3
        · exact .inr ⟨y, List.mem_cons_of_mem _ hy, h3⟩
def chE (o : Int) (p : Nat) (xs : List Ac) (base : Int) : Nat → Int → Int → List Int
  | 0, _, _ => []
  | f + 1, d, last => if nxtF o p d 200000 xs = 200000 then [] else if valR o p (nxtF o p d 200000 xs) xs base = last then chE o p xs base f (nxtF o p d 200000 xs) last else nxtF o p d 200000 xs :: chE o p xs base f (nxtF o p d 200000 xs) (valR o p (nxtF o p d 200000 xs) xs base)
theorem chE_eq {o : Int} {p : Nat} {xs l : List Ac} (h : RulOk o p xs l) (base : Int) : ∀ (suf pre : List Ac) (f : Nat) (d last : Int), l = pre ++ suf → (∀ a ∈ pre, a.day ≤ d) → (∀ a ∈ suf, d < a.day) → 131072 - d < f → chE o p xs base f d last = chF last suf
  | suf, pre, 0, d, last, hl, h1, h2, hf => by
    cases suf with
    | nil => rfl
    | cons a r =>
      have h3 := h2 a List.mem_cons_self
      obtain ⟨-, hr, -⟩ := h.top a (by rw [hl]; simp)
      have := rulB_day hr
      omega
  | [], pre, f + 1, d, last, hl, h1, h2, hf => by
    have hn : nxtF o p d 200000 xs = 200000 := by
      rcases (nxtF_spec (o := o) (p := p) (d := d) xs 200000).2.2 with e | ⟨x, hx, hr, hd, e⟩
      · exact e
      · obtain ⟨a, ha, hd2⟩ := h.all x hx hr
        rw [hl, List.append_nil] at ha
        have := h1 a ha; omega
    rw [chE, if_pos hn]; rfl
  | a :: r, pre, f + 1, d, last, hl, h1, h2, hf => by
    have ha : a ∈ l := by rw [hl]; simp
    obtain ⟨t1, t2, t3⟩ := h.top a ha
    have hda := h2 a List.mem_cons_self
    have hd0 := rulB_day t2
    have hasc := h.asc
    rw [hl] at hasc
    obtain ⟨-, hasc2, -⟩ := List.pairwise_append.1 hasc
    obtain ⟨hasc3, -⟩ := List.pairwise_cons.1 hasc2
    obtain ⟨n1, n2, n3⟩ := nxtF_spec (o := o) (p := p) (d := d) xs 200000
    have hn : nxtF o p d 200000 xs = a.day := by
      have hle := n2 a t1 t2 hda
      rcases n3 with e | ⟨x, hx, hr, hd, e⟩
      · omega
      · obtain ⟨c, hc, hd2⟩ := h.all x hx hr
        rw [hl] at hc
        rcases List.mem_append.1 hc with hc | hc
        · have := h1 c hc; omega
        · rcases List.mem_cons.1 hc with rfl | hc
          · omega
          · have := hasc3 c hc; omega
    have hv : valR o p a.day xs base = a.amount := valR_eq (ys := xs) (.inr ⟨a, t1, t2, Int.le_refl _, rfl, fun b hb hr hbd => by
      by_cases e : b.day = a.day
      · have := t3 b hb hr e
        unfold rlt at this; unfold lat; omega
      · unfold lat; omega⟩) fun _ _ _ => Iff.rfl
    have hpre : ∀ c ∈ pre ++ [a], c.day ≤ a.day := by
      intro c hc
      rcases List.mem_append.1 hc with hc | hc
      · have := h1 c hc; omega
      · rw [List.mem_singleton.1 hc]; exact Int.le_refl _
    have ih := fun last => chE_eq h base r (pre ++ [a]) f a.day last (by rw [hl]; simp) hpre hasc3 (by omega)
    rw [chE, hn, if_neg (by omega), hv, chF, ih, ih]
theorem chE_chF {o : Int} {p : Nat} {xs l : List Ac} (h : RulOk o p xs l) (base : Int) : chE o p xs base 131074 (-1) base = chF base l :=
  chE_eq h base l [] 131074 (-1) base rfl (by simp) (fun a ha => by have := rulB_day (h.top a ha).2.1; omega) (by omega)
theorem chF_step : ∀ (l : List Ac) (last c0 : Int) (cr : List Int), l.Pairwise (fun a b => a.day < b.day) → chF last l = c0 :: cr →
    ∃ a r, cr = chF a.amount r ∧ a.day = c0 ∧ a ∈ l ∧ a.amount ≠ last ∧ r.Pairwise (fun a b => a.day < b.day) ∧ (∀ x ∈ r, x ∈ l) ∧ (∀ x ∈ r, c0 < x.day) ∧ (∀ d, d < c0 → valF last l d = last) ∧ (∀ d, c0 ≤ d → valF last l d = valF a.amount r d)
  | [], last, c0, cr, _, h => by cases h
  | x :: r, last, c0, cr, hs, h => by
    obtain ⟨h1, h2⟩ := List.pairwise_cons.1 hs
    rw [chF] at h
    by_cases hx : x.amount = last
    · rw [if_pos hx] at h
      have hv : ∀ d, valF last (x :: r) d = valF last r d := fun d => by
        rw [valF]; split
        · rw [hx]
        · rfl
      obtain ⟨a, r', e1, e2, e3, e4, e5, e6, e7, e8, e9⟩ := chF_step r last c0 cr h2 h
      exact ⟨a, r', e1, e2, List.mem_cons_of_mem _ e3, e4, e5, fun y hy => List.mem_cons_of_mem _ (e6 y hy), e7, fun d hd => (hv d).trans (e8 d hd), fun d hd => (hv d).trans (e9 d hd)⟩
    · rw [if_neg hx] at h
      injection h with e1 e2
      refine ⟨x, r, e2.symm, e1, List.mem_cons_self, hx, h2, fun y hy => List.mem_cons_of_mem _ hy, fun y hy => by rw [← e1]; exact h1 y hy, fun d hd => ?_, fun d hd => ?_⟩
      · refine valF_before fun y hy => ?_
        rcases List.mem_cons.1 hy with rfl | hy
        · omega
        · have := h1 y hy; omega
      · rw [valF, if_pos (by omega)]
theorem chF_nil : ∀ (l : List Ac) (last : Int), chF last l = [] → ∀ d, valF last l d = last
  | [], last, _, d => rfl
  | x :: r, last, h, d => by
    rw [chF] at h
    by_cases hx : x.amount = last
    · rw [if_pos hx] at h
      rw [valF]
      have := chF_nil r last h d
      split
      · rw [hx]; exact this
      · exact this
    · rw [if_neg hx] at h; cases h
end Go.Proofs.YtcmdekhhclgdcaaGreatDoor
