/- thing.read: what is read, in plain words. -/
import Derived.Test.YtebhdjeognpljaaReadNew
import Derived.Test.YtebhdjeognpljaaOrdLaw
namespace Go.Proofs.Ytebhdjeognpljaa
open Go.RowKit
set_option linter.unusedSimpArgs false
set_option linter.unusedVariables false
theorem intS_none : intS none = (0, none) := rfl
theorem loopI_some (n : Nat) : ∀ (b : List UInt8) (xs : List Int) (r : List UInt8), loopS intS n (some b) = (xs, some r) ↔ xs.length = n ∧ b = encL xs ++ r ∧ ∀ x ∈ xs, I64 x := by
  induction n with
  | zero =>
    intro b xs r
    constructor
    · intro h; cases h; exact ⟨rfl, rfl, by simp⟩
    · rintro ⟨h1, h2, -⟩
      obtain rfl : xs = [] := List.eq_nil_of_length_eq_zero h1
      rw [h2]; rfl
  | succ n ih =>
    intro b xs r
    constructor
    · intro h
      rw [loopS] at h
      cases hp : intS (some b) with
      | mk x t =>
        rw [hp] at h
        simp only [Prod.mk.injEq] at h
        obtain ⟨rfl, h2⟩ := h
        cases t with
        | none => rw [loopS_none] at h2; cases h2
        | some b' =>
          obtain ⟨h4, h5⟩ := intS_some.1 hp
          obtain ⟨h6, h7, h8⟩ := (ih b' (loopS intS n (some b')).1 r).1 (Prod.ext rfl h2)
          refine ⟨by simp [h6], ?_, fun y hy => ?_⟩
          · rw [encL, List.flatMap_cons, List.append_assoc, h4]
            congr 1
          · rcases List.mem_cons.1 hy with rfl | hy
            · exact h5
            · exact h8 y hy
    · rintro ⟨h1, h2, h3⟩
      cases xs with
      | nil => simp at h1
      | cons x xs =>
        have h4 : intS (some b) = (x, some (encL xs ++ r)) := intS_some.2 ⟨by rw [h2, encL, encL, List.flatMap_cons, List.append_assoc], h3 x (by simp)⟩
        have h5 := (ih (encL xs ++ r) xs r).2 ⟨by simpa using h1, rfl, fun y hy => h3 y (by simp [hy])⟩
        rw [loopS, h4]
        simp only [h5]
theorem encI_pos (n : Int) : 1 ≤ (encI n).length := Lib.uvarint_pos _
theorem encL_ge (l : List Int) : l.length ≤ (encL l).length := by
  induction l with
  | nil => simp
  | cons x l ih =>
    have := encI_pos x
    rw [encL, List.flatMap_cons]
    simp only [List.length_cons, List.length_append]
    unfold encL at ih
    omega
theorem listI_some {b : List UInt8} {xs : List Int} {r : List UInt8} : listS intS (some b) = (xs, some r) ↔ b = encInts xs ++ r ∧ (∀ x ∈ xs, I64 x) ∧ xs.length < 18446744073709551616 := by
  unfold listS
  constructor
  · intro h
    simp only [Prod.mk.injEq] at h
    obtain ⟨h1, h2⟩ := h
    rw [h2] at h1
    simp only [Option.isSome_some, if_true] at h1
    unfold lenS at h1 h2
    cases hu : uintS (some b) with
    | mk n t =>
      rw [hu] at h1 h2
      cases t with
      | none => simp only [loopS_none] at h2; cases h2
      | some r' =>
        simp only [] at h1 h2
        split at h2
        · rename_i hle
          rw [if_pos hle] at h1
          obtain ⟨g1, g2, g3⟩ := (loopI_some n r' xs r).1 (Prod.ext h1 h2)
          obtain ⟨g4, g5⟩ := uintS_some.1 hu
          refine ⟨?_, g3, by omega⟩
          rw [g4, g2, encInts, g1, List.append_assoc]
        · rw [loopS_none] at h2; cases h2
  · rintro ⟨rfl, h1, h2⟩
    have hu : uintS (some (encInts xs ++ r)) = (xs.length, some (encL xs ++ r)) := uintS_some.2 ⟨by rw [encInts, List.append_assoc], h2⟩
    have hle : xs.length ≤ (encL xs ++ r).length := by have := encL_ge xs; simp; omega
    have hL : lenS (some (encInts xs ++ r)) = (xs.length, some (encL xs ++ r)) := by
      unfold lenS; rw [hu]; simp only [if_pos hle]
    rw [hL, (loopI_some xs.length (encL xs ++ r) xs r).2 ⟨rfl, rfl, h1⟩]
    rfl
/-- three numbers: a value -/
def valS (s : RS) : Val × RS := (⟨(intS s).1, ⟨(intS (intS s).2).1, (intS (intS (intS s).2).2).1⟩⟩, (intS (intS (intS s).2).2).2)
def valsS : Nat → RS → List Val × RS
  | 0, s => ([], s)
  | n + 1, s => ((valS s).1 :: (valsS n (valS s).2).1, (valsS n (valS s).2).2)
theorem valS_none : (valS none).2 = none := rfl
theorem valsS_none (n : Nat) : (valsS n none).2 = none := by
  induction n with
  | zero => rfl
  | succ n ih => exact ih
theorem valsS_len (n : Nat) : ∀ s, (valsS n s).1.length = n := by
  induction n with
  | zero => intro s; rfl
  | succ n ih => intro s; simp [valsS, ih]
theorem valS_ok (s : RS) : VOk (valS s).1 := ⟨intS_i64 _, intS_i64 _, intS_i64 _⟩
theorem valS_some {b : List UInt8} {v : Val} {r : List UInt8} : valS (some b) = (v, some r) ↔ b = encV v ++ r ∧ VOk v := by
  constructor
  · intro h
    unfold valS at h
    cases h1 : intS (some b) with
    | mk x s1 =>
      rw [h1] at h
      cases s1 with
      | none => cases h
      | some b1 =>
        simp only [] at h
        cases h2 : intS (some b1) with
        | mk y s2 =>
          rw [h2] at h
          cases s2 with
          | none => cases h
          | some b2 =>
            simp only [] at h
            cases h3 : intS (some b2) with
            | mk z s3 =>
              rw [h3] at h
              cases h
              obtain ⟨g1, g2⟩ := intS_some.1 h1
              obtain ⟨g3, g4⟩ := intS_some.1 h2
              obtain ⟨g5, g6⟩ := intS_some.1 h3
              refine ⟨?_, g2, g4, g6⟩
              rw [g1, g3, g5]
              simp [encV, encL]
  · rintro ⟨rfl, h1, h2, h3⟩
    obtain ⟨x, y, z⟩ := v
    have e1 : intS (some (encV ⟨x, ⟨y, z⟩⟩ ++ r)) = (x, some (encI y ++ (encI z ++ r))) := intS_some.2 ⟨by simp [encV, encL], h1⟩
    have e2 : intS (some (encI y ++ (encI z ++ r))) = (y, some (encI z ++ r)) := intS_some.2 ⟨rfl, h2⟩
    have e3 : intS (some (encI z ++ r)) = (z, some r) := intS_some.2 ⟨rfl, h3⟩
    unfold valS
    simp only [e1, e2, e3]
theorem valsS_some (n : Nat) : ∀ (b : List UInt8) (vs : List Val) (r : List UInt8), valsS n (some b) = (vs, some r) ↔ vs.length = n ∧ b = encVs vs ++ r ∧ ∀ v ∈ vs, VOk v := by
  induction n with
  | zero =>
    intro b xs r
    constructor
    · intro h; cases h; exact ⟨rfl, rfl, by simp⟩
    · rintro ⟨h1, h2, -⟩
      obtain rfl : xs = [] := List.eq_nil_of_length_eq_zero h1
      rw [h2]; rfl
  | succ n ih =>
    intro b xs r
    constructor
    · intro h
      rw [valsS] at h
      cases hp : valS (some b) with
      | mk x t =>
        rw [hp] at h
        simp only [Prod.mk.injEq] at h
        obtain ⟨rfl, h2⟩ := h
        cases t with
        | none => rw [valsS_none] at h2; cases h2
        | some b' =>
          obtain ⟨h4, h5⟩ := valS_some.1 hp
          obtain ⟨h6, h7, h8⟩ := (ih b' (valsS n (some b')).1 r).1 (Prod.ext rfl h2)
          refine ⟨by simp [h6], ?_, fun y hy => ?_⟩
          · rw [encVs, List.flatMap_cons, List.append_assoc, h4]
            congr 1
          · rcases List.mem_cons.1 hy with rfl | hy
            · exact h5
            · exact h8 y hy
    · rintro ⟨h1, h2, h3⟩
      cases xs with
      | nil => simp at h1
      | cons x xs =>
        have h4 : valS (some b) = (x, some (encVs xs ++ r)) := valS_some.2 ⟨by rw [h2, encVs, encVs, List.flatMap_cons, List.append_assoc], h3 x (by simp)⟩
        have h5 := (ih (encVs xs ++ r) xs r).2 ⟨by simpa using h1, rfl, fun y hy => h3 y (by simp [hy])⟩
        rw [valsS, h4]
        simp only [h5]
/-- the parts, as f reads one -/
def partsS (f : RS → (Thing × Bool) × RS) : Nat → RS → (List Thing × Bool) × RS
  | 0, s => (([], true), s)
  | n + 1, s => if (f s).1.2 then (((f s).1.1 :: (partsS f n (f s).2).1.1, (partsS f n (f s).2).1.2), (partsS f n (f s).2).2) else (([], false), (f s).2)
/-- what read reads, at nesting 9 - n -/
def readS : Nat → RS → (Thing × Bool) × RS
  | 0, s => ((.mk (listS intS s).1 [] [], false), (intS (listS intS s).2).2)
  | n + 1, s =>
    let c := listS intS s
    let k := intS c.2
    if k.1 < 0 ∨ 32 < k.1 then ((.mk c.1 [] [], false), k.2) else
    let v := valsS k.1.toNat k.2
    let m := intS v.2
    if m.1 < 0 ∨ 96 < m.1 then ((.mk c.1 v.1 [], false), m.2) else
    let p := partsS (readS n) m.1.toNat m.2
    ((.mk c.1 v.1 p.1.1, p.1.2), p.2)
/-- things that can be read at nesting 9 - n -/
def Fits : Nat → Thing → Prop
  | 0, _ => False
  | n + 1, t => (∀ x ∈ t.cls, I64 x) ∧ t.cls.length < 18446744073709551616 ∧ (∀ v ∈ t.vals, VOk v) ∧ t.vals.length ≤ 32 ∧ t.parts.length ≤ 96 ∧ ∀ p ∈ t.parts, Fits n p
theorem partsS_none {f : RS → (Thing × Bool) × RS} (hf : (f none).2 = none) (n : Nat) : (partsS f n none).2 = none := by
  induction n with
  | zero => rfl
  | succ n ih =>
    rw [partsS, hf]
    split
    · exact ih
    · rfl
theorem listI_none : listS intS none = ([], none) := by
  unfold listS lenS uintS
  simp [loopS_none]
theorem readS_none : ∀ n, (readS n none).2 = none
  | 0 => by rw [readS, listI_none]; rfl
  | n + 1 => by
    rw [readS, listI_none]
    rfl
def readT (f : RS → (Thing × Bool) × RS) (c : List Int) (s : RS) : (Thing × Bool) × RS :=
  if (intS s).1 < 0 ∨ 32 < (intS s).1 then ((.mk c [] [], false), (intS s).2) else
  if (intS (valsS (intS s).1.toNat (intS s).2).2).1 < 0 ∨ 96 < (intS (valsS (intS s).1.toNat (intS s).2).2).1 then ((.mk c (valsS (intS s).1.toNat (intS s).2).1 [], false), (intS (valsS (intS s).1.toNat (intS s).2).2).2) else
  ((.mk c (valsS (intS s).1.toNat (intS s).2).1 (partsS f (intS (valsS (intS s).1.toNat (intS s).2).2).1.toNat (intS (valsS (intS s).1.toNat (intS s).2).2).2).1.1, (partsS f (intS (valsS (intS s).1.toNat (intS s).2).2).1.toNat (intS (valsS (intS s).1.toNat (intS s).2).2).2).1.2), (partsS f (intS (valsS (intS s).1.toNat (intS s).2).2).1.toNat (intS (valsS (intS s).1.toNat (intS s).2).2).2).2)
theorem readS_succ (n : Nat) (s : RS) : readS (n + 1) s = readT (readS n) (listS intS s).1 (listS intS s).2 := rfl
theorem readT_none (f : RS → (Thing × Bool) × RS) (c : List Int) : (readT f c none).2 = none := rfl
theorem partsS_some {f : RS → (Thing × Bool) × RS} {F : Thing → Prop} (hn : (f none).2 = none) (hf : ∀ b t r, f (some b) = ((t, true), some r) ↔ b = enc t ++ r ∧ F t) (n : Nat) : ∀ (b : List UInt8) (ps : List Thing) (r : List UInt8),
    partsS f n (some b) = ((ps, true), some r) ↔ ps.length = n ∧ b = encTs ps ++ r ∧ ∀ p ∈ ps, F p := by
  induction n with
  | zero =>
    intro b xs r
    constructor
    · intro h; cases h; exact ⟨rfl, rfl, by simp⟩
    · rintro ⟨h1, h2, -⟩
      obtain rfl : xs = [] := List.eq_nil_of_length_eq_zero h1
      rw [h2]; rfl
  | succ n ih =>
    intro b xs r
    constructor
    · intro h
      rw [partsS] at h
      cases hp : f (some b) with
      | mk xo t =>
        obtain ⟨x, ok⟩ := xo
        rw [hp] at h
        cases ok with
        | false => simp at h
        | true =>
          simp only [if_true, Prod.mk.injEq] at h
          obtain ⟨⟨rfl, h3⟩, h2⟩ := h
          cases t with
          | none => rw [partsS_none hn] at h2; cases h2
          | some b' =>
            obtain ⟨h4, h5⟩ := (hf _ _ _).1 hp
            obtain ⟨h6, h7, h8⟩ := (ih b' (partsS f n (some b')).1.1 r).1 (Prod.ext (Prod.ext rfl h3) h2)
            refine ⟨by simp [h6], ?_, fun y hy => ?_⟩
            · rw [encTs, List.append_assoc, h4]
              congr 1
            · rcases List.mem_cons.1 hy with rfl | hy
              · exact h5
              · exact h8 y hy
    · rintro ⟨h1, h2, h3⟩
      cases xs with
      | nil => simp at h1
      | cons x xs =>
        have h4 : f (some b) = ((x, true), some (encTs xs ++ r)) := (hf _ _ _).2 ⟨by rw [h2, encTs, List.append_assoc], h3 x (by simp)⟩
        have h5 := (ih (encTs xs ++ r) xs r).2 ⟨by simpa using h1, rfl, fun y hy => h3 y (by simp [hy])⟩
        rw [partsS, h4]
        simp only [if_true, h5]
theorem readS_some : ∀ (n : Nat) (b : List UInt8) (t : Thing) (r : List UInt8), readS n (some b) = ((t, true), some r) ↔ b = enc t ++ r ∧ Fits n t
  | 0, b, t, r => by simp [readS, Fits]
  | n + 1, b, t, r => by
    have hp := partsS_some (f := readS n) (F := Fits n) (readS_none n) (readS_some n)
    constructor
    · intro h
      rw [readS_succ] at h
      cases h1 : listS intS (some b) with
      | mk c s1 =>
        rw [h1] at h
        simp only [] at h
        cases s1 with
        | none =>
          exfalso
          have h3 := congrArg Prod.snd h
          rw [readT_none] at h3
          cases h3
        | some b1 =>
          rw [readT] at h
          cases h2 : intS (some b1) with
          | mk k s2 =>
            simp only [h2] at h
            split at h
            · cases h
            rename_i hk
            cases s2 with
            | none =>
              exfalso
              have h3 := congrArg Prod.snd h
              rw [valsS_none] at h3
              cases h3
            | some b2 =>
              cases h3 : valsS k.toNat (some b2) with
              | mk vs s3 =>
                simp only [h3] at h
                cases s3 with
                | none =>
                  exfalso
                  have h4 := congrArg Prod.snd h
                  cases h4
                | some b3 =>
                  cases h4 : intS (some b3) with
                  | mk m s4 =>
                    simp only [h4] at h
                    split at h
                    · cases h
                    rename_i hm
                    cases s4 with
                    | none =>
                      exfalso
                      have h5 := congrArg Prod.snd h
                      rw [partsS_none (readS_none n)] at h5
                      cases h5
                    | some b4 =>
                      cases h5 : partsS (readS n) m.toNat (some b4) with
                      | mk po s5 =>
                        obtain ⟨ps, ok⟩ := po
                        simp only [h5, Prod.mk.injEq] at h
                        obtain ⟨⟨rfl, rfl⟩, rfl⟩ := h
                        obtain ⟨g1, g2, g3⟩ := listI_some.1 h1
                        obtain ⟨g4, g5⟩ := intS_some.1 h2
                        obtain ⟨g6, g7, g8⟩ := (valsS_some _ _ _ _).1 h3
                        obtain ⟨q4, q5⟩ := intS_some.1 h4
                        obtain ⟨q6, q7, q8⟩ := (hp _ _ _ _).1 h5
                        refine ⟨?_, g2, g3, g8, by simp only [Thing.vals]; omega, by simp only [Thing.parts]; omega, q8⟩
                        rw [g1, g4, g7, q4, q7, enc, show (vs.length : Int) = k by omega, show (ps.length : Int) = m by omega]
                        simp only [List.append_assoc]
    · rintro ⟨rfl, c1, c2, c3, c4, c5, c6⟩
      obtain ⟨c, vs, ps⟩ := t
      simp only [Thing.cls, Thing.vals, Thing.parts] at *
      have i1 : I64 (vs.length : Int) := by unfold I64; omega
      have i2 : I64 (ps.length : Int) := by unfold I64; omega
      have h1 : listS intS (some (enc (.mk c vs ps) ++ r)) = (c, some (encI vs.length ++ (encVs vs ++ (encI ps.length ++ (encTs ps ++ r))))) := listI_some.2 ⟨by simp only [enc, List.append_assoc], c1, c2⟩
      have h2 : intS (some (encI vs.length ++ (encVs vs ++ (encI ps.length ++ (encTs ps ++ r))))) = ((vs.length : Int), some (encVs vs ++ (encI ps.length ++ (encTs ps ++ r)))) := intS_some.2 ⟨rfl, i1⟩
      have h3 : valsS vs.length (some (encVs vs ++ (encI ps.length ++ (encTs ps ++ r)))) = (vs, some (encI ps.length ++ (encTs ps ++ r))) := (valsS_some _ _ _ _).2 ⟨rfl, rfl, c3⟩
      have h4 : intS (some (encI ps.length ++ (encTs ps ++ r))) = ((ps.length : Int), some (encTs ps ++ r)) := intS_some.2 ⟨rfl, i2⟩
      have h5 := (hp ps.length (encTs ps ++ r) ps r).2 ⟨rfl, rfl, c6⟩
      rw [readS, h1]
      simp only [h2]
      rw [if_neg (by omega)]
      simp only [Int.toNat_natCast, h3, h4]
      rw [if_neg (by omega)]
      simp only [h5]
end Go.Proofs.Ytebhdjeognpljaa
