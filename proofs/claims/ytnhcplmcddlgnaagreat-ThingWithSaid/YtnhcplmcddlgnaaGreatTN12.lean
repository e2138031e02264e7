/- the stable sort: its blocks (plain).; the stable sort: stableCmpFunc and SortStableFunc (text of things; gen_st.py turns it to other elements).; package thing: sorted.; parts of a slice in memory: the first elements, and all but these.; where put, value and part of the reference put an element (plain).; the reference of package thing: put. -/
import Derived.Deep.CutBlock
import Derived.Test.YtnhcplmcddlgnaaGreatTN00
import Derived.Test.YtnhcplmcddlgnaaGreatTN06
import Derived.Test.YtnhcplmcddlgnaaGreatTN07
import Derived.Test.YtnhcplmcddlgnaaGreatTN08
import Derived.Test.YtnhcplmcddlgnaaGreatTN09
import Derived.Test.YtnhcplmcddlgnaaGreatTN11
namespace Go.Proofs.YtnhcplmcddlgnaaGreat
set_option linter.unusedSimpArgs false
set_option linter.unusedVariables false
section
variable {α : Type} {c : α → α → Int}
/-- block i of size bs -/
def sg {β : Type} (bs : Nat) (l : List β) (i : Nat) : List β := (l.drop (i * bs)).take bs
theorem sg_len {β : Type} (bs : Nat) (l : List β) (i : Nat) : (sg bs l i).length = min bs (l.length - i * bs) := by unfold sg; rw [List.length_take, List.length_drop]
theorem sg_double {β : Type} (bs : Nat) (l : List β) (i : Nat) : sg (2 * bs) l i = sg bs l (2 * i) ++ sg bs l (2 * i + 1) := by
  unfold sg
  rw [show i * (2 * bs) = 2 * i * bs by rw [Nat.mul_comm 2 i, Nat.mul_assoc], show (2 * i + 1) * bs = 2 * i * bs + bs by rw [Nat.add_mul, Nat.one_mul], ← List.drop_drop, show 2 * bs = bs + bs by omega, List.take_add]
theorem sg_rest {β : Type} (bs : Nat) (l : List β) (i : Nat) : l.drop (i * bs) = sg bs l i ++ l.drop ((i + 1) * bs) := by
  unfold sg
  rw [show (i + 1) * bs = i * bs + bs by rw [Nat.add_mul, Nat.one_mul], ← List.drop_drop, List.take_append_drop]
/-- all blocks are in order -/
def Bk (c : α → α → Int) (bs : Nat) (C O : List (α × Nat)) : Prop := C.length = O.length ∧ ∀ i, InO c (sg bs C i) ∧ (sg bs C i).Perm (sg bs O i)
/-- the first k blocks are in order, the others stand as in C0 -/
def Ps (c : α → α → Int) (bs k : Nat) (C C0 O : List (α × Nat)) : Prop :=
  C.length = O.length ∧ C0.length = O.length ∧ (∀ i, i < k → InO c (sg bs C i) ∧ (sg bs C i).Perm (sg bs O i)) ∧ C.drop (k * bs) = C0.drop (k * bs)
theorem Ps.start {bs : Nat} {C0 O : List (α × Nat)} (h : C0.length = O.length) : Ps c bs 0 C0 C0 O := ⟨h, h, fun i hi => by omega, rfl⟩
theorem Ps.step {bs k : Nat} {C C0 O S : List (α × Nat)} (h : Ps c bs k C C0 O) (hb : 0 < bs) (hk : k * bs ≤ O.length) (hS : InO c S) (hp : S.Perm (sg bs O k)) :
    Ps c bs (k + 1) (C.take (k * bs) ++ S ++ C.drop (k * bs + S.length)) C0 O := by
  obtain ⟨h1, h2, h3, h4⟩ := h
  have hl : S.length = min bs (O.length - k * bs) := by rw [hp.length_eq, sg_len]
  have lt : (C.take (k * bs)).length = k * bs := by rw [List.length_take]; omega
  have hk1 : (k + 1) * bs = k * bs + bs := by rw [Nat.add_mul, Nat.one_mul]
  refine ⟨?_, h2, fun i hi => ?_, ?_⟩
  · rw [List.length_append, List.length_append, lt, List.length_drop]; omega
  · rcases Nat.lt_or_ge i k with hik | hik
    · have hle : i * bs + bs ≤ k * bs := by
        have := Nat.mul_le_mul_right bs (show i + 1 ≤ k from hik)
        rw [Nat.add_mul, Nat.one_mul] at this; exact this
      have e : sg bs (C.take (k * bs) ++ S ++ C.drop (k * bs + S.length)) i = sg bs C i := by
        unfold sg
        rw [List.append_assoc, List.drop_append_of_le_length (by omega), List.take_append_of_le_length (by rw [List.length_drop, lt]; omega), List.drop_take, List.take_take, Nat.min_eq_left (by omega)]
      rw [e]; exact h3 i hik
    · obtain rfl : i = k := by omega
      have e : sg bs (C.take (i * bs) ++ S ++ C.drop (i * bs + S.length)) i = S := by
        unfold sg
        rw [List.append_assoc, List.drop_append, lt, Nat.sub_self, List.drop_zero, List.drop_eq_nil_of_le (by omega), List.nil_append]
        rcases Nat.lt_or_ge S.length bs with hs | hs
        · rw [List.drop_eq_nil_of_le (show C.length ≤ _ by omega), List.append_nil, List.take_of_length_le (by omega)]
        · have : S.length = bs := by omega
          rw [List.take_append_of_le_length (by omega), List.take_of_length_le (by omega)]
      rw [e]; exact ⟨hS, hp⟩
  · rw [hk1]
    rw [show k * bs + bs = (C.take (k * bs) ++ S).length + (bs - S.length) by rw [List.length_append, lt]; omega, List.drop_append, List.drop_eq_nil_of_le (by omega), List.nil_append, Nat.add_sub_cancel_left, List.drop_drop, List.length_append, lt]
    have := congrArg (List.drop bs) h4
    rw [List.drop_drop, List.drop_drop] at this
    rw [show k * bs + S.length + (bs - S.length) = k * bs + bs by omega, this]
theorem Ps.done {bs k : Nat} {C C0 O : List (α × Nat)} (h : Ps c bs k C C0 O) (hk : O.length ≤ k * bs) : Bk c bs C O := by
  obtain ⟨h1, h2, h3, h4⟩ := h
  refine ⟨h1, fun i => ?_⟩
  rcases Nat.lt_or_ge i k with hi | hi
  · exact h3 i hi
  · have : k * bs ≤ i * bs := Nat.mul_le_mul_right _ hi
    have e1 : sg bs C i = [] := by unfold sg; rw [List.drop_eq_nil_of_le (by omega), List.take_nil]
    have e2 : sg bs O i = [] := by unfold sg; rw [List.drop_eq_nil_of_le (by omega), List.take_nil]
    rw [e1, e2]; exact ⟨List.Pairwise.nil, List.Perm.refl _⟩
theorem Bk.all {bs : Nat} {C O : List (α × Nat)} (h : Bk c bs C O) (hb : O.length ≤ bs) : InO c C ∧ C.Perm O := by
  have := h.2 0
  unfold sg at this
  rw [Nat.zero_mul, List.drop_zero, List.drop_zero, List.take_of_length_le (by have := h.1; omega), List.take_of_length_le hb] at this
  exact this
/-- blocks side by side: the first stood ahead of the second -/
theorem Bk.bef {bs i : Nat} {C O : List (α × Nat)} (h : Bk c bs C O) (hup : O.Pairwise (fun p q => p.2 < q.2)) : Bef (sg bs C i) (sg bs C (i + 1)) := by
  intro x hx y hy
  have hx := (h.2 i).2.mem_iff.1 hx
  have hy := (h.2 (i + 1)).2.mem_iff.1 hy
  have hp : (O.drop (i * bs)).Pairwise (fun p q => p.2 < q.2) := hup.sublist (List.drop_sublist _ _)
  rw [sg_rest] at hp
  refine (List.pairwise_append.1 hp).2.2 x hx y ?_
  unfold sg at hy
  exact List.mem_of_mem_take hy
theorem sg_up {bs i : Nat} {O : List (α × Nat)} (hup : O.Pairwise (fun p q => p.2 < q.2)) : (sg bs O i).Pairwise (fun p q => p.2 < q.2) :=
  hup.sublist ((List.take_sublist _ _).trans (List.drop_sublist _ _))
end
end Go.Proofs.YtnhcplmcddlgnaaGreat
namespace Go.Proofs.YtnhcplmcddlgnaaGreat
open Go.RowKit Go.Shelf
set_option linter.unusedSimpArgs false
set_option linter.unusedVariables false
set_option maxRecDepth 100000 in
set_option maxHeartbeats 4000000 in
theorem stab_T {α : Type} (c : α → α → Int) (hc : Ordr c) (E : PH → List Value → α → Prop) (hm : Mono E) (hone : ∀ H cs x, E H cs x → ∀ u ∈ cs, u.oneCell' = true) (fid g N cap : Nat) (xs : List α) (w0 w : World) (H0 H : PH) (LB : List Chunk)
    (hM : Mem w0 H0 (own hm 3 27 (.slice (some ⟨g, 0, none⟩) N cap) xs :: LB) H w) (hf : HCmp E H c fid) (hfn : ∀ args w, (callFunc fid args).run Tryz.prog w = .ok (.enter fid args) w)
    (hN : xs.length = N) (hN6 : N ≤ 1000000) :
    Calls Tryz.prog 69 #[.slice (some ⟨g, 0, none⟩) N cap, .int .i64 N, .func (.func fid) #[] #[]] w
      (UnitP fun w' => Mem w0 H0 (own hm 3 27 (.slice (some ⟨g, 0, none⟩) N cap) (stS c xs) :: LB) H w') := by
  have hO : (tag xs).length = N := by rw [← hN]; unfold tag; exact List.length_zipIdx
  have hup := tag_up xs
  have hout : Hid (∀ C : List (α × Nat), InO c C → C.Perm (tag xs) → C.map Prod.fst = stS c xs) := Lib.hid fun C h1 h2 => stS_of hc h1 h2
  have hst : Mem w0 H0 (own hm 3 27 (.slice (some ⟨g, 0, none⟩) N cap) ((tag xs).map Prod.fst) :: LB) H w := by rw [tag_fst]; exact hM
  generalize tag xs = O at *
  have HF := Lib.hid hf; clear hf hM hN
  replace hO := Lib.hid hO
  replace hup := Lib.hid hup
  replace hst := Lib.hid hst
  go_enter Tryz.func69, Tryz.ntmps69
  go_wp2_with fail
  go_loopw [7, 8] (fun va vb wr => ∃ (k A0 : Nat) (C : List (α × Nat)), va = .int .i64 (A0 : Int) ∧ vb = .int .i64 ((A0 + 20 : Nat) : Int) ∧ A0 ≤ N ∧ Hid (A0 = k * 20 ∧ Ps c 20 k C O O) ∧ Mem w0 H0 (own hm 3 27 (.slice (some ⟨g, 0, none⟩) N cap) (C.map Prod.fst) :: LB) H wr) (fun va _ _ => N - (intOf va).toNat)
  case atStart => exact ⟨0, 0, O, rfl, by go_num, by omega, Lib.hid ⟨rfl, Ps.start rfl⟩, hst.out⟩
  case round =>
    clear hst
    obtain ⟨k, A0, C, rfl, rfl, hAN, hP, hM⟩ := hrel
    obtain ⟨hk, hPs⟩ := hP.out
    have hCl : C.length = N := by rw [hPs.1]; exact hO.out
    have hdr : C.drop A0 = O.drop A0 := by rw [hk]; exact hPs.2.2.2
    have lP : (C.take A0).length = A0 := by rw [List.length_take]; omega
    by_cases hlt : A0 + 20 ≤ N
    · have hd1 : decide (A0 + 20 ≤ N) = true := decide_eq_true hlt
      have hd2 : decide ((A0 : Int) + 20 ≤ (N : Int)) = true := by simp; omega
      have hS : sg 20 C k = sg 20 O k := by unfold sg; rw [← hk, hdr]
      have hsl : (sg 20 O k).length = 20 := by rw [sg_len, hO.out, ← hk]; omega
      have hsplit : C.take A0 ++ sg 20 O k ++ C.drop (A0 + 20) = C := by
        rw [← hS, List.append_assoc, show A0 + 20 = (k + 1) * 20 by omega, ← sg_rest, ← hk, List.take_append_drop]
      have hI := insSort_T c hc E hm hone fid g N cap A0 (A0 + 20) (C.take A0) (sg 20 O k) (C.drop (A0 + 20)) w0 wr H0 H LB (by rw [hsplit]; exact hM) HF.out hfn (by rw [hsplit]; exact hCl) lP (by rw [lP, hsl]) hN6 (sg_up hup.out)
      have hnx : Hid (∀ S', InO c S' → S'.Perm (sg 20 O k) → Ps c 20 (k + 1) (C.take A0 ++ S' ++ C.drop (A0 + 20)) O O) := Lib.hid fun S' i1 i2 => by
        have := hPs.step (by omega) (by rw [← hk, hO.out]; omega) i1 i2
        rwa [← hk, i2.length_eq, hsl] at this
      replace hI := Lib.hid hI
      replace hk := Lib.hid hk
      clear hPs hdr lP hS hsl hsplit hM hCl
      go_wp2_with fail
      refine hI.out.mono ?_
      rintro e w2 ⟨rfl, S', i1, i2, hM2⟩
      have hn := Lib.hid (hnx.out S' i1 i2)
      clear hI i1 i2
      go_wp2_with fail
      go_roundw
      case rel => exact ⟨k + 1, A0 + 20, _, by go_num, by go_num, hlt, Lib.hid ⟨by have := hk.out; omega, hn.out⟩, hM2⟩
      case measure => simp [intOf] <;> omega
    · have hd1 : decide (A0 + 20 ≤ N) = false := decide_eq_false hlt
      have hd2 : decide ((A0 : Int) + 20 ≤ (N : Int)) = false := by simp; omega
      have hS : C.drop A0 = sg 20 O k := by unfold sg; rw [← hk, ← hdr, List.take_of_length_le (by rw [List.length_drop]; omega)]
      have hsl : (sg 20 O k).length = N - A0 := by rw [sg_len, hO.out, ← hk]; omega
      have hsplit : C.take A0 ++ sg 20 O k ++ [] = C := by rw [← hS, List.append_nil, List.take_append_drop]
      have hI := insSort_T c hc E hm hone fid g N cap A0 N (C.take A0) (sg 20 O k) [] w0 wr H0 H LB (by rw [hsplit]; exact hM) HF.out hfn (by rw [hsplit]; exact hCl) lP (by rw [lP, hsl]; omega) hN6 (sg_up hup.out)
      have hnx : Hid (∀ S', InO c S' → S'.Perm (sg 20 O k) → Bk c 20 (C.take A0 ++ S' ++ []) O) := Lib.hid fun S' i1 i2 => by
        have := hPs.step (by omega) (by rw [← hk, hO.out]; omega) i1 i2
        rw [← hk, i2.length_eq, hsl, List.drop_eq_nil_of_le (show C.length ≤ A0 + (N - A0) by omega)] at this
        exact this.done (by rw [hO.out]; omega)
      replace hI := Lib.hid hI
      clear hPs hdr lP hS hsl hsplit hM hCl hk hP
      go_wp2_with fail
      refine hI.out.mono ?_
      rintro e w2 ⟨rfl, S', i1, i2, hM2⟩
      have hn := Lib.hid (hnx.out S' i1 i2)
      obtain ⟨C1, hC1⟩ : ∃ C1, C.take A0 ++ S' ++ [] = C1 := ⟨_, rfl⟩
      rw [hC1] at hn hM2
      clear hI i1 i2 hnx hC1
      go_wp2_with fail
      go_loopw [6] (fun vs wr => ∃ (bs : Nat) (C : List (α × Nat)), vs = .int .i64 (bs : Int) ∧ 20 ≤ bs ∧ Hid (Bk c bs C O) ∧ Mem w0 H0 (own hm 3 27 (.slice (some ⟨g, 0, none⟩) N cap) (C.map Prod.fst) :: LB) H wr) (fun vs _ => N - (intOf vs).toNat)
      case atStart => exact ⟨20, C1, rfl, by omega, hn, hM2⟩
      case round =>
        clear hM2 hn
        obtain ⟨bs, C0, rfl, hbs, hB, hM⟩ := hrel
        by_cases hlt2 : bs < N
        · have hd3 : decide (bs < N) = true := decide_eq_true hlt2
          have hw1 : IntKind.i64.wrap (2 * (bs : Int)) = ((2 * bs : Nat) : Int) := by rw [IntKind.wrap_i64]; omega
          have hC0l : C0.length = N := by rw [hB.out.1]; exact hO.out
          have hPs0 : Ps c (2 * bs) 0 C0 C0 O := Ps.start hB.out.1
          have hMo := Lib.hid hM
          clear hM
          go_wp2_with fail
          go_loopw [7, 8] (fun va vb wr => ∃ (k A0 : Nat) (C : List (α × Nat)), va = .int .i64 (A0 : Int) ∧ vb = .int .i64 ((A0 + 2 * bs : Nat) : Int) ∧ A0 ≤ N ∧ Hid (A0 = k * (2 * bs) ∧ Ps c (2 * bs) k C C0 O) ∧ Mem w0 H0 (own hm 3 27 (.slice (some ⟨g, 0, none⟩) N cap) (C.map Prod.fst) :: LB) H wr) (fun va _ _ => N - (intOf va).toNat)
          case atStart => exact ⟨0, 0, C0, rfl, by go_num, by omega, Lib.hid ⟨by simp, hPs0⟩, hMo.out⟩
          case round =>
            clear hMo hPs0
            obtain ⟨k, A0, C, rfl, rfl, hAN, hP, hM⟩ := hrel
            obtain ⟨hk, hPs⟩ := hP.out
            have hCl : C.length = N := by rw [hPs.1]; exact hO.out
            have hk2 : 2 * k * bs = A0 := by rw [hk, Nat.mul_comm 2 k, Nat.mul_assoc]
            have hk3 : (2 * k + 1) * bs = A0 + bs := by rw [Nat.add_mul, Nat.one_mul, hk2]
            have hk4 : (2 * k + 1 + 1) * bs = A0 + 2 * bs := by rw [Nat.add_mul, Nat.one_mul, hk3]; omega
            have hdr : C.drop A0 = C0.drop A0 := by rw [hk]; exact hPs.2.2.2
            have lP : (C.take A0).length = A0 := by rw [List.length_take]; omega
            have r1 : C.drop A0 = sg bs C0 (2 * k) ++ C0.drop (A0 + bs) := by rw [hdr, ← hk2, sg_rest bs C0 (2 * k), hk3, hk2]
            have r2 : C0.drop (A0 + bs) = sg bs C0 (2 * k + 1) ++ C0.drop (A0 + 2 * bs) := by rw [← hk3, sg_rest bs C0 (2 * k + 1), hk4]
            have r3 : C.drop (A0 + 2 * bs) = C0.drop (A0 + 2 * bs) := by rw [← List.drop_drop, hdr, List.drop_drop]
            have oA := hB.out.2 (2 * k)
            have oB := hB.out.2 (2 * k + 1)
            have hbf := hB.out.bef (i := 2 * k) hup.out
            have hdb := sg_double bs O k
            have lA : (sg bs C0 (2 * k)).length = min bs (N - A0) := by rw [sg_len, hC0l, hk2]
            have lB : (sg bs C0 (2 * k + 1)).length = min bs (N - (A0 + bs)) := by rw [sg_len, hC0l, hk3]
            have hstep : ∀ S', InO c S' → S'.Perm (sg bs C0 (2 * k) ++ sg bs C0 (2 * k + 1)) → Ps c (2 * bs) (k + 1) (C.take A0 ++ S' ++ C.drop (A0 + S'.length)) C0 O := fun S' i1 i2 => by
              have := hPs.step (by omega) (by rw [← hk, hO.out]; omega) i1 (i2.trans (by rw [hdb]; exact oA.2.append oB.2))
              rwa [← hk] at this
            generalize sg bs C0 (2 * k) = SA at *
            generalize sg bs C0 (2 * k + 1) = SB at *
            by_cases hlt3 : A0 + 2 * bs ≤ N
            · have hd4 : decide (A0 + 2 * bs ≤ N) = true := decide_eq_true hlt3
              have hd5 : decide ((A0 : Int) + 2 * (bs : Int) ≤ (N : Int)) = true := by simp; omega
              have hsplit : C.take A0 ++ SA ++ SB ++ C.drop (A0 + 2 * bs) = C := by
                rw [r3, List.append_assoc, ← r2, List.append_assoc, ← r1, List.take_append_drop]
              have hI := symM_T c hc E hm hone fid g N cap w0 H0 H LB HF.out hfn hN6 _ A0 (A0 + bs) (A0 + 2 * bs) (C.take A0) SA SB (C.drop (A0 + 2 * bs)) wr (Nat.le_refl _) (by rw [hsplit]; exact hCl) lP (by rw [lA]; omega) (by rw [lB]; omega) (by rw [lA]; omega) (by rw [lB]; omega) oA.1 oB.1 hbf (by rw [hsplit]; exact hM)
              have hnx : Hid (∀ S', InO c S' → S'.Perm (SA ++ SB) → Ps c (2 * bs) (k + 1) (C.take A0 ++ S' ++ C.drop (A0 + 2 * bs)) C0 O) := Lib.hid fun S' i1 i2 => by
                have := hstep S' i1 i2
                rwa [i2.length_eq, List.length_append, lA, lB, show A0 + (min bs (N - A0) + min bs (N - (A0 + bs))) = A0 + 2 * bs by omega] at this
              replace hI := Lib.hid hI
              replace hk := Lib.hid hk
              have hw2 : IntKind.i64.wrap ((A0 : Int) + (bs : Int)) = ((A0 + bs : Nat) : Int) := by rw [IntKind.wrap_i64]; omega
              clear hPs hdr lP hsplit hM hCl r1 r2 r3 oA oB hbf hdb lA lB hstep hk2 hk3 hk4 hP
              go_wp2_with fail
              refine hI.out.mono ?_
              rintro e w2 ⟨rfl, S', i1, i2, hM2⟩
              have hn := Lib.hid (hnx.out S' i1 i2)
              clear hI i1 i2
              go_wp2_with fail
              go_roundw
              case rel => exact ⟨k + 1, A0 + 2 * bs, _, by go_num, by go_num, hlt3, Lib.hid ⟨by rw [hk.out, Nat.add_mul, Nat.one_mul], hn.out⟩, hM2⟩
              case measure => simp [intOf] <;> omega
            · have hd4 : decide (A0 + 2 * bs ≤ N) = false := decide_eq_false hlt3
              have hd5 : decide ((A0 : Int) + 2 * (bs : Int) ≤ (N : Int)) = false := by simp; omega
              have hw2 : IntKind.i64.wrap ((A0 : Int) + (bs : Int)) = ((A0 + bs : Nat) : Int) := by rw [IntKind.wrap_i64]; omega
              have hw3 : IntKind.i64.wrap ((bs : Int) * 2) = ((2 * bs : Nat) : Int) := by rw [IntKind.wrap_i64]; omega
              have r4 : C0.drop (A0 + 2 * bs) = [] := List.drop_eq_nil_of_le (by omega)
              rw [r4, List.append_nil] at r2
              rw [r2] at r1
              have hfin : ∀ C2, Ps c (2 * bs) (k + 1) C2 C0 O → Bk c (2 * bs) C2 O := fun C2 h => h.done (by rw [hO.out, Nat.add_mul, Nat.one_mul, ← hk]; omega)
              by_cases hlt4 : A0 + bs < N
              · have hd6 : decide (A0 + bs < N) = true := decide_eq_true hlt4
                have hd7 : decide ((A0 : Int) + (bs : Int) < (N : Int)) = true := by simp; omega
                have hsplit : C.take A0 ++ SA ++ SB ++ [] = C := by
                  rw [List.append_nil, List.append_assoc, ← r1, List.take_append_drop]
                have hI := symM_T c hc E hm hone fid g N cap w0 H0 H LB HF.out hfn hN6 _ A0 (A0 + bs) N (C.take A0) SA SB [] wr (Nat.le_refl _) (by rw [hsplit]; exact hCl) lP (by rw [lA]; omega) (by rw [lB]; omega) (by rw [lA]; omega) (by rw [lB]; omega) oA.1 oB.1 hbf (by rw [hsplit]; exact hM)
                have hnx : Hid (∀ S', InO c S' → S'.Perm (SA ++ SB) → Bk c (2 * bs) (C.take A0 ++ S' ++ []) O) := Lib.hid fun S' i1 i2 => by
                  have := hfin _ (hstep S' i1 i2)
                  rwa [i2.length_eq, List.length_append, lA, lB, List.drop_eq_nil_of_le (show C.length ≤ _ by omega)] at this
                replace hI := Lib.hid hI
                clear hPs hdr lP hsplit hM hCl r1 r2 r3 r4 oA oB hbf hdb lA lB hstep hk2 hk3 hk4 hP hk hfin
                go_wp2_with fail
                refine hI.out.mono ?_
                rintro e w2 ⟨rfl, S', i1, i2, hM2⟩
                have hn := Lib.hid (hnx.out S' i1 i2)
                clear hI i1 i2
                go_wp2_with fail
                go_roundw
                case rel => exact ⟨2 * bs, _, by go_num, by omega, hn, hM2⟩
                case measure => simp [intOf] <;> omega
              · have hd6 : decide (A0 + bs < N) = false := decide_eq_false hlt4
                have hd7 : decide ((A0 : Int) + (bs : Int) < (N : Int)) = false := by simp; omega
                have hSB : SB = [] := List.length_eq_zero_iff.1 (by rw [lB]; omega)
                have hn : Hid (Bk c (2 * bs) C O) := Lib.hid (by
                  have := hfin _ (hstep SA oA.1 (by rw [hSB, List.append_nil]))
                  rwa [lA, List.drop_eq_nil_of_le (show C.length ≤ _ by omega), List.append_nil, show C.take A0 ++ SA = C by rw [hSB, List.append_nil] at r1; rw [← r1, List.take_append_drop]] at this)
                clear hPs hdr lP hCl r1 r2 r3 r4 oA oB hbf hdb lA lB hstep hk2 hk3 hk4 hP hk hfin hSB
                go_wp2_with fail
                go_roundw
                case rel => exact ⟨2 * bs, C, by go_num, by omega, hn, hM⟩
                case measure => simp [intOf] <;> omega
        · have hd3 : decide (bs < N) = false := decide_eq_false hlt2
          have hf := hB.out.all (by rw [hO.out]; omega)
          have hr := Lib.hid (hout.out C0 hf.1 hf.2)
          clear hf
          go_wp2_with fail
          refine bodyPost_ret (v := .tuple #[]) (by simp [results, Tryz.results69, go_sem]) rfl ⟨rfl, by rw [← hr.out]; exact hM⟩
theorem insSort0_T (fv : Value) (w : World) : Calls Tryz.prog 96 #[.slice none 0 0, .int .i64 0, .int .i64 0, fv] w (UnitP fun w' => Ext w w') := by
  go_enter Tryz.func96, Tryz.ntmps96
  go_wp2_with fail
  go_loopw [8] (fun vi wr => vi = .int .i64 1 ∧ Ext w wr) (fun _ _ => 0)
  case atStart => exact ⟨rfl, (by with_reducible repeat (first | assumption | exact Ext.rfl' _ | exact Ext.new _ _ | refine Ext.alloc' ?_ _ | refine Ext.drew' ?_ | refine Ext.drewN' ?_ _ | (refine Ext.set' ?_ ?_ _; rotate_left; focus (first | omega | (simp; done) | (simp; omega))) | (refine Ext.then (b := ?_) ?_ ?_; rotate_left; rotate_left; assumption)))⟩
  case round =>
    obtain ⟨rfl, hx⟩ := hrel
    go_wp2_with fail
    exact bodyPost_ret (v := .tuple #[]) (by simp [results, Tryz.results96, go_sem]) rfl ⟨rfl, hx⟩
theorem stab0_T (fv : Value) (w : World) : Calls Tryz.prog 69 #[.slice none 0 0, .int .i64 0, fv] w (UnitP fun w' => Ext w w') := by
  go_enter Tryz.func69, Tryz.ntmps69
  go_wp2_with fail
  go_loopw [7, 8] (fun va vb wr => va = .int .i64 0 ∧ vb = .int .i64 20 ∧ Ext w wr) (fun _ _ _ => 0)
  case atStart => exact ⟨rfl, rfl, (by with_reducible repeat (first | assumption | exact Ext.rfl' _ | exact Ext.new _ _ | refine Ext.alloc' ?_ _ | refine Ext.drew' ?_ | refine Ext.drewN' ?_ _ | (refine Ext.set' ?_ ?_ _; rotate_left; focus (first | omega | (simp; done) | (simp; omega))) | (refine Ext.then (b := ?_) ?_ ?_; rotate_left; rotate_left; assumption)))⟩
  case round =>
    obtain ⟨rfl, rfl, hx⟩ := hrel
    go_wp2_with fail
    refine (insSort0_T fv _).mono ?_
    rintro e w2 ⟨rfl, hx2⟩
    have hx3 := hx.then hx2
    go_wp2_with fail
    go_loopw [6] (fun va wr => va = .int .i64 20 ∧ Ext w wr) (fun _ _ => 0)
    case atStart => exact ⟨rfl, hx3⟩
    case round =>
      obtain ⟨rfl, hx4⟩ := hrel
      go_wp2_with fail
      exact bodyPost_ret (v := .tuple #[]) (by simp [results, Tryz.results69, go_sem]) rfl ⟨rfl, hx4⟩
theorem sortStable_T {α : Type} (c : α → α → Int) (hc : Ordr c) (E : PH → List Value → α → Prop) (hm : Mono E) (hone : ∀ H cs x, E H cs x → ∀ u ∈ cs, u.oneCell' = true) (fid : Nat) (v : Value) (xs : List α) (w0 w : World) (H0 H : PH) (LB : List Chunk)
    (hM : Mem w0 H0 (own hm 3 27 v xs :: LB) H w) (hf : HCmp E H c fid) (hfn : ∀ args w, (callFunc fid args).run Tryz.prog w = .ok (.enter fid args) w) (hN6 : xs.length ≤ 1000000) :
    Calls Tryz.prog 42 #[v, .func (.func fid) #[] #[]] w (UnitP fun w' => Mem w0 H0 (own hm 3 27 v (stS c xs) :: LB) H w') := by
  have hO : OwnC H w E 3 27 v xs := hM.ok 0 _ rfl
  rcases hO with ⟨rfl, rfl⟩ | ⟨g, cap, cur, rfl, -⟩
  · have hS := Lib.hid (stab0_T (.func (.func fid) #[] #[]) w)
    go_enter Tryz.func42, Tryz.ntmps42
    go_wp2_with fail
    refine hS.out.mono ?_
    rintro e w2 ⟨rfl, hx2⟩
    have hM2 := hM.ext hx2
    clear hM
    go_wp2_with fail
    exact bodyPost_ret (v := .tuple #[]) (by simp [results, Tryz.results42, go_sem]) rfl ⟨rfl, hM2⟩
  · obtain ⟨N, hN⟩ : ∃ N, xs.length = N := ⟨_, rfl⟩
    rw [hN] at hM hN6 ⊢
    have hS := Lib.hid (stab_T c hc E hm hone fid g N cap xs w0 w H0 H LB hM hf hfn hN hN6)
    clear hM hf hN
    go_enter Tryz.func42, Tryz.ntmps42
    go_wp2_with fail
    refine hS.out.mono ?_
    rintro e w2 ⟨rfl, hM2⟩
    go_wp2_with fail
    exact bodyPost_ret (v := .tuple #[]) (by simp [results, Tryz.results42, go_sem]) rfl ⟨rfl, hM2⟩
end Go.Proofs.YtnhcplmcddlgnaaGreat
namespace Go.Proofs.YtnhcplmcddlgnaaGreat
open Go.RowKit Go.Shelf
set_option linter.unusedSimpArgs false
set_option linter.unusedVariables false
set_option maxRecDepth 100000 in
set_option maxHeartbeats 8000000 in
theorem sorted_c (t : Thing) : ∀ (H : PH) (cs : List Value) (w : World), PLe H (ph w) → ThingR H cs t → t.bulk ≤ 1000000 →
    Calls Tryz.prog 19 #[.agg cs.toArray] w (SortP H w (normT t)) := by
  induction t using Thing.ind with
  | h t ih =>
    intro H cs w hP hr hbk
    obtain ⟨a1, c1, a2, c2, a3, c3, rfl, l1, l2, l3, hc, hv, hp⟩ := hr.form
    have HI := Lib.hid ih; clear ih
    have hbk' := Lib.hid (Thing.bulk_eq t)
    have hb1 : t.cls.length ≤ 1000000 := by have := hbk'.out; omega
    have hb2 : t.vals.length ≤ 1000000 := by have := hbk'.out; omega
    have hb3 : t.parts.length ≤ 1000000 := by have := t.parts_le; omega
    have hM : Mem w H [boxT w.heap.size (.slice a1 t.cls.length c1) (.slice a2 t.vals.length c2) (.slice a3 t.parts.length c3), boxT (w.heap.size + 1) (.slice none 0 0) (.slice none 0 0) (.slice none 0 0)] H _ :=
      ((Mem.start w H hP).new #[.slice a1 t.cls.length c1, .slice a2 t.vals.length c2, .slice a3 t.parts.length c3] 27).new' zeroT 27 (n := w.heap.size + 1) (by simp)
    go_enter Tryz.func19, Tryz.ntmps19
    go_upto_region 1 with (fail)
    generalize hg2 : w.heap.size + 1 = g2 at *
    generalize hg1 : w.heap.size = g1 at *
    generalize World.alloc _ _ = w1 at *
    obtain ⟨z0, z1, z2, zl⟩ := hM.cellsT 0 rfl
    (refine wp_region_I 8 (by kernel_rfl) (by kernel_rfl) ?_; simp only [List.toList_toArray, List.take_succ_cons, List.take_zero, List.drop_succ_cons, List.drop_zero])
    iterate 2 (refine walkI_is (u := ?_) rfl (by simp) rfl ?_ ?_; rotate_left; (focus (intro A w' hS hA K hK; (simp only [List.map_cons, List.map_nil, knows, Is, Op.operands, Call.operands, List.lookup_cons, List.lookup_nil, Nat.reduceBEq, Bool.false_eq_true, if_false, if_true, Act.eval, Array.getD_eq_getD_getElem?, List.getElem?_toArray, List.getElem?_cons_succ, List.getElem?_cons_zero, Option.getD_some, and_true, true_and, List.append_toArray, List.nil_append, List.cons_append, List.toList_toArray, Array.toList_append, Option.toArray, List.append_nil] at hA); first | fail | (obtain ⟨hSc, hSf, hSs⟩ := hS.cells; go_simp; exact hK _ (by first | exact Ext.rfl' _ | exact Ext.new _ _ | assumption)))); (try simp only [List.nil_append, List.cons_append]))
    (refine walkI_step (fun v w' => ∃ a c, v = .slice a t.cls.length c ∧ OwnS w1.heap.size noH w' IntR 1 3 (.slice a t.cls.length c) t.cls) rfl (by simp) rfl (fun v wa wb hx ⟨a, c, h1, h2⟩ hy => ⟨a, c, h1, h2.keep hy⟩) ?_ ?_; (focus (intro A w' hS hA K hK; (simp only [List.map_cons, List.map_nil, knows, Is, Op.operands, Call.operands, List.lookup_cons, List.lookup_nil, Nat.reduceBEq, Bool.false_eq_true, if_false, if_true, Act.eval, Array.getD_eq_getD_getElem?, List.getElem?_toArray, List.getElem?_cons_succ, List.getElem?_cons_zero, Option.getD_some, and_true, true_and, List.append_toArray, List.nil_append, List.cons_append, List.toList_toArray, Array.toList_append, Option.toArray, List.append_nil] at hA); (have hsz : w1.heap.size ≤ w'.heap.size := hS.size; go_simp; refine (cloneN_c t.cls _ _ (hc.mono mono_IntR (hM.ple.trans hS.ple)) hb1).mono ?_; rintro e w6 ⟨v, rfl, hO, hx6⟩; obtain ⟨a, c, rfl, -⟩ := hO.form; exact hK _ _ hx6 ⟨a, c, rfl, hO.lower hsz⟩))); (try simp only [List.nil_append, List.cons_append]))
    iterate 2 (refine walkI_is (u := ?_) rfl (by simp) rfl ?_ ?_; rotate_left; (focus (intro A w' hS hA K hK; (simp only [List.map_cons, List.map_nil, knows, Is, Op.operands, Call.operands, List.lookup_cons, List.lookup_nil, Nat.reduceBEq, Bool.false_eq_true, if_false, if_true, Act.eval, Array.getD_eq_getD_getElem?, List.getElem?_toArray, List.getElem?_cons_succ, List.getElem?_cons_zero, Option.getD_some, and_true, true_and, List.append_toArray, List.nil_append, List.cons_append, List.toList_toArray, Array.toList_append, Option.toArray, List.append_nil] at hA); first | fail | (obtain ⟨hSc, hSf, hSs⟩ := hS.cells; go_simp; exact hK _ (by first | exact Ext.rfl' _ | exact Ext.new _ _ | assumption)))); (try simp only [List.nil_append, List.cons_append]))
    (refine walkI_step (fun v w' => ∃ a c, v = .slice a t.vals.length c ∧ OwnS w1.heap.size noH w' ValR 3 46 (.slice a t.vals.length c) t.vals) rfl (by simp) rfl (fun v wa wb hx ⟨a, c, h1, h2⟩ hy => ⟨a, c, h1, h2.keep hy⟩) ?_ ?_; (focus (intro A w' hS hA K hK; (simp only [List.map_cons, List.map_nil, knows, Is, Op.operands, Call.operands, List.lookup_cons, List.lookup_nil, Nat.reduceBEq, Bool.false_eq_true, if_false, if_true, Act.eval, Array.getD_eq_getD_getElem?, List.getElem?_toArray, List.getElem?_cons_succ, List.getElem?_cons_zero, Option.getD_some, and_true, true_and, List.append_toArray, List.nil_append, List.cons_append, List.toList_toArray, Array.toList_append, Option.toArray, List.append_nil] at hA); (have hsz : w1.heap.size ≤ w'.heap.size := hS.size; go_simp; refine (cloneV_c t.vals _ _ (hv.mono mono_ValR (hM.ple.trans hS.ple)) hb2).mono ?_; rintro e w6 ⟨v, rfl, hO, hx6⟩; obtain ⟨a, c, rfl, -⟩ := hO.form; exact hK _ _ hx6 ⟨a, c, rfl, hO.lower hsz⟩))); (try simp only [List.nil_append, List.cons_append]))
    (refine walkI_step (fun v w' => ∃ a c a' c', v = .agg #[.slice a t.cls.length c, .slice a' t.vals.length c', .slice none 0 0] ∧ OwnS w1.heap.size noH w' IntR 1 3 (.slice a t.cls.length c) t.cls ∧ OwnS w1.heap.size noH w' ValR 3 46 (.slice a' t.vals.length c') t.vals) rfl (by simp) rfl (fun v wa wb hx ⟨a, c, a', c', h1, h2, h3⟩ hy => ⟨a, c, a', c', h1, h2.keep hy, h3.keep hy⟩) ?_ ?_; (focus (intro A w' hS hA K hK; (simp only [List.map_cons, List.map_nil, knows, Is, Op.operands, Call.operands, List.lookup_cons, List.lookup_nil, Nat.reduceBEq, Bool.false_eq_true, if_false, if_true, Act.eval, Array.getD_eq_getD_getElem?, List.getElem?_toArray, List.getElem?_cons_succ, List.getElem?_cons_zero, Option.getD_some, and_true, true_and, List.append_toArray, List.nil_append, List.cons_append, List.toList_toArray, Array.toList_append, Option.toArray, List.append_nil] at hA); (obtain ⟨⟨a, c, e1, o1⟩, ⟨a', c', e2, o2⟩⟩ := hA; go_simp; exact hK _ _ (Ext.rfl' _) ⟨a, c, a', c', rfl, o1, o2⟩))); (try simp only [List.nil_append, List.cons_append]))
    (refine walkI_step (NewBox w1 #[.slice none 0 0, .slice none 0 0, .slice none 0 0] 27) rfl (by simp) rfl (stab_NewBox _ _ _) ?_ ?_; (focus (intro A w' hS hA K hK; (simp only [List.map_cons, List.map_nil, knows, Is, Op.operands, Call.operands, List.lookup_cons, List.lookup_nil, Nat.reduceBEq, Bool.false_eq_true, if_false, if_true, Act.eval, Array.getD_eq_getD_getElem?, List.getElem?_toArray, List.getElem?_cons_succ, List.getElem?_cons_zero, Option.getD_some, and_true, true_and, List.append_toArray, List.nil_append, List.cons_append, List.toList_toArray, Array.toList_append, Option.toArray, List.append_nil] at hA); (have hsz : w1.heap.size ≤ w'.heap.size := hS.size; go_simp; exact hK _ _ (Ext.new _ _) ⟨_, rfl, Proofs.YtnhcplmcddlgnaaGreat.Own.new _ _ _, hsz⟩))); (try simp only [List.nil_append, List.cons_append]))
    (refine walkI_nil ?_; simp only [List.nil_append, List.cons_append, fins, Is, forall_eq, Act.put, List.setIfInBounds_toArray, List.set_cons_zero, List.set_cons_succ])
    rintro w4 hx4 v12 - v15 - v16 ⟨x1, y1, x2, y2, rfl, o1, o2⟩ v4 ⟨g4, rfl, ho, hg4⟩
    have hM4 := mem3 hM hx4 o1 o2 ho hg4
    simp only [List.cons_append, List.nil_append] at hM4
    clear hM hx4 o1 o2 ho hg4 z0 z1 z2 zl
    obtain ⟨q0, q1, q2, ql, qf⟩ := hM4.cellsF 4 rfl
    have hM5 := hM4.setT 4 rfl (.slice x1 t.cls.length y1) (.slice x2 t.vals.length y2) (.slice none 0 0)
    simp only [List.set_cons_zero, List.set_cons_succ] at hM5
    clear hM4
    go_upto_region 2 with (fail)
    generalize World.setCell _ _ _ = w5 at *
    clear q0 q1 q2 ql qf
    obtain ⟨q0, q1, q2, ql⟩ := hM5.cellsT 4 rfl
    have hO5 : OwnI g1 w5 (.slice x1 t.cls.length y1) t.cls := by rw [← hg1]; exact (hM5.ownS 2 rfl).keepB (fun _ _ => rfl) (fun _ _ => rfl) (fun _ _ h => h)
    have hsi := Lib.hid (sort_i t.cls _ g1 w5 hO5 hb1)
    clear hO5
    go_wp2_with fail
    refine hsi.out.mono ?_
    rintro e w6 ⟨rfl, hO6, hg6⟩
    have hM6 := hM5.put 2 rfl (c' := ownI (.slice x1 t.cls.length y1) (t.cls.mergeSort fun x y => decide (x ≤ y))) ((ownI _ _).mono hO6.c (noH_le H)) (fun k hk => .inl hk) (hM5.ex.grown hg6 fun k hk => (hM5.fr 2 _ rfl k hk).1) fun k hk hne => hg6.block k hk (fun e => hne e.symm)
    simp only [List.set_cons_zero, List.set_cons_succ] at hM6
    have hidd : Hid (idd (t.cls.mergeSort fun x y => decide (x ≤ y)) = clsN t.cls) := Lib.hid (idd_cls (List.mergeSort_perm _ _) ((List.pairwise_mergeSort (fun a b c h1 h2 => by simp at *; omega) (fun a b => by simp; omega) t.cls).imp (fun h => of_decide_eq_true h)))
    have hscl : (t.cls.mergeSort fun x y => decide (x ≤ y)).length = t.cls.length := List.length_mergeSort _
    generalize (t.cls.mergeSort fun x y => decide (x ≤ y)) = sc at *
    replace hscl := Lib.hid hscl
    have hM7 : Mem w H [ownI (.slice x1 t.cls.length y1) sc, boxT g1 (.slice a1 t.cls.length c1) (.slice a2 t.vals.length c2) (.slice a3 t.parts.length c3), boxT g2 (.slice none 0 0) (.slice none 0 0) (.slice none 0 0), ownV (.slice x2 t.vals.length y2) t.vals, box g4 #[.slice x1 t.cls.length y1, .slice x2 t.vals.length y2, .slice none 0 0] 27] H w6 := hM6.pick [2, 0, 1, 3, 4] (by decide)
    clear hM5 hM6 hO6 hg6 hsi q0 q1 q2 ql
    obtain ⟨q0, q1, q2, ql⟩ := hM7.cellsT 4 rfl
    have hci := Lib.hid (compactIn_c _ sc w w6 H H _ hM7 (by rw [hscl.out]; exact hb1))
    go_upto_region 3 with (fail)
    clear hM7
    go_wp2_with fail
    refine hci.out.mono ?_
    rintro e w8 ⟨v8, rfl, hM8⟩
    rw [hidd.out] at hM8
    obtain ⟨x8, y8, rfl, -⟩ := hM8.form 0 rfl
    clear hci q0 q1 q2 ql hidd hscl
    obtain ⟨q0, q1, q2, ql, qf⟩ := hM8.cellsF 4 rfl
    obtain ⟨n8, hn8⟩ : ∃ n, (clsN t.cls).length = n := ⟨_, rfl⟩
    rw [hn8] at hM8 ⊢
    replace hn8 := Lib.hid hn8
    have hM9 : Mem w H [ownI (.slice x8 n8 y8) (clsN t.cls), boxT g1 (.slice a1 t.cls.length c1) (.slice a2 t.vals.length c2) (.slice a3 t.parts.length c3), boxT g2 (.slice none 0 0) (.slice none 0 0) (.slice none 0 0), ownV (.slice x2 t.vals.length y2) t.vals, box g4 #[.slice x8 n8 y8, .slice x2 t.vals.length y2, .slice none 0 0] 27] H _ := hM8.set 4 rfl 0 (.slice x8 n8 y8)
    clear hM8
    go_upto_region 4 with (fail)
    generalize World.setCell _ _ _ = w9 at *
    clear q0 q1 q2 ql qf
    obtain ⟨q0, q1, q2, ql⟩ := hM9.cellsT 4 rfl
    have hsv := Lib.hid (sortVl_c H _ t.vals w9 hM9.ple (fun k hk => (hM9.fr 3 _ rfl k hk).2) (hM9.ok 3 _ rfl) hb2)
    go_wp2_with fail
    refine hsv.out.mono ?_
    rintro e w10 ⟨rfl, sv, hpm, hpw, hO10, hg10⟩
    have hM10 := hM9.put 3 rfl (c' := ownV (.slice x2 t.vals.length y2) sv) hO10 (fun k hk => .inl hk) (hM9.ex.grown hg10 fun k hk => (hM9.fr 3 _ rfl k hk).1) fun k hk hne => hg10.block k hk (fun e => hne e.symm)
    simp only [List.set_cons_zero, List.set_cons_succ] at hM10
    obtain ⟨hmm, hpv⟩ := vdd_vals hpm hpw
    have hsl := Lib.hid hpm.length_eq
    have hM11 : Mem w H [ownV (.slice x2 t.vals.length y2) sv, boxT g1 (.slice a1 t.cls.length c1) (.slice a2 t.vals.length c2) (.slice a3 t.parts.length c3), boxT g2 (.slice none 0 0) (.slice none 0 0) (.slice none 0 0), ownI (.slice x8 n8 y8) (clsN t.cls), box g4 #[.slice x8 n8 y8, .slice x2 t.vals.length y2, .slice none 0 0] 27] H w10 := hM10.pick [3, 1, 2, 0, 4] (by decide)
    clear hM9 hM10 hO10 hg10 hsv hpm hpw q0 q1 q2 ql
    obtain ⟨q0, q1, q2, ql⟩ := hM11.cellsT 4 rfl
    have hci := Lib.hid (compactVl_c _ sv w w10 H H _ hM11 (by rw [hsl.out]; exact hb2))
    go_upto_region 5 with (fail)
    clear hM11
    go_wp2_with fail
    refine hci.out.mono ?_
    rintro e w12 ⟨v12, rfl, hM12⟩
    have hdj := vals_adj hmm hpv
    clear hci q0 q1 q2 ql hsl hmm hpv
    generalize vdd sv = K at *
    obtain ⟨x12, y12, rfl, -⟩ := hM12.form 0 rfl
    have hdj := Lib.hid hdj
    obtain ⟨q0, q1, q2, ql, qf⟩ := hM12.cellsF 4 rfl
    have hKl : K.length ≤ 9223372036854775807 := by obtain ⟨_, _, e, h⟩ := hM12.form 0 rfl; exact h
    obtain ⟨N, hN⟩ : ∃ n, K.length = n := ⟨_, rfl⟩
    rw [hN] at hM12 hKl ⊢
    replace hN := Lib.hid hN
    have hM13 : Mem w H [ownV (.slice x12 N y12) K, boxT g1 (.slice a1 t.cls.length c1) (.slice a2 t.vals.length c2) (.slice a3 t.parts.length c3), boxT g2 (.slice none 0 0) (.slice none 0 0) (.slice none 0 0), ownI (.slice x8 n8 y8) (clsN t.cls), boxT g4 (.slice x8 n8 y8) (.slice x12 N y12) (.slice none 0 0)] H _ := hM12.set 4 rfl 1 (.slice x12 N y12)
    clear hM12
    go_upto_region 6 with (fail)
    generalize World.setCell _ _ _ = w13 at *
    clear q0 q1 q2 ql qf
    obtain ⟨q0, q1, q2, ql⟩ := hM13.cellsT 4 rfl
    have hwn : IntKind.i64.wrap ((N : Int) - 1) = (N : Int) - 1 := by rw [IntKind.wrap_i64]; omega
    go_upto_block 0 with (fail)
    have hmx : max 0 ((N : Int) - 1) = ((N - 1 : Nat) : Int) := by omega
    rw [hmx]
    clear hmx
    obtain ⟨P, hP⟩ : ∃ P, N - 1 = P := ⟨_, rfl⟩
    rw [hP]
    clear q0 q1 q2 ql
    go_wp2_with fail
    go_loopw [36] (fun i wr => ∃ k : Nat, k ≤ P ∧ i = .int .i64 k ∧ Hid (∀ i (h : i + 1 < K.length), i < k → (K[i]'(by omega)).attr ≠ (K[i + 1]).attr) ∧ Ext w13 wr) (fun i _ => P - (intOf i).toNat)
    case atStart => exact ⟨0, by omega, rfl, Lib.hid (fun i h h2 => by omega), (by with_reducible repeat (first | assumption | exact Ext.rfl' _ | exact Ext.new _ _ | refine Ext.alloc' ?_ _ | refine Ext.drew' ?_ | refine Ext.drewN' ?_ _ | (refine Ext.set' ?_ ?_ _; rotate_left; focus (first | omega | (simp; done) | (simp; omega))) | (refine Ext.then (b := ?_) ?_ ?_; rotate_left; rotate_left; assumption)))⟩
    case round =>
      obtain ⟨k, hk, rfl, hno, hx⟩ := hrel
      replace hM13 := hM13.ext hx
      by_cases hlt : k < P
      · have hk1 : k + 1 < K.length := by rw [hN.out]; omega
        obtain ⟨g, rfl, hg, gc1, hI1⟩ := vlM_row hM13 (List.getElem?_eq_getElem hk1)
        obtain ⟨g', e, -, gc0, hI0⟩ := vlM_row hM13 (List.getElem?_eq_getElem (show k < K.length by omega))
        cases e
        obtain ⟨q0, q1, q2, ql⟩ := hM13.cellsT 4 rfl
        have hyy := Lib.hid (fun (h : (K[k]'(by omega)).attr = (K[k + 1]).attr) => normT_no1 (hdj.out.2 ⟨k, hk1, h⟩))
        have hnn := Lib.hid (fun (h : (K[k]'(by omega)).attr ≠ (K[k + 1]).attr) => show ∀ i (h : i + 1 < K.length), i < k + 1 → (K[i]'(by omega)).attr ≠ (K[i + 1]).attr from fun i hi hik => by
          by_cases e : i = k
          · subst e; exact h
          · exact hno.out i hi (by omega))
        generalize K[k + 1] = v1 at *
        generalize K[k] = v0 at *
        have z0 : wr.cell? ⟨g, k * 3, none⟩ = some (.int .i64 v0.attr) := by simpa using gc0 0 _ rfl
        have z1 : wr.cell? ⟨g, (k + 1) * 3, none⟩ = some (.int .i64 v1.attr) := by simpa using gc1 0 _ rfl
        have hw1 : IntKind.i64.wrap ((k : Int) + 1) = ((k + 1 : Nat) : Int) := by rw [IntKind.wrap_i64]; omega
        have hkN : k < N := by omega
        have hkN1 : k + 1 < N := by omega
        have hki : (0 : Int) ≤ (k : Int) + 1 := by omega
        have hkj : (k : Int) + 1 < (N : Int) := by omega
        clear gc0 gc1 hI0 hI1 hk1
        go_upto_region 9 with (fail)
        by_cases he : v0.attr = v1.attr
        · have he1 : (v0.attr == v1.attr) = true := by simpa using he
          have hyy := Lib.hid (hyy.out he)
          replace he := Lib.hid he
          clear hnn
          (refine wp_region_I 14 (by kernel_rfl) (by kernel_rfl) ?_; simp only [List.toList_toArray, List.take_succ_cons, List.take_zero, List.drop_succ_cons, List.drop_zero])
          iterate 14 (refine walkI_is (u := ?_) rfl (by simp) rfl ?_ ?_; rotate_left; (focus (intro A w' hS hA K hK; (simp only [List.map_cons, List.map_nil, knows, Is, Op.operands, Call.operands, List.lookup_cons, List.lookup_nil, Nat.reduceBEq, Bool.false_eq_true, if_false, if_true, Act.eval, Array.getD_eq_getD_getElem?, List.getElem?_toArray, List.getElem?_cons_succ, List.getElem?_cons_zero, Option.getD_some, and_true, true_and, List.append_toArray, List.nil_append, List.cons_append, List.toList_toArray, Array.toList_append, Option.toArray, List.append_nil] at hA); first | fail | (obtain ⟨hSc, hSf, hSs⟩ := hS.cells; go_simp; exact hK _ (by first | exact Ext.rfl' _ | exact Ext.new _ _ | assumption)))); (try simp only [List.nil_append, List.cons_append]))
          (refine walkI_nil ?_; simp only [List.nil_append, List.cons_append, fins, Is, forall_eq, Act.put, List.setIfInBounds_toArray, List.set_cons_zero, List.set_cons_succ])
          intro w2 hx2
          replace hM13 := hM13.ext hx2
          clear q0 q1 q2 ql z0 z1 hx2 hdj hno hx
          have rz0 : _ = some (Value.slice none 0 0) := (hM13.box 2 rfl).facts.1 0
          have rz1 : _ = some (Value.slice none 0 0) := (hM13.box 2 rfl).facts.1 1
          have rz2 : _ = some (Value.slice none 0 0) := (hM13.box 2 rfl).facts.1 2
          obtain ⟨-, rzf⟩ := (hM13.box 2 rfl).facts
          have rzl := (hM13.box 2 rfl).lt
          have hM8 := hM13.setT 2 rfl (.slice none 0 0) (.slice none 0 0) (.slice none 0 0)
          simp only [List.set_cons_zero, List.set_cons_succ] at hM8
          clear hM13
          go_wp2_with fail
          generalize World.setCell _ _ _ = w9 at *
          obtain ⟨rq', -⟩ := (hM8.box 2 rfl).facts
          have rq0 : _ = some (Value.slice none 0 0) := rq' 0
          have rq1 : _ = some (Value.slice none 0 0) := rq' 1
          have rq2 : _ = some (Value.slice none 0 0) := rq' 2
          refine bodyPost_ret (v := .tuple #[.agg #[.slice none 0 0, .slice none 0 0, .slice none 0 0], .bool false]) (by simp [results, Tryz.results19, go_sem, rq0, rq1, rq2]) rfl ?_
          rw [hyy.out]
          exact ⟨rfl, hM8.ex⟩
        · have he1 : (v0.attr == v1.attr) = false := by simpa using he
          have hnn := Lib.hid (hnn.out he)
          replace he := Lib.hid he
          clear hyy
          (refine wp_region_I 14 (by kernel_rfl) (by kernel_rfl) ?_; simp only [List.toList_toArray, List.take_succ_cons, List.take_zero, List.drop_succ_cons, List.drop_zero])
          iterate 14 (refine walkI_is (u := ?_) rfl (by simp) rfl ?_ ?_; rotate_left; (focus (intro A w' hS hA K hK; (simp only [List.map_cons, List.map_nil, knows, Is, Op.operands, Call.operands, List.lookup_cons, List.lookup_nil, Nat.reduceBEq, Bool.false_eq_true, if_false, if_true, Act.eval, Array.getD_eq_getD_getElem?, List.getElem?_toArray, List.getElem?_cons_succ, List.getElem?_cons_zero, Option.getD_some, and_true, true_and, List.append_toArray, List.nil_append, List.cons_append, List.toList_toArray, Array.toList_append, Option.toArray, List.append_nil] at hA); first | fail | (obtain ⟨hSc, hSf, hSs⟩ := hS.cells; go_simp; exact hK _ (by first | exact Ext.rfl' _ | exact Ext.new _ _ | assumption)))); (try simp only [List.nil_append, List.cons_append]))
          (refine walkI_nil ?_; simp only [List.nil_append, List.cons_append, fins, Is, forall_eq, Act.put, List.setIfInBounds_toArray, List.set_cons_zero, List.set_cons_succ])
          intro w2 hx2
          have hxr : Ext w13 w2 := (by with_reducible repeat (first | assumption | exact Ext.rfl' _ | exact Ext.new _ _ | refine Ext.alloc' ?_ _ | refine Ext.drew' ?_ | refine Ext.drewN' ?_ _ | (refine Ext.set' ?_ ?_ _; rotate_left; focus (first | omega | (simp; done) | (simp; omega))) | (refine Ext.then (b := ?_) ?_ ?_; rotate_left; rotate_left; assumption)))
          clear q0 q1 q2 ql z0 z1 hM13
          go_wp2_with fail
          go_roundw
          case rel => exact ⟨k + 1, by omega, by go_num, hnn, hxr⟩
          case measure => simp [intOf]; omega
      · have hvs : Hid (valsN t.vals = some K) := Lib.hid (hdj.out.1 fun i h => hno.out i h (by have := hN.out; omega))
        clear hdj hno
        obtain ⟨z0, z1, z2, zl⟩ := hM13.cellsT 1 rfl
        clear hP hk hx hwn hKl
        have hM14 := hM13.nil mono_ThingR 3 27
        simp only [List.cons_append, List.nil_append] at hM14
        clear hM13
        go_wp2_with fail
        go_loopw [58] (fun i wr => ∃ (k r : Nat) (q : List Thing) (H3 : PH) (f : Option Addr) (h : Nat), k ≤ t.parts.length ∧ i = .int .i64 k ∧ PLe H H3 ∧ Mem w H [ownV (.slice x12 N y12) K, boxT g1 (.slice a1 t.cls.length c1) (.slice a2 t.vals.length c2) (.slice a3 t.parts.length c3), boxT g2 (.slice none 0 0) (.slice none 0 0) (.slice none 0 0), ownI (.slice x8 n8 y8) (clsN t.cls), boxT g4 (.slice x8 n8 y8) (.slice x12 N y12) (.slice f r h), ownT (.slice f r h) q] H3 wr ∧ Hid (r = q.length) ∧ Hid (normTs (t.parts.take k) = some q)) (fun i _ => t.parts.length - (intOf i).toNat)
        case atStart => exact ⟨0, 0, [], H, none, 0, by omega, rfl, PLe.refl _, hM14, Lib.hid rfl, Lib.hid rfl⟩
        case round =>
          clear hM14 z0 z1 z2 zl
          obtain ⟨k, r, q, H3, f, hc9, hk, rfl, hH3, hM, hrq, hnq⟩ := hrel
          by_cases hlt : k < t.parts.length
          · obtain ⟨kb, ko, k1, n1, k2, n2, k3, n3, ek, e0, e1, e2, hE, el⟩ := ThingsR.atH (hp.mono mono_ThingR hH3) hM.ple k hlt
            cases ek
            have hst := Lib.hid (fun y => normTs_step hlt hnq.out (y := y))
            have hstop := Lib.hid (normTs_stop hlt)
            have hpm := List.getElem_mem hlt
            have hpb := Thing.part_le hpm
            have hql := Lib.hid (normTs_len hnq.out)
            generalize t.parts[k] = x at *
            go_upto_region 15 with (fail)
            have ho := Proofs.YtnhcplmcddlgnaaGreat.Own.new wr #[.slice k1 x.cls.length n1, .slice k2 x.vals.length n2, .slice k3 x.parts.length n3] 27
            replace hM := hM.ext (Ext.new wr (.cells #[.slice k1 x.cls.length n1, .slice k2 x.vals.length n2, .slice k3 x.parts.length n3] 27))
            clear e0 e1 e2 el
            generalize World.alloc _ _ = w3 at *
            generalize wr.heap.size = g7 at *
            have e0 : w3.cell? ⟨g7, 0, none⟩ = some (.slice k1 x.cls.length n1) := ho.facts.1 0
            have e1 : w3.cell? ⟨g7, 1, none⟩ = some (.slice k2 x.vals.length n2) := ho.facts.1 1
            have e2 : w3.cell? ⟨g7, 2, none⟩ = some (.slice k3 x.parts.length n3) := ho.facts.1 2
            have el := ho.lt
            have hcall := Lib.hid (HI.out x hpm H3 _ w3 hM.ple hE (by omega))
            clear ho hE
            cases hpn : normT x with
            | none =>
              rw [hpn] at hcall
              have hno := Lib.hid (normT_no2 (hstop.out hpn))
              clear hpn hst hstop
              go_wp2_with fail
              refine hcall.out.mono ?_
              rintro e w5 ⟨rfl, hx5⟩
              replace hM := hM.ext hx5
              clear e0 e1 e2 el hcall hx5
              go_upto_region 17 with (fail)
              have hx6 : Ext w5 _ := Ext.new w5 (.cells #[.slice none 0 0, .slice none 0 0, .slice none 0 0] 27)
              replace hM := hM.ext hx6
              generalize World.alloc _ _ = w6 at *
              clear hx6
              have rz0 : _ = some (Value.slice none 0 0) := (hM.box 2 rfl).facts.1 0
              have rz1 : _ = some (Value.slice none 0 0) := (hM.box 2 rfl).facts.1 1
              have rz2 : _ = some (Value.slice none 0 0) := (hM.box 2 rfl).facts.1 2
              obtain ⟨-, rzf⟩ := (hM.box 2 rfl).facts
              have rzl := (hM.box 2 rfl).lt
              have hM8 := hM.setT 2 rfl (.slice none 0 0) (.slice none 0 0) (.slice none 0 0)
              simp only [List.set_cons_zero, List.set_cons_succ] at hM8
              clear hM
              go_wp2_with fail
              generalize World.setCell _ _ _ = w9 at *
              obtain ⟨rq', -⟩ := (hM8.box 2 rfl).facts
              have rq0 : _ = some (Value.slice none 0 0) := rq' 0
              have rq1 : _ = some (Value.slice none 0 0) := rq' 1
              have rq2 : _ = some (Value.slice none 0 0) := rq' 2
              refine bodyPost_ret (v := .tuple #[.agg #[.slice none 0 0, .slice none 0 0, .slice none 0 0], .bool false]) (by simp [results, Tryz.results19, go_sem, rq0, rq1, rq2]) rfl ?_
              rw [hno.out]
              exact ⟨rfl, hM8.ex⟩
            | some u =>
              rw [hpn] at hcall
              have hst := Lib.hid (hst.out u hpn)
              clear hpn hstop
              go_wp2_with fail
              refine hcall.out.mono ?_
              rintro e w5 ⟨cs, rfl, hU, hx5⟩
              obtain ⟨f1, h1, f2, h2, f3, h3, rfl, -⟩ := hU.form
              have hH5 := hH3.trans (ple_up hM.ple (w' := w5))
              replace hM := hM.up hx5
              generalize up H3 w3 w5 = H5 at *
              clear e0 e1 e2 el hcall hx5
              go_upto_region 18 with (fail)
              have ho := Proofs.YtnhcplmcddlgnaaGreat.Own.new w5 #[.slice f1 u.cls.length h1, .slice f2 u.vals.length h2, .slice f3 u.parts.length h3] 27
              replace hM := hM.ext (Ext.new w5 (.cells #[.slice f1 u.cls.length h1, .slice f2 u.vals.length h2, .slice f3 u.parts.length h3] 27))
              generalize World.alloc _ _ = w6 at *
              generalize w5.heap.size = g8 at *
              have e0 : w6.cell? ⟨g8, 0, none⟩ = some (.slice f1 u.cls.length h1) := ho.facts.1 0
              have e1 : w6.cell? ⟨g8, 1, none⟩ = some (.slice f2 u.vals.length h2) := ho.facts.1 1
              have e2 : w6.cell? ⟨g8, 2, none⟩ = some (.slice f3 u.parts.length h3) := ho.facts.1 2
              have el := ho.lt
              obtain ⟨q0, q1, q2, ql⟩ := hM.cellsT 4 rfl
              have hM7 := hM.ext (Ext.new w6 (.cells #[.slice f1 u.cls.length h1, .slice f2 u.vals.length h2, .slice f3 u.parts.length h3] 27))
              have hS := Src.lit1 (E := ThingR) (H := H5) (w := w6.alloc (.cells #[.slice f1 u.cls.length h1, .slice f2 u.vals.length h2, .slice f3 u.parts.length h3] 27)) (b := w6.heap.size) (sz := 3) hU rfl (fun j => by rw [(Proofs.YtnhcplmcddlgnaaGreat.Own.new w6 #[.slice f1 u.cls.length h1, .slice f2 u.vals.length h2, .slice f3 u.parts.length h3] 27).facts.1 j]; simp)
              have hql2 : Hid (q.length + 1 ≤ 1000001) := Lib.hid (by have := hql.out; rw [List.length_take] at this; omega)
              clear ho hM
              go_wp2_with (first | (at_builtin; refine wpList_append_M 5 rfl _ _ 23 rfl Tryz.underlying23 infoThing rfl rfl rfl hM7 rfl hS one_ThingR (by have := hql2.out; simp only [List.length_singleton]; omega) (by have := hql2.out; simp only [List.length_singleton]; omega) ?c5))
              case c5 =>
              intro v' w' hM8
              try simp only [List.set_cons_zero, List.set_cons_succ] at hM8
              clear hM7 hS e0 e1 e2 el q0 q1 q2 ql
              obtain ⟨na, nc, rfl, -⟩ := hM8.form 5 rfl
              obtain ⟨r', hr'⟩ : ∃ r', (q ++ [u]).length = r' := ⟨_, rfl⟩
              rw [hr'] at hM8 ⊢
              obtain ⟨q0, q1, q2, ql, qf⟩ := hM8.cellsF 4 rfl
              go_wp2_with fail
              go_roundw
              case rel => exact ⟨k + 1, r', q ++ [u], H5, na, nc, by omega, by go_num, hH5, hM8.set 4 rfl 2 (.slice na r' nc), Lib.hid hr'.symm, hst⟩
              case measure => simp [intOf]; omega
          · obtain rfl : k = t.parts.length := by omega
            rw [List.take_length] at hnq
            have hyes := Lib.hid (normT_yes hvs.out hnq.out)
            have hql : q.length ≤ 1000000 := by rw [normTs_len hnq.out]; exact hb3
            have hM9 : Mem w H [ownT (.slice f r hc9) q, ownV (.slice x12 N y12) K, boxT g1 (.slice a1 t.cls.length c1) (.slice a2 t.vals.length c2) (.slice a3 t.parts.length c3), boxT g2 (.slice none 0 0) (.slice none 0 0) (.slice none 0 0), ownI (.slice x8 n8 y8) (clsN t.cls), boxT g4 (.slice x8 n8 y8) (.slice x12 N y12) (.slice f r hc9)] H3 wr := hM.pick [5, 0, 1, 2, 3, 4] (by decide)
            have hss := Lib.hid (sortStable_T cmpT ordT ThingR mono_ThingR (fun H cs x => one_ThingR cs x) 31 _ q w wr H H3 _ hM9 (fun w' cs ds x y hl hx hy => compare_c x y cs ds w' (mono_ThingR _ _ _ _ hl hx) (mono_ThingR _ _ _ _ hl hy)) (fun args w => enterFn Tryz.func31 rfl rfl args w) hql)
            obtain ⟨q0, q1, q2, ql⟩ := hM.cellsT 4 rfl
            clear hM hM9 hp hvs hnq
            have hlt := Lib.hid hlt
            go_wp2_with fail
            refine hss.out.mono ?_
            rintro e w10 ⟨rfl, hM10⟩
            clear hss q0 q1 q2 ql
            obtain ⟨q0, q1, q2, ql⟩ := hM10.cellsT 5 rfl
            obtain ⟨z0, z1, z2, zl, zf⟩ := hM10.cellsF 3 rfl
            have hM8 := hM10.setT 3 rfl (.slice x8 n8 y8) (.slice x12 N y12) (.slice f r hc9)
            simp only [List.set_cons_zero, List.set_cons_succ] at hM8
            clear hM10
            go_wp2_with fail
            generalize World.setCell _ _ _ = w9 at *
            obtain ⟨rq0, rq1, rq2, -⟩ := hM8.cellsT 3 rfl
            refine bodyPost_ret (v := .tuple #[.agg #[.slice x8 n8 y8, .slice x12 N y12, .slice f r hc9], .bool true]) (by simp [results, Tryz.results19, go_sem, rq0, rq1, rq2]) rfl ?_
            rw [hyes.out]
            exact ⟨[_, _, _], rfl, hM8.thing 4 1 0 rfl rfl rfl, hM8.ex⟩
end Go.Proofs.YtnhcplmcddlgnaaGreat
namespace Go.Proofs.YtnhcplmcddlgnaaGreat
open Go.RowKit
set_option linter.unusedSimpArgs false
set_option linter.unusedVariables false
section
variable {α : Type} {E : PH → List Value → α → Prop} {sz : Nat} {h : PH} {b : Nat}
theorem RowRep.takeK : ∀ {xs : List α} {o : Nat} (k : Nat), RowRep h E sz b o xs → RowRep h E sz b o (xs.take k)
  | _, _, 0, _ => by rw [List.take_zero]; trivial
  | [], _, k + 1, _ => by rw [List.take_nil]; trivial
  | x :: xs, o, k + 1, hr => ⟨hr.1, RowRep.takeK k hr.2⟩
theorem RowRep.dropK : ∀ {xs : List α} {o : Nat} (k : Nat), RowRep h E sz b o xs → RowRep h E sz b (o + k * sz) (xs.drop k)
  | [], _, k, _ => by rw [List.drop_nil]; trivial
  | x :: xs, _, 0, hr => by rw [Nat.zero_mul, Nat.add_zero]; exact hr
  | x :: xs, o, k + 1, hr => by
    have := RowRep.dropK k hr.2
    rw [List.drop_succ_cons, show o + (k + 1) * sz = o + sz + k * sz by rw [Nat.add_mul]; omega]
    exact this
theorem SliceRep.takeK {a : Option Addr} {n c : Nat} {l : List α} (hr : SliceRep E sz h (.slice a n c) l) (k c' : Nat) (hk : k ≤ l.length) (h1 : k ≤ c') (h2 : c' ≤ c) : SliceRep E sz h (.slice a k c') (l.take k) := by
  obtain ⟨a', c', h1, h2, h3, h4⟩ := hr
  cases h1
  refine ⟨_, _, by rw [List.length_take, Nat.min_eq_left hk], by rw [List.length_take, Nat.min_eq_left hk]; omega, by omega, ?_⟩
  rcases h4 with rfl | ⟨b, o, h6, h5⟩
  · exact .inl (by simp)
  · exact .inr ⟨b, o, h6, h5.takeK k⟩
theorem SliceRep.dropK {b' o n c : Nat} {l : List α} (hr : SliceRep E sz h (.slice (some ⟨b', o, none⟩) n c) l) (k : Nat) (hk : k < l.length) : SliceRep E sz h (.slice (some ⟨b', o + k * sz, none⟩) (l.length - k) (c - k)) (l.drop k) := by
  obtain ⟨a', c', h1, h2, h3, h4⟩ := hr
  cases h1
  refine ⟨_, c - k, by rw [List.length_drop], by rw [List.length_drop]; omega, by omega, ?_⟩
  rcases h4 with rfl | ⟨b, o, h6, h5⟩
  · exact .inl (by simp)
  · cases h6
    exact .inr ⟨_, _, rfl, h5.dropK k⟩
theorem SliceRep.noneK {a : Option Addr} {n c : Nat} (hn : n = 0) (hc : c ≤ maxLen) : SliceRep E sz h (.slice a n c) ([] : List α) := by subst hn; exact ⟨a, c, rfl, Nat.zero_le _, hc, .inl rfl⟩
theorem SliceRep.capK {a : Option Addr} {n c : Nat} {l : List α} (hr : SliceRep E sz h (.slice a n c) l) : l.length ≤ c ∧ c ≤ maxLen := by
  obtain ⟨a', c', h1, h2, h3, h4⟩ := hr
  cases h1; exact ⟨h2, h3⟩
end
end Go.Proofs.YtnhcplmcddlgnaaGreat
namespace Go.Proofs.YtnhcplmcddlgnaaGreat
set_option linter.unusedSimpArgs false
set_option linter.unusedVariables false
theorem putI_drop (n : Int) : ∀ (l : List Int) (k : Nat), (∀ j x, l[j]? = some x → j < k → x < n) → putI n l = l.take k ++ putI n (l.drop k)
  | l, 0, _ => by simp
  | [], k + 1, _ => by simp
  | x :: xs, k + 1, h => by
    have h0 := h 0 x rfl (by omega)
    rw [putI, if_pos h0, List.take_succ_cons, List.drop_succ_cons, putI_drop n xs k (fun j y hj hk => h (j + 1) y hj (by omega))]; rfl
theorem putI_end {n : Int} {l : List Int} {k : Nat} (h : ∀ j x, l[j]? = some x → j < k → x < n) (hk : k = l.length) : putI n l = l.take k ++ [n] ++ l.drop k := by
  rw [putI_drop n l k h, hk, List.drop_length]; simp [putI]
theorem putI_at {n : Int} {l : List Int} {k : Nat} (h : ∀ j x, l[j]? = some x → j < k → x < n) {x : Int} (hk : l[k]? = some x) (hn : ¬ x < n) (hne : x ≠ n) : putI n l = l.take k ++ [n] ++ l.drop k := by
  obtain ⟨hk1, rfl⟩ := List.getElem?_eq_some_iff.1 hk
  rw [putI_drop n l k h, List.drop_eq_getElem_cons hk1, putI, if_neg hn, if_neg hne]; simp
theorem putI_is {n : Int} {l : List Int} {k : Nat} (h : ∀ j x, l[j]? = some x → j < k → x < n) {x : Int} (hk : l[k]? = some x) (he : x = n) : putI n l = l := by
  obtain ⟨hk1, rfl⟩ := List.getElem?_eq_some_iff.1 hk
  rw [putI_drop n l k h, List.drop_eq_getElem_cons hk1, putI, if_neg (by omega), if_pos he, ← List.drop_eq_getElem_cons hk1, List.take_append_drop]
theorem putV_drop (v : Val) : ∀ (l : List Val) (k : Nat), (∀ j x, l[j]? = some x → j < k → x.attr < v.attr) → putV v l = (putV v (l.drop k)).map (l.take k ++ ·)
  | l, 0, _ => by cases h : putV v l <;> simp [h]
  | [], k + 1, _ => by simp [putV]
  | x :: xs, k + 1, h => by
    have h0 := h 0 x rfl (by omega)
    rw [putV, if_pos h0, List.take_succ_cons, List.drop_succ_cons, putV_drop v xs k (fun j y hj hk => h (j + 1) y hj (by omega))]
    cases putV v (xs.drop k) <;> simp
theorem putV_end {v : Val} {l : List Val} {k : Nat} (h : ∀ j x, l[j]? = some x → j < k → x.attr < v.attr) (hk : k = l.length) : putV v l = some (l.take k ++ [v] ++ l.drop k) := by
  rw [putV_drop v l k h, hk, List.drop_length]; simp [putV]
theorem putV_at {v : Val} {l : List Val} {k : Nat} (h : ∀ j x, l[j]? = some x → j < k → x.attr < v.attr) {x : Val} (hk : l[k]? = some x) (hn : ¬ x.attr < v.attr) (hne : x.attr ≠ v.attr) : putV v l = some (l.take k ++ [v] ++ l.drop k) := by
  obtain ⟨hk1, rfl⟩ := List.getElem?_eq_some_iff.1 hk
  rw [putV_drop v l k h, List.drop_eq_getElem_cons hk1, putV, if_neg hn, if_neg hne]; simp
theorem putV_is {v : Val} {l : List Val} {k : Nat} (h : ∀ j x, l[j]? = some x → j < k → x.attr < v.attr) {x : Val} (hk : l[k]? = some x) (he : x.attr = v.attr) : putV v l = if x = v then some l else none := by
  obtain ⟨hk1, rfl⟩ := List.getElem?_eq_some_iff.1 hk
  rw [putV_drop v l k h, List.drop_eq_getElem_cons hk1, putV, if_neg (by omega), if_pos he]
  split
  · rw [Option.map_some, ← List.drop_eq_getElem_cons hk1, List.take_append_drop]
  · rfl
theorem insR_drop {α : Type} (c : α → α → Int) (x : α) : ∀ (l : List α) (k : Nat), (∀ j y, l[j]? = some y → j < k → ¬ c x y < 0) → insR c x l = l.take k ++ insR c x (l.drop k)
  | l, 0, _ => by simp
  | [], k + 1, _ => by simp
  | y :: ys, k + 1, h => by
    have h0 := h 0 y rfl (by omega)
    rw [insR, if_neg h0, List.take_succ_cons, List.drop_succ_cons, insR_drop c x ys k (fun j z hj hk => h (j + 1) z hj (by omega))]; rfl
theorem insR_end {α : Type} {c : α → α → Int} {x : α} {l : List α} {k : Nat} (h : ∀ j y, l[j]? = some y → j < k → ¬ c x y < 0) (hk : k = l.length) : insR c x l = l.take k ++ [x] ++ l.drop k := by
  rw [insR_drop c x l k h, hk, List.drop_length]; simp [insR]
theorem insR_at {α : Type} {c : α → α → Int} {x : α} {l : List α} {k : Nat} (h : ∀ j y, l[j]? = some y → j < k → ¬ c x y < 0) {y : α} (hk : l[k]? = some y) (hn : c x y < 0) : insR c x l = l.take k ++ [x] ++ l.drop k := by
  obtain ⟨hk1, rfl⟩ := List.getElem?_eq_some_iff.1 hk
  rw [insR_drop c x l k h, List.drop_eq_getElem_cons hk1, insR, if_pos hn]; simp
end Go.Proofs.YtnhcplmcddlgnaaGreat
namespace Go.Proofs.YtnhcplmcddlgnaaGreat
open Go.RowKit Go.Shelf
set_option linter.unusedSimpArgs false
set_option linter.unusedVariables false
/-- a list of numbers that reads as l comes back -/
def IntsQ (w : World) (H : PH) (l : List Int) (e : Ending) (w' : World) : Prop := ∃ v, e = .returned v ∧ Ext w w' ∧ IntsR (up H w w') v l
set_option maxRecDepth 100000 in
set_option maxHeartbeats 4000000 in
theorem rputI_c {H : PH} (l : List Int) (n : Int) (v : Value) (w : World) (hl : PLe H (ph w)) (hr : IntsR H v l) (hn : I64 n) (hll : l.length ≤ 400000) :
    Calls Tryz.prog 43 #[v, .int .i64 n] w (IntsQ w H (putI n l)) := by
  obtain ⟨a, c, rfl, -, hr⟩ := hr.form
  obtain ⟨hc0, hc1⟩ := SliceRep.capK hr
  go_enter Tryz.func43, Tryz.ntmps43
  go_wp2_with fail
  go_loopw [5] (fun i wr => ∃ k : Nat, k ≤ l.length ∧ i = .int .i64 k ∧ Hid (∀ j x, l[j]? = some x → j < k → x < n) ∧ Ext w wr) (fun i _ => l.length - (intOf i).toNat)
  case atStart => exact ⟨0, by omega, rfl, Lib.hid (fun j x _ h => by omega), (by with_reducible repeat (first | assumption | exact Ext.rfl' _ | exact Ext.new _ _ | refine Ext.alloc' ?_ _ | refine Ext.drew' ?_ | refine Ext.drewN' ?_ _ | (refine Ext.set' ?_ ?_ _; rotate_left; focus (first | omega | (simp; done) | (simp; omega))) | (refine Ext.then (b := ?_) ?_ ?_; rotate_left; rotate_left; assumption)))⟩
  case round =>
    obtain ⟨k, hkl2, rfl, hlt, hx⟩ := hrel
    by_cases hk3 : k < l.length
    · have b0 : decide (k < l.length) = true := by simp; omega
      obtain ⟨kb, ko, ek, z0, hE, zl⟩ := IntsR.at (hr.mono mono_IntR (hl.trans hx.ple)) k hk3
      cases ek
      have hxl : l[k]? = some l[k] := List.getElem?_eq_getElem hk3
      generalize l[k] = x at *
      replace hxl := Lib.hid hxl
      by_cases hcl : x < n
      · have b1 : decide (x < n) = true := by simpa using hcl
        have hcl := Lib.hid hcl
        go_wp2_with fail
        go_roundw
        case rel =>
          refine ⟨k + 1, by omega, by go_num, Lib.hid fun j y hj hjk => ?_, hx⟩
          by_cases e : j = k
          · subst e; rw [hxl.out] at hj; cases hj; exact hcl.out
          · exact hlt.out j y hj (by omega)
        case measure => simp [intOf]; omega
      · have b1 : decide (x < n) = false := by simpa using hcl
        by_cases he : x = n
        · have b2 : (x == n) = true := by simpa using he
          have hins : Hid (putI n l = l) := Lib.hid (putI_is hlt.out hxl.out he)
          have hrr := hr.mono mono_IntR (ple_up (w' := wr) hl)
          replace he := Lib.hid he
          go_wp2_with fail
          go_ret
          exact ⟨_, rfl, hx, by rw [hins.out]; exact hrr⟩
        · have b2 : (x == n) = false := by simpa using he
          have hcne : ¬ c = k := by omega
          have hrep := Lib.hid (by have := SliceRep.dropK hr k hk3; rwa [Nat.mul_one] at this : SliceRep IntR 1 H _ (l.drop k))
          have hins : Hid (putI n l = l.take k ++ [n] ++ l.drop k) := Lib.hid (putI_at hlt.out hxl.out hcl he)
          have hN := ((Mem.start w H hl).ext hx).nil mono_IntR 1 3
          simp only [List.cons_append, List.nil_append] at hN
          have htk := Lib.hid (show (l.take k).length = k by rw [List.length_take]; omega)
          have hdk := Lib.hid (show (l.drop k : List Int).length = l.length - k by rw [List.length_drop])
          have hS1 := Src.ofRep (SliceRep.takeK hr k c hkl2 (by omega) (Nat.le_refl c)) hN.ple
          have hcz : (k : Int) ≤ (c : Int) := by omega
          have hwl : IntKind.i64.wrap ((l.length : Int) - (k : Int)) = (l.length : Int) - (k : Int) := by rw [IntKind.wrap_i64]; omega
          clear hlt
          go_wp2_with (first | (at_builtin; refine wpList_append_M 0 rfl _ _ 22 rfl Tryz.underlying22 infoIn rfl rfl rfl hN rfl hS1 one_IntR (by simp only [List.length_nil, htk.out]; omega) (by simp only [List.length_nil, htk.out]; omega) ?c5))
          case c5 =>
          intro v5 w5 hM5
          try simp only [List.set_cons_zero, List.set_cons_succ, List.nil_append] at hM5
          obtain ⟨a5, k5, rfl, -⟩ := hM5.form 0 rfl
          clear hN hS1
          have hM6 := hM5.ext (Ext.new w5 (.cells #[.int .i64 n] 3))
          have hS2 := Src.lit1 (H := H) (E := IntR) (sz := 1) (w := w5.alloc (.cells #[.int .i64 n] 3)) (b := w5.heap.size) (x := n) (cs := [.int .i64 n]) ⟨rfl, hn⟩ rfl (fun j => by rw [(Proofs.YtnhcplmcddlgnaaGreat.Own.new _ _ _).facts.1 j]; simp)
          clear hM5
          go_wp2_with (first | (at_builtin; refine wpList_append_M 0 rfl _ _ 22 rfl Tryz.underlying22 infoIn rfl rfl rfl hM6 rfl hS2 one_IntR (by simp only [List.length_singleton, htk.out]; omega) (by simp only [List.length_singleton, htk.out]; omega) ?d5))
          case d5 =>
          intro v7 w7 hM7
          try simp only [List.set_cons_zero, List.set_cons_succ, List.nil_append] at hM7
          obtain ⟨a7, k7, rfl, -⟩ := hM7.form 0 rfl
          have hS3 := Src.ofRep hrep.out hM7.ple
          clear hM6 hS2
          go_wp2_with (first | (at_builtin; refine wpList_append_M 0 rfl _ _ 22 rfl Tryz.underlying22 infoIn rfl rfl rfl hM7 rfl hS3 one_IntR (by simp only [List.length_append, List.length_singleton, htk.out, hdk.out]; omega) (by simp only [List.length_append, List.length_singleton, htk.out, hdk.out]; omega) ?e5))
          case e5 =>
          intro v9 w9 hM9
          try simp only [List.set_cons_zero, List.set_cons_succ, List.nil_append] at hM9
          obtain ⟨a9, k9, rfl, -⟩ := hM9.form 0 rfl
          obtain ⟨H6, hl6, hM10, hR6⟩ := hM9.freezeS 0 rfl
          go_wp2_with fail
          go_ret
          exact ⟨_, rfl, hM9.ex, by rw [hins.out, List.append_assoc]; exact hR6.mono mono_IntR hM10.ub⟩
    · have b0 : decide (k < l.length) = false := by simp; omega
      have hkl : l.length = k := by omega
      have hins : Hid (putI n l = l.take k ++ [n] ++ ([] : List Int)) := Lib.hid (by have h := putI_end hlt.out (show k = l.length by omega); rwa [List.drop_eq_nil_of_le (by omega)] at h)
      have hN := ((Mem.start w H hl).ext hx).nil mono_IntR 1 3
      simp only [List.cons_append, List.nil_append] at hN
      have htk := Lib.hid (show (l.take k).length = k by rw [List.length_take]; omega)
      have hdk := Lib.hid (show (([] : List Int) : List Int).length = l.length - k by (simp; omega))
      have hS1 := Src.ofRep (SliceRep.takeK hr k c hkl2 (by omega) (Nat.le_refl c)) hN.ple
      have hcz : (k : Int) ≤ (c : Int) := by omega
      have hwl : IntKind.i64.wrap ((l.length : Int) - (k : Int)) = (l.length : Int) - (k : Int) := by rw [IntKind.wrap_i64]; omega
      clear hlt
      go_wp2_with (first | (at_builtin; refine wpList_append_M 0 rfl _ _ 22 rfl Tryz.underlying22 infoIn rfl rfl rfl hN rfl hS1 one_IntR (by simp only [List.length_nil, htk.out]; omega) (by simp only [List.length_nil, htk.out]; omega) ?c5))
      case c5 =>
      intro v5 w5 hM5
      try simp only [List.set_cons_zero, List.set_cons_succ, List.nil_append] at hM5
      obtain ⟨a5, k5, rfl, -⟩ := hM5.form 0 rfl
      clear hN hS1
      have hM6 := hM5.ext (Ext.new w5 (.cells #[.int .i64 n] 3))
      have hS2 := Src.lit1 (H := H) (E := IntR) (sz := 1) (w := w5.alloc (.cells #[.int .i64 n] 3)) (b := w5.heap.size) (x := n) (cs := [.int .i64 n]) ⟨rfl, hn⟩ rfl (fun j => by rw [(Proofs.YtnhcplmcddlgnaaGreat.Own.new _ _ _).facts.1 j]; simp)
      clear hM5
      go_wp2_with (first | (at_builtin; refine wpList_append_M 0 rfl _ _ 22 rfl Tryz.underlying22 infoIn rfl rfl rfl hM6 rfl hS2 one_IntR (by simp only [List.length_singleton, htk.out]; omega) (by simp only [List.length_singleton, htk.out]; omega) ?d5))
      case d5 =>
      intro v7 w7 hM7
      try simp only [List.set_cons_zero, List.set_cons_succ, List.nil_append] at hM7
      obtain ⟨a7, k7, rfl, -⟩ := hM7.form 0 rfl
      have hS3 := Lib.hid (fun x n' y (h1 : n' = 0) (h2 : y ≤ maxLen) => Src.ofRep (SliceRep.noneK (E := IntR) (sz := 1) (h := H) (a := x) h1 h2) hM7.ple)
      clear hM6 hS2
      by_cases hck : c = k
      · skip
        go_wp2_with (first | (at_builtin; refine wpList_append_M 0 rfl _ _ 22 rfl Tryz.underlying22 infoIn rfl rfl rfl hM7 rfl (hS3.out _ _ _ (by omega) (by omega)) one_IntR (by simp only [List.length_append, List.length_singleton, htk.out, hdk.out]; omega) (by simp only [List.length_append, List.length_singleton, htk.out, hdk.out]; omega) ?e5))
        case e5 =>
        intro v9 w9 hM9
        try simp only [List.set_cons_zero, List.set_cons_succ, List.nil_append] at hM9
        obtain ⟨a9, k9, rfl, -⟩ := hM9.form 0 rfl
        obtain ⟨H6, hl6, hM10, hR6⟩ := hM9.freezeS 0 rfl
        go_wp2_with fail
        go_ret
        exact ⟨_, rfl, hM9.ex, by rw [hins.out, List.append_assoc]; exact hR6.mono mono_IntR hM10.ub⟩
      · skip
        go_wp2_with (first | (at_builtin; refine wpList_append_M 0 rfl _ _ 22 rfl Tryz.underlying22 infoIn rfl rfl rfl hM7 rfl (hS3.out _ _ _ (by omega) (by omega)) one_IntR (by simp only [List.length_append, List.length_singleton, htk.out, hdk.out]; omega) (by simp only [List.length_append, List.length_singleton, htk.out, hdk.out]; omega) ?e5))
        case e5 =>
        intro v9 w9 hM9
        try simp only [List.set_cons_zero, List.set_cons_succ, List.nil_append] at hM9
        obtain ⟨a9, k9, rfl, -⟩ := hM9.form 0 rfl
        obtain ⟨H6, hl6, hM10, hR6⟩ := hM9.freezeS 0 rfl
        go_wp2_with fail
        go_ret
        exact ⟨_, rfl, hM9.ex, by rw [hins.out, List.append_assoc]; exact hR6.mono mono_IntR hM10.ub⟩
end Go.Proofs.YtnhcplmcddlgnaaGreat
