/- Lemmas for NI, part 16: the stable sort: stableCmpFunc and SortStableFunc (text of things, and more. -/
import Derived.Test.YtabajghokhfmhaaGreatNI00
import Derived.Test.YtabajghokhfmhaaGreatNI01
import Derived.Test.YtabajghokhfmhaaGreatNI09
import Derived.Test.YtabajghokhfmhaaGreatNI10
import Derived.Test.YtabajghokhfmhaaGreatNI11
import Derived.Test.YtabajghokhfmhaaGreatNI12
import Derived.Test.YtabajghokhfmhaaGreatNI13
import Derived.Test.YtabajghokhfmhaaGreatNI14
set_option linter.unusedSimpArgs false
set_option linter.unusedVariables false
namespace Go.Proofs.YtabajghokhfmhaaGreat
open Go.RowKit Go.Shelf
set_option maxRecDepth 100000 in
set_option maxHeartbeats 4000000 in
theorem stab_N {α : Type} (c : α → α → Int) (hc : Ordr c) (E : PH → List Value → α → Prop) (hm : Mono E) (hone : ∀ H cs x, E H cs x → ∀ u ∈ cs, u.oneCell' = true) (fid g N cap : Nat) (xs : List α) (w0 w : World) (H0 H : PH) (LB : List Chunk)
    (hM : Mem w0 H0 (own hm 1 3 (.slice (some ⟨g, 0, none⟩) N cap) xs :: LB) H w) (hf : HCmp1 E H c fid) (hfn : ∀ args w, (callFunc fid args).run Tryz.prog w = .ok (.enter fid args) w)
    (hN : xs.length = N) (hN6 : N ≤ 1000000) :
    Calls Tryz.prog 234 #[.slice (some ⟨g, 0, none⟩) N cap, .int .i64 N, .func (.func fid) #[] #[]] w
      (UnitP fun w' => Mem w0 H0 (own hm 1 3 (.slice (some ⟨g, 0, none⟩) N cap) (stS c xs) :: LB) H w') := by
  have hO : (tag xs).length = N := by rw [← hN]; unfold tag; exact List.length_zipIdx
  have hup := tag_up xs
  have hout : Hid (∀ C : List (α × Nat), InO c C → C.Perm (tag xs) → C.map Prod.fst = stS c xs) := Lib.hid fun C h1 h2 => stS_of hc h1 h2
  have hst : Mem w0 H0 (own hm 1 3 (.slice (some ⟨g, 0, none⟩) N cap) ((tag xs).map Prod.fst) :: LB) H w := by rw [tag_fst]; exact hM
  generalize tag xs = O at *
  have HF := Lib.hid hf; clear hf hM hN
  replace hO := Lib.hid hO
  replace hup := Lib.hid hup
  replace hst := Lib.hid hst
  go_enter Tryz.func234, Tryz.ntmps234
  go_wp2_with fail
  go_loopw [7, 8] (fun va vb wr => ∃ (k A0 : Nat) (C : List (α × Nat)), va = .int .i64 (A0 : Int) ∧ vb = .int .i64 ((A0 + 20 : Nat) : Int) ∧ A0 ≤ N ∧ Hid (A0 = k * 20 ∧ Ps c 20 k C O O) ∧ Mem w0 H0 (own hm 1 3 (.slice (some ⟨g, 0, none⟩) N cap) (C.map Prod.fst) :: LB) H wr) (fun va _ _ => N - (intOf va).toNat)
  case atStart => exact ⟨0, 0, O, rfl, by go_num, by omega, Lib.hid ⟨rfl, Ps.start rfl⟩, hst.out⟩
  case round =>
    clear hst
    obtain ⟨k, A0, C, rfl, rfl, hAN, hP, hM⟩ := hrel
    obtain ⟨hk, hPs⟩ := hP.out
    have hCl : C.length = N := by rw [hPs.1]; exact hO.out
    have hdr : C.drop A0 = O.drop A0 := by rw [hk]; exact hPs.2.2.2
    have lP : (C.take A0).length = A0 := by rw [List.length_take]; omega
    by_cases hlt : A0 + 20 ≤ N
    · have hd1 : decide (A0 + 20 ≤ N) = true := decide_eq_true hlt
      have hd2 : decide ((A0 : Int) + 20 ≤ (N : Int)) = true := by simp; omega
      have hS : sg 20 C k = sg 20 O k := by unfold sg; rw [← hk, hdr]
      have hsl : (sg 20 O k).length = 20 := by rw [sg_len, hO.out, ← hk]; omega
      have hsplit : C.take A0 ++ sg 20 O k ++ C.drop (A0 + 20) = C := by
        rw [← hS, List.append_assoc, show A0 + 20 = (k + 1) * 20 by omega, ← sg_rest, ← hk, List.take_append_drop]
      have hI := insSort_N c hc E hm hone fid g N cap A0 (A0 + 20) (C.take A0) (sg 20 O k) (C.drop (A0 + 20)) w0 wr H0 H LB (by rw [hsplit]; exact hM) HF.out hfn (by rw [hsplit]; exact hCl) lP (by rw [lP, hsl]) hN6 (sg_up hup.out)
      have hnx : Hid (∀ S', InO c S' → S'.Perm (sg 20 O k) → Ps c 20 (k + 1) (C.take A0 ++ S' ++ C.drop (A0 + 20)) O O) := Lib.hid fun S' i1 i2 => by
        have := hPs.step (by omega) (by rw [← hk, hO.out]; omega) i1 i2
        rwa [← hk, i2.length_eq, hsl] at this
      replace hI := Lib.hid hI
      replace hk := Lib.hid hk
      clear hPs hdr lP hS hsl hsplit hM hCl
      go_wp2_with fail
      refine hI.out.mono ?_
      rintro e w2 ⟨rfl, S', i1, i2, hM2⟩
      have hn := Lib.hid (hnx.out S' i1 i2)
      clear hI i1 i2
      go_wp2_with fail
      go_roundw
      case rel => exact ⟨k + 1, A0 + 20, _, by go_num, by go_num, hlt, Lib.hid ⟨by have := hk.out; omega, hn.out⟩, hM2⟩
      case measure => simp [intOf] <;> omega
    · have hd1 : decide (A0 + 20 ≤ N) = false := decide_eq_false hlt
      have hd2 : decide ((A0 : Int) + 20 ≤ (N : Int)) = false := by simp; omega
      have hS : C.drop A0 = sg 20 O k := by unfold sg; rw [← hk, ← hdr, List.take_of_length_le (by rw [List.length_drop]; omega)]
      have hsl : (sg 20 O k).length = N - A0 := by rw [sg_len, hO.out, ← hk]; omega
      have hsplit : C.take A0 ++ sg 20 O k ++ [] = C := by rw [← hS, List.append_nil, List.take_append_drop]
      have hI := insSort_N c hc E hm hone fid g N cap A0 N (C.take A0) (sg 20 O k) [] w0 wr H0 H LB (by rw [hsplit]; exact hM) HF.out hfn (by rw [hsplit]; exact hCl) lP (by rw [lP, hsl]; omega) hN6 (sg_up hup.out)
      have hnx : Hid (∀ S', InO c S' → S'.Perm (sg 20 O k) → Bk c 20 (C.take A0 ++ S' ++ []) O) := Lib.hid fun S' i1 i2 => by
        have := hPs.step (by omega) (by rw [← hk, hO.out]; omega) i1 i2
        rw [← hk, i2.length_eq, hsl, List.drop_eq_nil_of_le (show C.length ≤ A0 + (N - A0) by omega)] at this
        exact this.done (by rw [hO.out]; omega)
      replace hI := Lib.hid hI
      clear hPs hdr lP hS hsl hsplit hM hCl hk hP
      go_wp2_with fail
      refine hI.out.mono ?_
      rintro e w2 ⟨rfl, S', i1, i2, hM2⟩
      have hn := Lib.hid (hnx.out S' i1 i2)
      obtain ⟨C1, hC1⟩ : ∃ C1, C.take A0 ++ S' ++ [] = C1 := ⟨_, rfl⟩
      rw [hC1] at hn hM2
      clear hI i1 i2 hnx hC1
      go_wp2_with fail
      go_loopw [6] (fun vs wr => ∃ (bs : Nat) (C : List (α × Nat)), vs = .int .i64 (bs : Int) ∧ 20 ≤ bs ∧ Hid (Bk c bs C O) ∧ Mem w0 H0 (own hm 1 3 (.slice (some ⟨g, 0, none⟩) N cap) (C.map Prod.fst) :: LB) H wr) (fun vs _ => N - (intOf vs).toNat)
      case atStart => exact ⟨20, C1, rfl, by omega, hn, hM2⟩
      case round =>
        clear hM2 hn
        obtain ⟨bs, C0, rfl, hbs, hB, hM⟩ := hrel
        by_cases hlt2 : bs < N
        · have hd3 : decide (bs < N) = true := decide_eq_true hlt2
          have hw1 : IntKind.i64.wrap (2 * (bs : Int)) = ((2 * bs : Nat) : Int) := by rw [IntKind.wrap_i64]; omega
          have hC0l : C0.length = N := by rw [hB.out.1]; exact hO.out
          have hPs0 : Ps c (2 * bs) 0 C0 C0 O := Ps.start hB.out.1
          have hMo := Lib.hid hM
          clear hM
          go_wp2_with fail
          go_loopw [7, 8] (fun va vb wr => ∃ (k A0 : Nat) (C : List (α × Nat)), va = .int .i64 (A0 : Int) ∧ vb = .int .i64 ((A0 + 2 * bs : Nat) : Int) ∧ A0 ≤ N ∧ Hid (A0 = k * (2 * bs) ∧ Ps c (2 * bs) k C C0 O) ∧ Mem w0 H0 (own hm 1 3 (.slice (some ⟨g, 0, none⟩) N cap) (C.map Prod.fst) :: LB) H wr) (fun va _ _ => N - (intOf va).toNat)
          case atStart => exact ⟨0, 0, C0, rfl, by go_num, by omega, Lib.hid ⟨by simp, hPs0⟩, hMo.out⟩
          case round =>
            clear hMo hPs0
            obtain ⟨k, A0, C, rfl, rfl, hAN, hP, hM⟩ := hrel
            obtain ⟨hk, hPs⟩ := hP.out
            have hCl : C.length = N := by rw [hPs.1]; exact hO.out
            have hk2 : 2 * k * bs = A0 := by rw [hk, Nat.mul_comm 2 k, Nat.mul_assoc]
            have hk3 : (2 * k + 1) * bs = A0 + bs := by rw [Nat.add_mul, Nat.one_mul, hk2]
            have hk4 : (2 * k + 1 + 1) * bs = A0 + 2 * bs := by rw [Nat.add_mul, Nat.one_mul, hk3]; omega
            have hdr : C.drop A0 = C0.drop A0 := by rw [hk]; exact hPs.2.2.2
            have lP : (C.take A0).length = A0 := by rw [List.length_take]; omega
            have r1 : C.drop A0 = sg bs C0 (2 * k) ++ C0.drop (A0 + bs) := by rw [hdr, ← hk2, sg_rest bs C0 (2 * k), hk3, hk2]
            have r2 : C0.drop (A0 + bs) = sg bs C0 (2 * k + 1) ++ C0.drop (A0 + 2 * bs) := by rw [← hk3, sg_rest bs C0 (2 * k + 1), hk4]
            have r3 : C.drop (A0 + 2 * bs) = C0.drop (A0 + 2 * bs) := by rw [← List.drop_drop, hdr, List.drop_drop]
            have oA := hB.out.2 (2 * k)
            have oB := hB.out.2 (2 * k + 1)
            have hbf := hB.out.bef (i := 2 * k) hup.out
            have hdb := sg_double bs O k
            have lA : (sg bs C0 (2 * k)).length = min bs (N - A0) := by rw [sg_len, hC0l, hk2]
            have lB : (sg bs C0 (2 * k + 1)).length = min bs (N - (A0 + bs)) := by rw [sg_len, hC0l, hk3]
            have hstep : ∀ S', InO c S' → S'.Perm (sg bs C0 (2 * k) ++ sg bs C0 (2 * k + 1)) → Ps c (2 * bs) (k + 1) (C.take A0 ++ S' ++ C.drop (A0 + S'.length)) C0 O := fun S' i1 i2 => by
              have := hPs.step (by omega) (by rw [← hk, hO.out]; omega) i1 (i2.trans (by rw [hdb]; exact oA.2.append oB.2))
              rwa [← hk] at this
            generalize sg bs C0 (2 * k) = SA at *
            generalize sg bs C0 (2 * k + 1) = SB at *
            by_cases hlt3 : A0 + 2 * bs ≤ N
            · have hd4 : decide (A0 + 2 * bs ≤ N) = true := decide_eq_true hlt3
              have hd5 : decide ((A0 : Int) + 2 * (bs : Int) ≤ (N : Int)) = true := by simp; omega
              have hsplit : C.take A0 ++ SA ++ SB ++ C.drop (A0 + 2 * bs) = C := by
                rw [r3, List.append_assoc, ← r2, List.append_assoc, ← r1, List.take_append_drop]
              have hI := symM_N c hc E hm hone fid g N cap w0 H0 H LB HF.out hfn hN6 _ A0 (A0 + bs) (A0 + 2 * bs) (C.take A0) SA SB (C.drop (A0 + 2 * bs)) wr (Nat.le_refl _) (by rw [hsplit]; exact hCl) lP (by rw [lA]; omega) (by rw [lB]; omega) (by rw [lA]; omega) (by rw [lB]; omega) oA.1 oB.1 hbf (by rw [hsplit]; exact hM)
              have hnx : Hid (∀ S', InO c S' → S'.Perm (SA ++ SB) → Ps c (2 * bs) (k + 1) (C.take A0 ++ S' ++ C.drop (A0 + 2 * bs)) C0 O) := Lib.hid fun S' i1 i2 => by
                have := hstep S' i1 i2
                rwa [i2.length_eq, List.length_append, lA, lB, show A0 + (min bs (N - A0) + min bs (N - (A0 + bs))) = A0 + 2 * bs by omega] at this
              replace hI := Lib.hid hI
              replace hk := Lib.hid hk
              have hw2 : IntKind.i64.wrap ((A0 : Int) + (bs : Int)) = ((A0 + bs : Nat) : Int) := by rw [IntKind.wrap_i64]; omega
              clear hPs hdr lP hsplit hM hCl r1 r2 r3 oA oB hbf hdb lA lB hstep hk2 hk3 hk4 hP
              go_wp2_with fail
              refine hI.out.mono ?_
              rintro e w2 ⟨rfl, S', i1, i2, hM2⟩
              have hn := Lib.hid (hnx.out S' i1 i2)
              clear hI i1 i2
              go_wp2_with fail
              go_roundw
              case rel => exact ⟨k + 1, A0 + 2 * bs, _, by go_num, by go_num, hlt3, Lib.hid ⟨by rw [hk.out, Nat.add_mul, Nat.one_mul], hn.out⟩, hM2⟩
              case measure => simp [intOf] <;> omega
            · have hd4 : decide (A0 + 2 * bs ≤ N) = false := decide_eq_false hlt3
              have hd5 : decide ((A0 : Int) + 2 * (bs : Int) ≤ (N : Int)) = false := by simp; omega
              have hw2 : IntKind.i64.wrap ((A0 : Int) + (bs : Int)) = ((A0 + bs : Nat) : Int) := by rw [IntKind.wrap_i64]; omega
              have hw3 : IntKind.i64.wrap ((bs : Int) * 2) = ((2 * bs : Nat) : Int) := by rw [IntKind.wrap_i64]; omega
              have r4 : C0.drop (A0 + 2 * bs) = [] := List.drop_eq_nil_of_le (by omega)
              rw [r4, List.append_nil] at r2
              rw [r2] at r1
              have hfin : ∀ C2, Ps c (2 * bs) (k + 1) C2 C0 O → Bk c (2 * bs) C2 O := fun C2 h => h.done (by rw [hO.out, Nat.add_mul, Nat.one_mul, ← hk]; omega)
              by_cases hlt4 : A0 + bs < N
              · have hd6 : decide (A0 + bs < N) = true := decide_eq_true hlt4
                have hd7 : decide ((A0 : Int) + (bs : Int) < (N : Int)) = true := by simp; omega
                have hsplit : C.take A0 ++ SA ++ SB ++ [] = C := by
                  rw [List.append_nil, List.append_assoc, ← r1, List.take_append_drop]
                have hI := symM_N c hc E hm hone fid g N cap w0 H0 H LB HF.out hfn hN6 _ A0 (A0 + bs) N (C.take A0) SA SB [] wr (Nat.le_refl _) (by rw [hsplit]; exact hCl) lP (by rw [lA]; omega) (by rw [lB]; omega) (by rw [lA]; omega) (by rw [lB]; omega) oA.1 oB.1 hbf (by rw [hsplit]; exact hM)
                have hnx : Hid (∀ S', InO c S' → S'.Perm (SA ++ SB) → Bk c (2 * bs) (C.take A0 ++ S' ++ []) O) := Lib.hid fun S' i1 i2 => by
                  have := hfin _ (hstep S' i1 i2)
                  rwa [i2.length_eq, List.length_append, lA, lB, List.drop_eq_nil_of_le (show C.length ≤ _ by omega)] at this
                replace hI := Lib.hid hI
                clear hPs hdr lP hsplit hM hCl r1 r2 r3 r4 oA oB hbf hdb lA lB hstep hk2 hk3 hk4 hP hk hfin
                go_wp2_with fail
                refine hI.out.mono ?_
                rintro e w2 ⟨rfl, S', i1, i2, hM2⟩
                have hn := Lib.hid (hnx.out S' i1 i2)
                clear hI i1 i2
                go_wp2_with fail
                go_roundw
                case rel => exact ⟨2 * bs, _, by go_num, by omega, hn, hM2⟩
                case measure => simp [intOf] <;> omega
              · have hd6 : decide (A0 + bs < N) = false := decide_eq_false hlt4
                have hd7 : decide ((A0 : Int) + (bs : Int) < (N : Int)) = false := by simp; omega
                have hSB : SB = [] := List.length_eq_zero_iff.1 (by rw [lB]; omega)
                have hn : Hid (Bk c (2 * bs) C O) := Lib.hid (by
                  have := hfin _ (hstep SA oA.1 (by rw [hSB, List.append_nil]))
                  rwa [lA, List.drop_eq_nil_of_le (show C.length ≤ _ by omega), List.append_nil, show C.take A0 ++ SA = C by rw [hSB, List.append_nil] at r1; rw [← r1, List.take_append_drop]] at this)
                clear hPs hdr lP hCl r1 r2 r3 r4 oA oB hbf hdb lA lB hstep hk2 hk3 hk4 hP hk hfin hSB
                go_wp2_with fail
                go_roundw
                case rel => exact ⟨2 * bs, C, by go_num, by omega, hn, hM⟩
                case measure => simp [intOf] <;> omega
        · have hd3 : decide (bs < N) = false := decide_eq_false hlt2
          have hf := hB.out.all (by rw [hO.out]; omega)
          have hr := Lib.hid (hout.out C0 hf.1 hf.2)
          clear hf
          go_wp2_with fail
          refine bodyPost_ret (v := .tuple #[]) (by simp [results, Tryz.results234, go_sem]) rfl ⟨rfl, by rw [← hr.out]; exact hM⟩
theorem insSort0_N (fv : Value) (w : World) : Calls Tryz.prog 253 #[.slice none 0 0, .int .i64 0, .int .i64 0, fv] w (UnitP fun w' => Ext w w') := by
  go_enter Tryz.func253, Tryz.ntmps253
  go_wp2_with fail
  go_loopw [8] (fun vi wr => vi = .int .i64 1 ∧ Ext w wr) (fun _ _ => 0)
  case atStart => exact ⟨rfl, xE⟩
  case round =>
    obtain ⟨rfl, hx⟩ := hrel
    go_wp2_with fail
    exact bodyPost_ret (v := .tuple #[]) (by simp [results, Tryz.results253, go_sem]) rfl ⟨rfl, hx⟩
theorem stab0_N (fv : Value) (w : World) : Calls Tryz.prog 234 #[.slice none 0 0, .int .i64 0, fv] w (UnitP fun w' => Ext w w') := by
  go_enter Tryz.func234, Tryz.ntmps234
  go_wp2_with fail
  go_loopw [7, 8] (fun va vb wr => va = .int .i64 0 ∧ vb = .int .i64 20 ∧ Ext w wr) (fun _ _ _ => 0)
  case atStart => exact ⟨rfl, rfl, xE⟩
  case round =>
    obtain ⟨rfl, rfl, hx⟩ := hrel
    go_wp2_with fail
    refine (insSort0_N fv _).mono ?_
    rintro e w2 ⟨rfl, hx2⟩
    have hx3 := hx.then hx2
    go_wp2_with fail
    go_loopw [6] (fun va wr => va = .int .i64 20 ∧ Ext w wr) (fun _ _ => 0)
    case atStart => exact ⟨rfl, hx3⟩
    case round =>
      obtain ⟨rfl, hx4⟩ := hrel
      go_wp2_with fail
      exact bodyPost_ret (v := .tuple #[]) (by simp [results, Tryz.results234, go_sem]) rfl ⟨rfl, hx4⟩
theorem sortStable_N {α : Type} (c : α → α → Int) (hc : Ordr c) (E : PH → List Value → α → Prop) (hm : Mono E) (hone : ∀ H cs x, E H cs x → ∀ u ∈ cs, u.oneCell' = true) (fid : Nat) (v : Value) (xs : List α) (w0 w : World) (H0 H : PH) (LB : List Chunk)
    (hM : Mem w0 H0 (own hm 1 3 v xs :: LB) H w) (hf : HCmp1 E H c fid) (hfn : ∀ args w, (callFunc fid args).run Tryz.prog w = .ok (.enter fid args) w) (hN6 : xs.length ≤ 1000000) :
    Calls Tryz.prog 201 #[v, .func (.func fid) #[] #[]] w (UnitP fun w' => Mem w0 H0 (own hm 1 3 v (stS c xs) :: LB) H w') := by
  have hO : OwnC H w E 1 3 v xs := hM.ok 0 _ rfl
  rcases hO with ⟨rfl, rfl⟩ | ⟨g, cap, cur, rfl, -⟩
  · have hS := Lib.hid (stab0_N (.func (.func fid) #[] #[]) w)
    go_enter Tryz.func201, Tryz.ntmps201
    go_wp2_with fail
    refine hS.out.mono ?_
    rintro e w2 ⟨rfl, hx2⟩
    have hM2 := hM.ext hx2
    clear hM
    go_wp2_with fail
    exact bodyPost_ret (v := .tuple #[]) (by simp [results, Tryz.results201, go_sem]) rfl ⟨rfl, hM2⟩
  · obtain ⟨N, hN⟩ : ∃ N, xs.length = N := ⟨_, rfl⟩
    rw [hN] at hM hN6 ⊢
    have hS := Lib.hid (stab_N c hc E hm hone fid g N cap xs w0 w H0 H LB hM hf hfn hN hN6)
    clear hM hf hN
    go_enter Tryz.func201, Tryz.ntmps201
    go_wp2_with fail
    refine hS.out.mono ?_
    rintro e w2 ⟨rfl, hM2⟩
    go_wp2_with fail
    exact bodyPost_ret (v := .tuple #[]) (by simp [results, Tryz.results201, go_sem]) rfl ⟨rfl, hM2⟩
set_option maxRecDepth 100000 in
theorem mergeEqI (gb : Nat) (x y : Int) (w : World) (h0 : w.cell? ⟨gb, 0, none⟩ = some (.func (.func 158) #[] #[])) : Calls Tryz.prog 203 #[.int .i64 x, .int .i64 y, .pointer (some ⟨gb, 0, none⟩)] w (RetV w (.bool (x == y))) := by
  have hc := Lib.hid (RetG_V (cmpJ_g x y w))
  have b1 : ((cmpJ x y : Int) == 0) = (x == y) := by unfold cmpJ; rw [Bool.eq_iff_iff]; simp only [beq_iff_eq]; split <;> (try split) <;> omega
  go_enter Tryz.func203, Tryz.ntmps203
  go_wp2_with fail
  refine hc.out.mono ?_
  rintro e w1 ⟨rfl, hx1⟩
  go_wp2_with fail
  go_ret
  exact ⟨rfl, xE⟩
set_option maxRecDepth 100000 in
theorem mergeEqF (gb : Nat) (x y : Fm) (cs ds : List Value) (w : World) (h0 : w.cell? ⟨gb, 0, none⟩ = some (.func (.func 160) #[] #[])) (hx : FmR (ph w) cs x) (hy : FmR (ph w) ds y) : Calls Tryz.prog 207 #[.agg cs.toArray, .agg ds.toArray, .pointer (some ⟨gb, 0, none⟩)] w (RetV w (.bool (x == y))) := by
  have b1 : ((fcmpJ x y : Int) == 0) = (x == y) := by rw [Bool.eq_iff_iff]; simp only [beq_iff_eq]; exact fcmpJ_0
  obtain ⟨p3, q3, p4, q4, rfl, -⟩ := hx.form
  obtain ⟨r3, s3, r4, s4, rfl, -⟩ := hy.form
  have hgb := cell_lt h0
  have hc := Lib.hid (fun w' (h' : Ext w w') => fcmpJ_c x y _ _ w' (mono_FmR _ _ _ _ h'.ple hx) (mono_FmR _ _ _ _ h'.ple hy))
  unfold fmC at *
  go_enter Tryz.func207, Tryz.ntmps207
  go_wp2_with fail
  refine (hc.out _ xE).mono ?_
  rintro e w1 ⟨rfl, hx1⟩
  go_wp2_with fail
  go_ret
  exact ⟨rfl, xE⟩
set_option maxRecDepth 100000 in
set_option maxHeartbeats 2000000 in
theorem mergeIn {H : PH} (va vb : Value) (a b : List _) (w : World) (hl : PLe H (ph w)) (ha : SliceRep IntR 1 H va a) (hb : SliceRep IntR 1 H vb b) (hasc : ascI a) (hn : a.length + b.length ≤ 1000000) :
    Calls Tryz.prog 157 #[va, vb, .func (.func 158) #[] #[]] w fun e w' => ∃ v, e = .returned v ∧ Ext w w' ∧ SliceRep IntR 1 (up H w w') v (addC a b) := by
  obtain ⟨ia, ja, rfl, -, ha⟩ := ha.form
  obtain ⟨ib, jb, rfl, -, hb⟩ := hb.form
  have hres := Lib.hid (mergeI_eq (a := a) (b := b) hasc)
  have hM1 := (((Mem.start w H hl).new #[.func (.func 158) #[] #[]] 34).new' #[.slice ia a.length ja, .slice ib b.length jb] 22 (n := w.heap.size + 1) (by simp)).asOwn (xs := [a, b]) (E := LsR IntR 1) (sz := 1) 1 rfl (mono_LsR mono_IntR 1) (n := 2) (by simp) (by decide) rfl ⟨_, _, rfl, rfl, ⟨_, rfl, ha⟩, _, _, rfl, rfl, ⟨_, rfl, hb⟩, rfl⟩
  obtain ⟨H1, hl1, hM1, hR1⟩ := hM1.freezeS 1 rfl
  simp only [List.nil_append, List.cons_append, List.set_cons_zero, List.set_cons_succ] at hM1
  have hC := Lib.hid (concatIn _ _ _ hM1 hR1 (by simpa using hn))
  have hfl : [a, b].flatten = a ++ b := by simp
  rw [hfl] at hC
  have hn' : (a ++ b).length ≤ 1000000 := by rw [List.length_append]; exact hn
  have hsl : (stS cmpJ (a ++ b)).length ≤ 1000000 := by rw [(stS_permG ordrI (a ++ b)).length_eq]; exact hn'
  generalize a ++ b = ab at *
  clear hR1 hn hasc hfl ha hb
  go_enter Tryz.func157, Tryz.ntmps157
  go_wp2_with fail
  refine hC.out.mono ?_
  rintro e w2 ⟨v2, rfl, H2, hl2, hM2⟩
  obtain ⟨p2, q2, rfl, -⟩ := hM2.form 0 rfl
  have g2 : w2.cell? ⟨w.heap.size, 0, none⟩ = some (.func (.func 158) #[] #[]) := (hM2.box 1 rfl).facts.1 0
  have hS := Lib.hid (sortStable_N cmpJ ordrI IntR mono_IntR (fun H cs x => one_IntR cs x) 158 _ ab w w2 H H2 _ hM2 ((by rintro w' cs ds x y - ⟨rfl, -⟩ ⟨rfl, -⟩; exact RetG_V (cmpJ_g x y w'))) (fun args w => enterFn Tryz.func158 rfl rfl args w) hn')
  clear hC hM1
  go_wp2_with fail
  refine hS.out.mono ?_
  rintro e w3 ⟨rfl, hM3⟩
  have hD := Lib.hid (compactIG_c w.heap.size _ (stS cmpJ ab) w w3 H H2 _ hM3 hsl ((fun x y W v' ys hMW => mergeEqI w.heap.size x y W ((hMW.box 1 rfl).facts.1 0))))
  clear hS hM2 g2
  go_wp2_with fail
  refine hD.out.mono ?_
  rintro e w4 ⟨v4, rfl, hM4⟩
  rw [hres.out] at hM4
  obtain ⟨p4, q4, rfl, -⟩ := hM4.form 0 rfl
  go_wp2_with fail
  go_ret
  exact ⟨_, rfl, hM4.ex, hM4.repUp 0 rfl⟩
set_option maxRecDepth 100000 in
set_option maxHeartbeats 2000000 in
theorem mergeFo {H : PH} (va vb : Value) (a b : List _) (w : World) (hl : PLe H (ph w)) (ha : SliceRep FmR 4 H va a) (hb : SliceRep FmR 4 H vb b) (hasc : ascF a) (hn : a.length + b.length ≤ 1000000) :
    Calls Tryz.prog 159 #[va, vb, .func (.func 160) #[] #[]] w fun e w' => ∃ v, e = .returned v ∧ Ext w w' ∧ SliceRep FmR 4 (up H w w') v (addF a b) := by
  obtain ⟨ia, ja, rfl, -, ha⟩ := ha.form
  obtain ⟨ib, jb, rfl, -, hb⟩ := hb.form
  have hres := Lib.hid (mergeF_eq (a := a) (b := b) hasc)
  have hM1 := (((Mem.start w H hl).new #[.func (.func 160) #[] #[]] 141).new' #[.slice ia a.length ja, .slice ib b.length jb] 28 (n := w.heap.size + 1) (by simp)).asOwn (xs := [a, b]) (E := LsR FmR 4) (sz := 1) 1 rfl (mono_LsR mono_FmR 4) (n := 2) (by simp) (by decide) rfl ⟨_, _, rfl, rfl, ⟨_, rfl, ha⟩, _, _, rfl, rfl, ⟨_, rfl, hb⟩, rfl⟩
  obtain ⟨H1, hl1, hM1, hR1⟩ := hM1.freezeS 1 rfl
  simp only [List.nil_append, List.cons_append, List.set_cons_zero, List.set_cons_succ] at hM1
  have hC := Lib.hid (concatFo _ _ _ hM1 hR1 (by simpa using hn))
  have hfl : [a, b].flatten = a ++ b := by simp
  rw [hfl] at hC
  have hn' : (a ++ b).length ≤ 1000000 := by rw [List.length_append]; exact hn
  have hsl : (stS fcmpJ (a ++ b)).length ≤ 1000000 := by rw [(stS_permG ordrF (a ++ b)).length_eq]; exact hn'
  generalize a ++ b = ab at *
  clear hR1 hn hasc hfl ha hb
  go_enter Tryz.func159, Tryz.ntmps159
  go_wp2_with fail
  refine hC.out.mono ?_
  rintro e w2 ⟨v2, rfl, H2, hl2, hM2⟩
  obtain ⟨p2, q2, rfl, -⟩ := hM2.form 0 rfl
  have g2 : w2.cell? ⟨w.heap.size, 0, none⟩ = some (.func (.func 160) #[] #[]) := (hM2.box 1 rfl).facts.1 0
  have hS := Lib.hid (sortStable_F fcmpJ ordrF FmR mono_FmR (fun H cs x => one_FmR cs x) 160 _ ab w w2 H H2 _ hM2 ((fun w' cs ds x y hl hx hy => fcmpJ_c x y cs ds w' (mono_FmR _ _ _ _ hl hx) (mono_FmR _ _ _ _ hl hy))) (fun args w => enterFn Tryz.func160 rfl rfl args w) hn')
  clear hC hM1
  go_wp2_with fail
  refine hS.out.mono ?_
  rintro e w3 ⟨rfl, hM3⟩
  have hD := Lib.hid (compactFG_c w.heap.size _ (stS fcmpJ ab) w w3 H H2 _ hM3 hsl ((fun x y cs ds W v' ys hMW hx hy => mergeEqF w.heap.size x y cs ds W ((hMW.box 1 rfl).facts.1 0) hx hy)))
  clear hS hM2 g2
  go_wp2_with fail
  refine hD.out.mono ?_
  rintro e w4 ⟨v4, rfl, hM4⟩
  rw [hres.out] at hM4
  obtain ⟨p4, q4, rfl, -⟩ := hM4.form 0 rfl
  go_wp2_with fail
  go_ret
  exact ⟨_, rfl, hM4.ex, hM4.repUp 0 rfl⟩
structure AlA (x : Al) : Prop where
  yes : ascI x.yes
  no : ascI x.no
  nums : ascN x.nums
  has : ascF x.has
  non : ascF x.non
  len : x.yes.length + x.no.length + x.nums.length + x.has.length + x.non.length ≤ 50000
def joinA (x y : Al) : Option Al := (joinN x.nums y.nums).map fun n => ⟨addC x.yes y.yes, addC x.no y.no, n, addF x.has y.has, addF x.non y.non⟩
def AltQ (w : World) (H : PH) (r : Option Al) (e : Ending) (w' : World) : Prop :=
  ∃ cs c, e = .returned (.tuple #[.agg (cs : List Value).toArray, .int .i64 c]) ∧ Ext w w' ∧ match r with | some x => c = 0 ∧ AltR (up H w w') cs x | none => c ≠ 0 ∧ cs = [.slice none 0 0, .slice none 0 0, .slice none 0 0, .slice none 0 0, .slice none 0 0]
theorem infoAl : (Tryz.prog.info? 53).map (fun i => (i.zero, i.size, i.bytes)) = some (some (.agg #[.slice none 0 0, .slice none 0 0, .slice none 0 0, .slice none 0 0, .slice none 0 0]), 5, 120) := by kernel_rfl
theorem Mem.setA {w0 w : World} {H0 H : PH} {L : List Chunk} (h : Mem w0 H0 L H w) (i : Nat) {b : Nat} {r a0 a1 a2 a3 : Value} {T : TypeId} (hi : L[i]? = some (Proofs.YtabajghokhfmhaaGreat.box b #[r, a0, a1, a2, a3] T)) (o p q s t : Value) :
    Mem w0 H0 (L.set i (Proofs.YtabajghokhfmhaaGreat.box b #[o, p, q, s, t] T)) H (((((w.setCell ⟨b, 0, none⟩ o).setCell ⟨b, 1, none⟩ p).setCell ⟨b, 2, none⟩ q).setCell ⟨b, 3, none⟩ s).setCell ⟨b, 4, none⟩ t) := by
  have hil : i < L.length := (List.getElem?_eq_some_iff.1 hi).1
  have h0 := h.set i hi 0 o
  have h1 := h0.set i (List.getElem?_set_self hil) 1 p
  rw [List.set_set] at h1
  have h2 := h1.set i (List.getElem?_set_self hil) 2 q
  rw [List.set_set] at h2
  have h3 := h2.set i (List.getElem?_set_self hil) 3 s
  rw [List.set_set] at h3
  have h4 := h3.set i (List.getElem?_set_self hil) 4 t
  rw [List.set_set] at h4
  simpa using h4
set_option maxRecDepth 100000 in
set_option maxHeartbeats 4000000 in
theorem join_c {H : PH} (x y : Al) (cs ds : List Value) (w : World) (hl : PLe H (ph w)) (hx : AltR H cs x) (hy : AltR H ds y) (ax : AlA x) (ay : AlA y) :
    Calls Tryz.prog 97 #[.agg cs.toArray, .agg ds.toArray] w (AltQ w H (joinA x y)) := by
  obtain ⟨a1, c1, a2, c2, a3, c3, a4, c4, a5, c5, rfl, x1, x2, x3, x4, x5⟩ := hx
  obtain ⟨b1, d1, b2, d2, b3, d3, b4, d4, b5, d5, rfl, y1, y2, y3, y4, y5⟩ := hy
  have hM0 := (((Mem.start w H hl).new' #[.slice a1 x.yes.length c1, .slice a2 x.no.length c2, .slice a3 x.nums.length c3, .slice a4 x.has.length c4, .slice a5 x.non.length c5] 53 (n := w.heap.size) rfl).new' #[.slice b1 y.yes.length d1, .slice b2 y.no.length d2, .slice b3 y.nums.length d3, .slice b4 y.has.length d4, .slice b5 y.non.length d5] 53 (n := w.heap.size + 1) (by simp)).new' #[.slice none 0 0, .slice none 0 0, .slice none 0 0, .slice none 0 0, .slice none 0 0] 53 (n := w.heap.size + 2) (by simp)
  simp only [List.nil_append, List.cons_append] at hM0
  have hnc := Lib.hid (fun w3 (h : PLe H (ph w3)) => numbers_c _ _ x.nums y.nums w3 h x3 y3 ax.nums ay.nums (by have := ax.len; have := ay.len; omega))
  go_enter Tryz.func97, Tryz.ntmps97
  go_upto_region 1 with (fail)
  generalize hg2 : w.heap.size = g2 at *
  generalize World.alloc _ _ = w3 at *
  have f2 : _ = some (Value.slice a3 x.nums.length c3) := (hM0.box 0 rfl).facts.1 2
  have f3 : _ = some (Value.slice b3 y.nums.length d3) := (hM0.box 1 rfl).facts.1 2
  go_wp2_with fail
  refine (hnc.out _ hM0.ple).mono ?_
  rintro e w4 ⟨v6, c, rfl, hx4, hr⟩
  clear f2 f3 hnc
  have hM1 := hM0.up hx4
  cases hj : joinN x.nums y.nums with
  | none =>
    rw [hj] at hr
    obtain ⟨hc, rfl⟩ := hr
    have hja : Hid (joinA x y = none) := by show _ = _; unfold joinA; rw [hj]; rfl
    have b1 : (c == 0) = false := by simpa using hc
    have b2 : (c != 0) = true := by simpa using hc
    have rz0 : _ = some (Value.slice none 0 0) := (hM1.box 2 rfl).facts.1 0
    have rz1 : _ = some (Value.slice none 0 0) := (hM1.box 2 rfl).facts.1 1
    have rz2 : _ = some (Value.slice none 0 0) := (hM1.box 2 rfl).facts.1 2
    have rz3 : _ = some (Value.slice none 0 0) := (hM1.box 2 rfl).facts.1 3
    have rz4 : _ = some (Value.slice none 0 0) := (hM1.box 2 rfl).facts.1 4
    obtain ⟨-, rzf⟩ := (hM1.box 2 rfl).facts
    have rzl := (hM1.box 2 rfl).lt
    have hM8 := hM1.setA 2 rfl (.slice none 0 0) (.slice none 0 0) (.slice none 0 0) (.slice none 0 0) (.slice none 0 0)
    simp only [List.set_cons_zero, List.set_cons_succ] at hM8
    clear hM1
    go_wp2_with fail
    generalize World.setCell _ _ _ = w9 at *
    obtain ⟨rq', -⟩ := (hM8.box 2 rfl).facts
    have rq0 : _ = some ((.slice none 0 0) : Value) := rq' 0
    have rq1 : _ = some ((.slice none 0 0) : Value) := rq' 1
    have rq2 : _ = some ((.slice none 0 0) : Value) := rq' 2
    have rq3 : _ = some ((.slice none 0 0) : Value) := rq' 3
    have rq4 : _ = some ((.slice none 0 0) : Value) := rq' 4
    refine bodyPost_ret (v := .tuple #[.agg #[(.slice none 0 0), (.slice none 0 0), (.slice none 0 0), (.slice none 0 0), (.slice none 0 0)], .int .i64 c]) (by simp [results, Tryz.results97, go_sem, rq0, rq1, rq2, rq3, rq4]) rfl ?_
    exact ⟨[.slice none 0 0, .slice none 0 0, .slice none 0 0, .slice none 0 0, .slice none 0 0], _, rfl, hM8.ex, by rw [hja.out]; exact ⟨hc, rfl⟩⟩
  | some r =>
    rw [hj] at hr
    obtain ⟨rfl, hr⟩ := hr
    obtain ⟨p6, q6, rfl, -, hr⟩ := hr.form
    have hja : Hid (joinA x y = some ⟨addC x.yes y.yes, addC x.no y.no, r, addF x.has y.has, addF x.non y.non⟩) := by show _ = _; unfold joinA; rw [hj]; rfl
    have hll := ax.len
    have hly := ay.len
    have hlH : PLe H (up H w3 w4) := ple_up hM0.ple
    have hres : Hid (∀ (HH : PH) v1 v2 v3 v4, SliceRep IntR 1 HH v1 (addC x.yes y.yes) → SliceRep IntR 1 HH v2 (addC x.no y.no) → NumsR HH (.slice p6 r.length q6) r → SliceRep FmR 4 HH v3 (addF x.has y.has) → SliceRep FmR 4 HH v4 (addF x.non y.non) → AltR HH [v1, v2, .slice p6 r.length q6, v3, v4] ⟨addC x.yes y.yes, addC x.no y.no, r, addF x.has y.has, addF x.non y.non⟩) := Lib.hid (by
      intro HH v1 v2 v3 v4 h1 h2 h3 h4 h5
      obtain ⟨i1, j1, rfl, -⟩ := h1.form
      obtain ⟨i2, j2, rfl, -⟩ := h2.form
      obtain ⟨i3, j3, rfl, -⟩ := h4.form
      obtain ⟨i4, j4, rfl, -⟩ := h5.form
      exact ⟨i1, j1, i2, j2, p6, q6, i3, j3, i4, j4, rfl, h1, h2, h3, h4, h5⟩)
    have m1 := Lib.hid (fun w' (e : Ext w4 w') => mergeIn (H := up H w3 w4) _ _ x.yes y.yes w' (hM1.ple.trans e.ple) (x1.mono mono_IntR hlH) (y1.mono mono_IntR hlH) ax.yes (by omega))
    have m2 := Lib.hid (fun w' (e : Ext w4 w') => mergeIn (H := up H w3 w4) _ _ x.no y.no w' (hM1.ple.trans e.ple) (x2.mono mono_IntR hlH) (y2.mono mono_IntR hlH) ax.no (by omega))
    have m3 := Lib.hid (fun w' (e : Ext w4 w') => mergeFo (H := up H w3 w4) _ _ x.has y.has w' (hM1.ple.trans e.ple) (x4.mono mono_FmR hlH) (y4.mono mono_FmR hlH) ax.has (by omega))
    have m4 := Lib.hid (fun w' (e : Ext w4 w') => mergeFo (H := up H w3 w4) _ _ x.non y.non w' (hM1.ple.trans e.ple) (x5.mono mono_FmR hlH) (y5.mono mono_FmR hlH) ax.non (by omega))
    have hup : Hid (∀ w' w'', Ext w4 w' → Ext w' w'' → PLe (up (up H w3 w4) w' w'') (up (up H w3 w4) w4 w'')) := Lib.hid fun w' w'' e1 e2 => up_sub hM1.ple e1
    have hH1 : up H w3 w4 = up H w3 w4 := rfl
    generalize hq : up H w3 w4 = H1 at *
    have e0 : _ = some (Value.slice a1 x.yes.length c1) := (hM1.box 0 rfl).facts.1 0
    have e1 : _ = some (Value.slice a2 x.no.length c2) := (hM1.box 0 rfl).facts.1 1
    have e3 : _ = some (Value.slice a4 x.has.length c4) := (hM1.box 0 rfl).facts.1 3
    have e4 : _ = some (Value.slice a5 x.non.length c5) := (hM1.box 0 rfl).facts.1 4
    have o0 : _ = some (Value.slice b1 y.yes.length d1) := (hM1.box 1 rfl).facts.1 0
    have o1 : _ = some (Value.slice b2 y.no.length d2) := (hM1.box 1 rfl).facts.1 1
    have o3 : _ = some (Value.slice b4 y.has.length d4) := (hM1.box 1 rfl).facts.1 3
    have o4 : _ = some (Value.slice b5 y.non.length d5) := (hM1.box 1 rfl).facts.1 4
    have l0 := (hM1.box 0 rfl).lt
    have l1 := (hM1.box 1 rfl).lt
    clear x1 x2 x3 x4 x5 y1 y2 y3 y4 y5 hll hly
    go_upto_region 4 with (fail)
    (refine wp_region_I 22 (by kernel_rfl) (by kernel_rfl) ?_; simp only [List.toList_toArray, List.take_succ_cons, List.take_zero, List.drop_succ_cons, List.drop_zero])
    iterate 4 (refine wiA rfl (by simp) rfl ?_; (try simp only [List.nil_append, List.cons_append]))
    (refine walkI_step ((fun v wx => SliceRep IntR 1 (up H1 w4 wx) v (addC x.yes y.yes))) rfl (by simp) rfl ((fun v w w' hS h e => h.mono mono_IntR (up_then hS e))) ?_ ?_; (focus (intro A w' hS hA K hK; (simp only [List.map_cons, List.map_nil, knows, Is, Op.operands, Call.operands, List.lookup_cons, List.lookup_nil, Nat.reduceBEq, Bool.false_eq_true, if_false, if_true, Act.eval, Array.getD_eq_getD_getElem?, List.getElem?_toArray, List.getElem?_cons_succ, List.getElem?_cons_zero, Option.getD_some, and_true, true_and, List.append_toArray, List.nil_append, List.cons_append, List.toList_toArray, Array.toList_append, Option.toArray, List.append_nil] at hA); (go_simp; refine (m1.out _ hS).mono ?_; rintro e w'' ⟨v, rfl, hx'', hr''⟩; exact hK _ _ hx'' (hr''.mono mono_IntR (hup.out _ _ hS hx''))))); (try simp only [List.nil_append, List.cons_append]))
    iterate 4 (refine wiA rfl (by simp) rfl ?_; (try simp only [List.nil_append, List.cons_append]))
    (refine walkI_step ((fun v wx => SliceRep IntR 1 (up H1 w4 wx) v (addC x.no y.no))) rfl (by simp) rfl ((fun v w w' hS h e => h.mono mono_IntR (up_then hS e))) ?_ ?_; (focus (intro A w' hS hA K hK; (simp only [List.map_cons, List.map_nil, knows, Is, Op.operands, Call.operands, List.lookup_cons, List.lookup_nil, Nat.reduceBEq, Bool.false_eq_true, if_false, if_true, Act.eval, Array.getD_eq_getD_getElem?, List.getElem?_toArray, List.getElem?_cons_succ, List.getElem?_cons_zero, Option.getD_some, and_true, true_and, List.append_toArray, List.nil_append, List.cons_append, List.toList_toArray, Array.toList_append, Option.toArray, List.append_nil] at hA); (go_simp; refine (m2.out _ hS).mono ?_; rintro e w'' ⟨v, rfl, hx'', hr''⟩; exact hK _ _ hx'' (hr''.mono mono_IntR (hup.out _ _ hS hx''))))); (try simp only [List.nil_append, List.cons_append]))
    iterate 5 (refine wiA rfl (by simp) rfl ?_; (try simp only [List.nil_append, List.cons_append]))
    (refine walkI_step ((fun v wx => SliceRep FmR 4 (up H1 w4 wx) v (addF x.has y.has))) rfl (by simp) rfl ((fun v w w' hS h e => h.mono mono_FmR (up_then hS e))) ?_ ?_; (focus (intro A w' hS hA K hK; (simp only [List.map_cons, List.map_nil, knows, Is, Op.operands, Call.operands, List.lookup_cons, List.lookup_nil, Nat.reduceBEq, Bool.false_eq_true, if_false, if_true, Act.eval, Array.getD_eq_getD_getElem?, List.getElem?_toArray, List.getElem?_cons_succ, List.getElem?_cons_zero, Option.getD_some, and_true, true_and, List.append_toArray, List.nil_append, List.cons_append, List.toList_toArray, Array.toList_append, Option.toArray, List.append_nil] at hA); (go_simp; refine (m3.out _ hS).mono ?_; rintro e w'' ⟨v, rfl, hx'', hr''⟩; exact hK _ _ hx'' (hr''.mono mono_FmR (hup.out _ _ hS hx''))))); (try simp only [List.nil_append, List.cons_append]))
    iterate 4 (refine wiA rfl (by simp) rfl ?_; (try simp only [List.nil_append, List.cons_append]))
    (refine walkI_step ((fun v wx => SliceRep FmR 4 (up H1 w4 wx) v (addF x.non y.non))) rfl (by simp) rfl ((fun v w w' hS h e => h.mono mono_FmR (up_then hS e))) ?_ ?_; (focus (intro A w' hS hA K hK; (simp only [List.map_cons, List.map_nil, knows, Is, Op.operands, Call.operands, List.lookup_cons, List.lookup_nil, Nat.reduceBEq, Bool.false_eq_true, if_false, if_true, Act.eval, Array.getD_eq_getD_getElem?, List.getElem?_toArray, List.getElem?_cons_succ, List.getElem?_cons_zero, Option.getD_some, and_true, true_and, List.append_toArray, List.nil_append, List.cons_append, List.toList_toArray, Array.toList_append, Option.toArray, List.append_nil] at hA); (go_simp; refine (m4.out _ hS).mono ?_; rintro e w'' ⟨v, rfl, hx'', hr''⟩; exact hK _ _ hx'' (hr''.mono mono_FmR (hup.out _ _ hS hx''))))); (try simp only [List.nil_append, List.cons_append]))
    (refine walkI_step ((fun v wx => ∃ v1 v2 v3 v4, v = .agg #[v1, v2, .slice p6 r.length q6, v3, v4] ∧ SliceRep IntR 1 (up H1 w4 wx) v1 (addC x.yes y.yes) ∧ SliceRep IntR 1 (up H1 w4 wx) v2 (addC x.no y.no) ∧ SliceRep FmR 4 (up H1 w4 wx) v3 (addF x.has y.has) ∧ SliceRep FmR 4 (up H1 w4 wx) v4 (addF x.non y.non))) rfl (by simp) rfl ((fun v w w' hS ⟨v1, v2, v3, v4, h0, h1, h2, h3, h4⟩ e => ⟨v1, v2, v3, v4, h0, h1.mono mono_IntR (up_then hS e), h2.mono mono_IntR (up_then hS e), h3.mono mono_FmR (up_then hS e), h4.mono mono_FmR (up_then hS e)⟩)) ?_ ?_; (focus (intro A w' hS hA K hK; (simp only [List.map_cons, List.map_nil, knows, Is, Op.operands, Call.operands, List.lookup_cons, List.lookup_nil, Nat.reduceBEq, Bool.false_eq_true, if_false, if_true, Act.eval, Array.getD_eq_getD_getElem?, List.getElem?_toArray, List.getElem?_cons_succ, List.getElem?_cons_zero, Option.getD_some, and_true, true_and, List.append_toArray, List.nil_append, List.cons_append, List.toList_toArray, Array.toList_append, Option.toArray, List.append_nil] at hA); (obtain ⟨k1, k2, k0, k3, k4⟩ := hA; obtain ⟨i1, j1, q1, -⟩ := k1.form; obtain ⟨i2, j2, q2, -⟩ := k2.form; obtain ⟨i3, j3, q3, -⟩ := k3.form; obtain ⟨i4, j4, q4, -⟩ := k4.form; rw [q1] at k1; rw [q2] at k2; rw [q3] at k3; rw [q4] at k4; go_simp; exact hK _ _ (Ext.rfl' _) ⟨_, _, _, _, rfl, k1, k2, k3, k4⟩))); (try simp only [List.nil_append, List.cons_append]))
    (refine walkI_nil ?_; simp only [List.nil_append, List.cons_append, fins, Is, forall_eq, Act.put, List.setIfInBounds_toArray, List.set_cons_zero, List.set_cons_succ])
    rintro w5 hx5 v24 h24 v29 h29 v35 h35 v40 h40 v41 ⟨v1, v2, v3, v4, rfl, k1, k2, k3, k4⟩
    clear h24 h29 h35 h40
    obtain ⟨i1, j1, rfl, -⟩ := k1.form
    obtain ⟨i2, j2, rfl, -⟩ := k2.form
    obtain ⟨i3, j3, rfl, -⟩ := k3.form
    obtain ⟨i4, j4, rfl, -⟩ := k4.form
    have hM5 := hM1.up hx5
    have hfin := hres.out _ _ _ _ _ k1 k2 (hr.mono mono_NumR (ple_up hM1.ple)) k3 k4
    clear k1 k2 k3 k4 m1 m2 m3 m4 hres hup e0 e1 e3 e4 o0 o1 o3 o4 hM1 hr
    have rz0 : _ = some (Value.slice none 0 0) := (hM5.box 2 rfl).facts.1 0
    have rz1 : _ = some (Value.slice none 0 0) := (hM5.box 2 rfl).facts.1 1
    have rz2 : _ = some (Value.slice none 0 0) := (hM5.box 2 rfl).facts.1 2
    have rz3 : _ = some (Value.slice none 0 0) := (hM5.box 2 rfl).facts.1 3
    have rz4 : _ = some (Value.slice none 0 0) := (hM5.box 2 rfl).facts.1 4
    obtain ⟨-, rzf⟩ := (hM5.box 2 rfl).facts
    have rzl := (hM5.box 2 rfl).lt
    have hM8 := hM5.setA 2 rfl (.slice i1 (addC x.yes y.yes).length j1) (.slice i2 (addC x.no y.no).length j2) (.slice p6 r.length q6) (.slice i3 (addF x.has y.has).length j3) (.slice i4 (addF x.non y.non).length j4)
    simp only [List.set_cons_zero, List.set_cons_succ] at hM8
    clear hM5
    go_wp2_with fail
    generalize World.setCell _ _ _ = w9 at *
    obtain ⟨rq', -⟩ := (hM8.box 2 rfl).facts
    have rq0 : _ = some ((.slice i1 (addC x.yes y.yes).length j1) : Value) := rq' 0
    have rq1 : _ = some ((.slice i2 (addC x.no y.no).length j2) : Value) := rq' 1
    have rq2 : _ = some ((.slice p6 r.length q6) : Value) := rq' 2
    have rq3 : _ = some ((.slice i3 (addF x.has y.has).length j3) : Value) := rq' 3
    have rq4 : _ = some ((.slice i4 (addF x.non y.non).length j4) : Value) := rq' 4
    refine bodyPost_ret (v := .tuple #[.agg #[(.slice i1 (addC x.yes y.yes).length j1), (.slice i2 (addC x.no y.no).length j2), (.slice p6 r.length q6), (.slice i3 (addF x.has y.has).length j3), (.slice i4 (addF x.non y.non).length j4)], .int .i64 0]) (by simp [results, Tryz.results97, go_sem, rq0, rq1, rq2, rq3, rq4]) rfl ?_
    exact ⟨[_, _, _, _, _], _, rfl, hM8.ex, by rw [hja.out]; exact ⟨rfl, mono_AltR _ _ _ _ hM8.ub hfin⟩⟩
end Go.Proofs.YtabajghokhfmhaaGreat
namespace Go.Proofs.YtabajghokhfmhaaGreat
def al0 : Al := ⟨[], [], [], [], []⟩
def chainO (most : Nat) : List Al → List (Option (List Al)) → Option (List Al)
  | acc, [] => some acc
  | _, none :: _ => none
  | acc, some r :: rest => if most < (acc ++ r).length then none else chainO most (acc ++ r) rest
def rowO (x : Al) : List Al → Option (List Al)
  | [] => some []
  | y :: ys => (joinA x y).bind fun z => (rowO x ys).map (z :: ·)
def crossO : List Al → List Al → Option (List Al)
  | [], _ => some []
  | x :: xs, ys => (rowO x ys).bind fun r => (crossO xs ys).map (r ++ ·)
def prodO (most : Nat) : List Al → List (Option (List Al)) → Option (List Al)
  | acc, [] => some acc
  | _, none :: _ => none
  | acc, some a :: rest => if most < acc.length * a.length then none else (crossO acc a).bind fun n => prodO most n rest
mutual
def divF (most : Nat) : Fm → Bool → Option (List Al)
  | .mk op n inn kids, neg =>
    if op = 1 then some [if neg then ⟨[], [n], [], [], []⟩ else ⟨[n], [], [], [], []⟩]
    else if op = 2 then (if neg then (notN inn).map fun s => [⟨[], [], [⟨n, s, true⟩], [], []⟩] else some [⟨[], [], [⟨n, inn, false⟩], [], []⟩])
    else if op = 3 then some [if neg then ⟨[], [], [], [], kids⟩ else ⟨[], [], [], kids, []⟩]
    else if op = 6 then ((divL most kids !neg).head?).join
    else if (op = 5) = (neg = true) then prodO most [al0] (divL most kids neg)
    else chainO most [] (divL most kids neg)
def divL (most : Nat) : List Fm → Bool → List (Option (List Al))
  | [], _ => []
  | f :: r, neg => divF most f neg :: divL most r neg
end
theorem divL_map (most : Nat) (neg : Bool) : ∀ l : List Fm, divL most l neg = l.map fun f => divF most f neg
  | [] => by simp [divL]
  | f :: r => by rw [divL, List.map_cons, divL_map most neg r]
theorem rowO_len (x : Al) : ∀ (ys r : List Al), rowO x ys = some r → r.length = ys.length
  | [], r, h => by cases h; rfl
  | y :: ys, r, h => by
    rw [rowO] at h
    cases hj : joinA x y with
    | none => rw [hj] at h; cases h
    | some z =>
      rw [hj, Option.bind_some] at h
      cases hr : rowO x ys with
      | none => rw [hr] at h; cases h
      | some q =>
        rw [hr] at h; cases h
        rw [List.length_cons, List.length_cons, rowO_len x ys q hr]
theorem crossO_len : ∀ (xs ys r : List Al), crossO xs ys = some r → r.length = xs.length * ys.length
  | [], ys, r, h => by cases h; simp
  | x :: xs, ys, r, h => by
    rw [crossO] at h
    cases hj : rowO x ys with
    | none => rw [hj] at h; cases h
    | some q =>
      rw [hj, Option.bind_some] at h
      cases hc : crossO xs ys with
      | none => rw [hc] at h; cases h
      | some p =>
        rw [hc] at h; cases h
        rw [List.length_append, rowO_len x ys q hj, crossO_len xs ys p hc, List.length_cons, Nat.succ_mul, Nat.add_comm]
theorem chainO_len {most : Nat} : ∀ (rs : List (Option (List Al))) (acc r : List Al), acc.length ≤ most → chainO most acc rs = some r → r.length ≤ most
  | [], acc, r, ha, h => by cases h; exact ha
  | none :: rs, acc, r, ha, h => by rw [chainO] at h; cases h
  | some a :: rs, acc, r, ha, h => by
    rw [chainO] at h
    split at h
    · cases h
    · exact chainO_len rs _ r (by omega) h
theorem prodO_len {most : Nat} : ∀ (rs : List (Option (List Al))) (acc r : List Al), acc.length ≤ most → prodO most acc rs = some r → r.length ≤ most
  | [], acc, r, ha, h => by cases h; exact ha
  | none :: rs, acc, r, ha, h => by rw [prodO] at h; cases h
  | some a :: rs, acc, r, ha, h => by
    rw [prodO] at h
    split at h
    · cases h
    · cases hc : crossO acc a with
      | none => rw [hc] at h; cases h
      | some n =>
        rw [hc, Option.bind_some] at h
        exact prodO_len rs n r (by rw [crossO_len _ _ _ hc]; omega) h
structure AlS (x : Al) : Prop where
  yes : ascI x.yes
  no : ascI x.no
  nums : ascN x.nums
  has : ascF x.has
  non : ascF x.non
theorem joinA_asc {x y z : Al} (hx : AlS x) (hy : AlS y) (h : joinA x y = some z) : AlS z := by
  unfold joinA at h
  cases hj : joinN x.nums y.nums with
  | none => rw [hj] at h; cases h
  | some n =>
    rw [hj] at h
    cases h
    exact ⟨(addC_law _ _ hx.yes).1, (addC_law _ _ hx.no).1, ((joinN_law hx.nums hy.nums).1 n hj).asc, addF_asc hx.has, addF_asc hx.non⟩
theorem putNm_len (x : Nm) : ∀ (l r : List Nm), putNm x l = some r → r.length ≤ l.length + 1
  | [], r, h => by cases h; simp
  | y :: l, r, h => by
    unfold putNm at h
    split at h
    · cases hp : putNm x l with
      | none => rw [hp] at h; cases h
      | some q =>
        rw [hp] at h; cases h
        have := putNm_len x l q hp
        simp only [List.length_cons]; omega
    · split at h
      · cases hm : meetN y.inn x.inn with
        | none => rw [hm] at h; cases h
        | some q => rw [hm] at h; cases h; simp
      · cases h; simp
theorem joinN_len : ∀ (b a r : List Nm), joinN a b = some r → r.length ≤ a.length + b.length
  | [], a, r, h => by cases h; simp
  | x :: b, a, r, h => by
    unfold joinN at h
    cases hp : putNm x a with
    | none => rw [hp] at h; cases h
    | some q =>
      rw [hp] at h
      have h1 := joinN_len b q r h
      have h2 := putNm_len x a q hp
      rw [List.length_cons]; omega
def alN (x : Al) : Nat := x.yes.length + x.no.length + x.nums.length + x.has.length + x.non.length
theorem joinA_len {x y z : Al} (h : joinA x y = some z) : alN z ≤ alN x + alN y := by
  unfold joinA at h
  cases hj : joinN x.nums y.nums with
  | none => rw [hj] at h; cases h
  | some n =>
    rw [hj] at h
    cases h
    have h1 := addC_len y.yes x.yes
    have h2 := addC_len y.no x.no
    have h3 := joinN_len _ _ n hj
    have h4 := addF_len y.has x.has
    have h5 := addF_len y.non x.non
    unfold alN
    dsimp only
    omega
theorem AlS.a {x : Al} (h : AlS x) (hn : alN x ≤ 50000) : AlA x := ⟨h.yes, h.no, h.nums, h.has, h.non, hn⟩
end Go.Proofs.YtabajghokhfmhaaGreat
namespace Go.Proofs.YtabajghokhfmhaaGreat
open Go.RowKit Go.Shelf
def DivP (w : World) (H : PH) (most B : Nat) (r : Option (List Al)) (e : Ending) (w' : World) : Prop :=
  ∃ v ok l, e = .returned (.tuple #[v, .bool ok]) ∧ Ext w w' ∧ AltsR (up H w w') v l ∧ l.length ≤ most ∧ (∀ z ∈ l, AlS z ∧ alN z ≤ B) ∧ match r with | some x => ok = true ∧ l = x | none => ok = false
set_option maxRecDepth 100000 in
set_option maxHeartbeats 2000000 in
theorem chain_c {H : PH} (most b1 fid B : Nat) (caps : Array Value) (F : Fm → Option (List Al)) (ks : List Fm) (vk : Value) (w : World) (hl : PLe H (ph w)) (hb1 : cellAt H b1 0 = some (.int .i64 most)) (hm : most ≤ 64) (hr : FmsR H vk ks) (hkl : ks.length ≤ 100000)
    (hfn : ∀ args w, (callFunc fid args).run Tryz.prog w = .ok (.enter fid args) w)
    (hf : ∀ g ∈ ks, ∀ cs w', PLe H (ph w') → FmR H cs g → Calls Tryz.prog fid (#[.agg cs.toArray] ++ caps) w' (DivP w' H most B (F g))) :
    Calls Tryz.prog 95 #[vk, .func (.func fid) #[] caps, .pointer (some ⟨b1, 0, none⟩)] w (DivP w H most B (chainO most [] (ks.map F))) := by
  obtain ⟨ia, ja, rfl, -, hr⟩ := hr.form
  replace hf := Lib.hid hf
  have hM0 := (Mem.start w H hl).nil mono_AltR 5 53
  simp only [List.nil_append] at hM0
  have hst : Hid (chainO most [] (ks.map F) = chainO most [] ((ks.drop 0).map F)) := rfl
  go_enter Tryz.func95, Tryz.ntmps95
  go_wp2_with fail
  go_loopw [7, 14] (fun vo i wr => ∃ (k : Nat) (acc : List Al) (H2 : PH), k ≤ ks.length ∧ i = .int .i64 k ∧ PLe H H2 ∧ acc.length ≤ most ∧ (∀ z ∈ acc, AlS z ∧ alN z ≤ B) ∧ Hid (chainO most [] (ks.map F) = chainO most acc ((ks.drop k).map F)) ∧ Mem w H [own mono_AltR 5 53 vo acc] H2 wr) (fun _ i _ => ks.length - (intOf i).toNat)
  case atStart => exact ⟨0, [], H, Nat.zero_le _, rfl, PLe.refl _, Nat.zero_le _, (fun z hz => by cases hz), hst, hM0⟩
  case round =>
    clear hM0 hst
    obtain ⟨k, acc, H2, hk, rfl, hl2, hal, hac, hst, hM⟩ := hrel
    replace hac := Lib.hid hac
    obtain ⟨oo, oc, rfl, -⟩ := hM.form 0 rfl
    by_cases hlt : k < ks.length
    · obtain ⟨a0, o, p3, e3, p4, e4, rfl, h0, h1, h2, h3, hE, hbl⟩ := FmsR.atH hr (hl2.trans hM.ple) k hlt
      have hst2 : Hid (chainO most [] (ks.map F) = chainO most acc (F ks[k] :: (ks.drop (k + 1)).map F)) := by show _ = _; rw [hst.out, List.drop_eq_getElem_cons hlt, List.map_cons]
      have hfk := Lib.hid (fun w' (h : PLe H (ph w')) => hf.out _ (List.getElem_mem hlt) _ w' h hE)
      generalize ks[k] = g at *
      clear hst
      have hM2 := hM.new' #[.int .i64 g.op, .int .i64 g.n, .slice p3 g.inn.length e3, .slice p4 g.kids.length e4] 30 (n := wr.heap.size) rfl
      simp only [List.nil_append, List.cons_append] at hM2
      go_upto_region 5 with (fail)
      generalize hg2 : wr.heap.size = g2 at *
      generalize World.alloc _ _ = w2 at *
      have u0 : _ = some (Value.int .i64 g.op) := (hM2.box 1 rfl).facts.1 0
      have u1 : _ = some (Value.int .i64 g.n) := (hM2.box 1 rfl).facts.1 1
      have u2 : _ = some (Value.slice p3 g.inn.length e3) := (hM2.box 1 rfl).facts.1 2
      have u3 : _ = some (Value.slice p4 g.kids.length e4) := (hM2.box 1 rfl).facts.1 3
      go_wp2_with fail
      refine (hfk.out w2 (hl2.trans hM2.ple)).mono ?_
      rintro e w3 ⟨v3, ok, l, rfl, hx3, hr3, hll, hlc, hcase⟩
      have hac2 : Hid (∀ z ∈ acc ++ l, AlS z ∧ alN z ≤ B) := Lib.hid fun z hz => (List.mem_append.1 hz).elim (hac.out z) (hlc z)
      clear hlc
      clear u0 u1 u2 u3 hfk
      have hM3 := hM2.up hx3
      have hl3 : PLe H (up H2 w2 w3) := hl2.trans (ple_up hM2.ple)
      replace hr3 : AltsR (up H2 w2 w3) v3 l := hr3.mono mono_AltR (up_mono hl2)
      generalize up H2 w2 w3 = H3 at *
      obtain ⟨p, q, rfl, -⟩ := hr3.form
      have hS := Src.ofRep hr3 hM3.ple
      have hal2 : acc.length + l.length ≤ 128 := by omega
      go_wp2_with (first | (at_builtin; refine wpList_append_M 0 rfl _ _ 35 rfl Tryz.underlying35 infoAl rfl rfl rfl hM3 rfl hS one_AltR ?c3 ?c4 ?c5))
      case c3 => omega
      case c4 => omega
      case c5 =>
        intro v' w4 hM4
        try simp only [List.set_cons_zero] at hM4
        replace hM4 := hM4.only
        have hx9 := hM4.ex
        have f1 : w4.cell? ⟨b1, 0, none⟩ = some (.int .i64 most) := by rw [cell_ph]; exact cellAt_mono (hl3.trans hM4.ple) hb1
        obtain ⟨p8, q8, rfl, -⟩ := hM4.form 0 rfl
        clear hS hM3 hM2 hM hr3
        cases hF : F g with
        | none =>
          rw [hF] at hst2 hcase
          have hok : ok = false := hcase
          subst hok
          have hfin : Hid (chainO most [] (ks.map F) = none) := hst2
          go_wp2_with fail
          go_ret2
          exact ⟨_, _, [], rfl, hx9, SliceRep.nil _ _ _, Nat.zero_le _, (fun z hz => by cases hz), by rw [hfin.out]⟩
        | some r =>
          rw [hF] at hst2 hcase
          obtain ⟨rfl, rfl⟩ := hcase
          by_cases hgt : most < (acc ++ l).length
          · have hfin : Hid (chainO most [] (ks.map F) = none) := by show _ = _; rw [hst2.out, chainO, if_pos hgt]
            generalize acc ++ l = L at *
            have b2 : decide ((most : Int) < (L.length : Int)) = true := decide_eq_true (by omega)
            clear hst2
            go_wp2_with fail
            go_ret2
            exact ⟨_, _, [], rfl, hx9, SliceRep.nil _ _ _, Nat.zero_le _, (fun z hz => by cases hz), by rw [hfin.out]⟩
          · have hfin : Hid (chainO most [] (ks.map F) = chainO most (acc ++ l) ((ks.drop (k + 1)).map F)) := by show _ = _; rw [hst2.out, chainO, if_neg hgt]
            generalize acc ++ l = L at *
            have b2 : decide ((most : Int) < (L.length : Int)) = false := decide_eq_false (by omega)
            clear hst2
            go_wp2_with fail
            go_roundw
            case rel => exact ⟨k + 1, _, _, by omega, by go_num, hl3, by omega, hac2.out, hfin, hM4⟩
            case measure => simp [intOf]; omega
    · have hkk : k = ks.length := by omega
      subst hkk
      rw [List.drop_length] at hst
      have hst2 : Hid (chainO most [] (ks.map F) = some acc) := hst
      go_wp2_with fail
      go_ret2
      exact ⟨_, _, acc, rfl, hM.ex, hM.repUp 0 rfl, hal, hac.out, by rw [hst2.out]; exact ⟨rfl, rfl⟩⟩
theorem al0_R (H : PH) : AltR H [.slice none 0 0, .slice none 0 0, .slice none 0 0, .slice none 0 0, .slice none 0 0] al0 := ⟨none, 0, none, 0, none, 0, none, 0, none, 0, rfl, SliceRep.nil _ _ _, SliceRep.nil _ _ _, SliceRep.nil _ _ _, SliceRep.nil _ _ _, SliceRep.nil _ _ _⟩
theorem al0_S (B : Nat) : AlS al0 ∧ alN al0 ≤ B := ⟨⟨List.Pairwise.nil, List.Pairwise.nil, List.Pairwise.nil, List.Pairwise.nil, List.Pairwise.nil⟩, Nat.zero_le _⟩
set_option maxRecDepth 100000 in
set_option maxHeartbeats 4000000 in
theorem product_c {H : PH} (most b1 fid : Nat) (Bf : Fm → Nat) (caps : Array Value) (F : Fm → Option (List Al)) (ks : List Fm) (vk : Value) (w : World) (hl : PLe H (ph w)) (hb1 : cellAt H b1 0 = some (.int .i64 most)) (hm : most ≤ 64) (hm1 : 1 ≤ most) (hr : FmsR H vk ks) (hkl : ks.length ≤ 100000)
    (hfn : ∀ args w, (callFunc fid args).run Tryz.prog w = .ok (.enter fid args) w) (hB : sumN Bf ks ≤ 50000)
    (hf : ∀ g ∈ ks, ∀ cs w', PLe H (ph w') → FmR H cs g → Calls Tryz.prog fid (#[.agg cs.toArray] ++ caps) w' (DivP w' H most (Bf g) (F g))) :
    Calls Tryz.prog 96 #[vk, .func (.func fid) #[] caps, .pointer (some ⟨b1, 0, none⟩)] w (DivP w H most (sumN Bf ks) (prodO most [al0] (ks.map F))) := by
  obtain ⟨ia, ja, rfl, -, hr⟩ := hr.form
  replace hf := Lib.hid hf
  have hM0 := ((Mem.start w H hl).new' #[.slice none 0 0, .slice none 0 0, .slice none 0 0, .slice none 0 0, .slice none 0 0] 53 (n := w.heap.size) rfl).asOwn (xs := [al0]) (E := AltR) (sz := 5) 0 rfl mono_AltR (n := 1) (by simp) (by decide) rfl ⟨_, [], rfl, rfl, al0_R H, rfl⟩
  simp only [List.nil_append, List.set_cons_zero] at hM0
  have hst : Hid (prodO most [al0] (ks.map F) = prodO most [al0] ((ks.drop 0).map F)) := rfl
  go_enter Tryz.func96, Tryz.ntmps96
  go_upto_block 0 with (fail)
  generalize World.alloc _ _ = w1 at *
  go_wp2_with fail
  go_loopw [7, 23] (fun vo i wr => ∃ (k : Nat) (acc : List Al) (H2 : PH), k ≤ ks.length ∧ i = .int .i64 k ∧ PLe H H2 ∧ acc.length ≤ most ∧ (∀ z ∈ acc, AlS z ∧ alN z ≤ sumN Bf (ks.take k)) ∧ Hid (prodO most [al0] (ks.map F) = prodO most acc ((ks.drop k).map F)) ∧ Mem w H [own mono_AltR 5 53 vo acc] H2 wr) (fun _ i _ => ks.length - (intOf i).toNat)
  case atStart => exact ⟨0, [al0], H, Nat.zero_le _, rfl, PLe.refl _, hm1, (fun z hz => by rw [List.mem_singleton] at hz; subst hz; exact al0_S _), hst, hM0⟩
  case round =>
    clear hM0 hst
    obtain ⟨k, acc, H2, hk, rfl, hl2, hal, hac, hst, hM⟩ := hrel
    replace hac := Lib.hid hac
    obtain ⟨oo, oc, rfl, -⟩ := hM.form 0 rfl
    by_cases hlt : k < ks.length
    · obtain ⟨a0, o, p3, e3, p4, e4, rfl, h0, h1, h2, h3, hE, hbl⟩ := FmsR.atH hr (hl2.trans hM.ple) k hlt
      have hst2 : Hid (prodO most [al0] (ks.map F) = prodO most acc (F ks[k] :: (ks.drop (k + 1)).map F)) := by show _ = _; rw [hst.out, List.drop_eq_getElem_cons hlt, List.map_cons]
      have hfk := Lib.hid (fun w' (h : PLe H (ph w')) => hf.out _ (List.getElem_mem hlt) _ w' h hE)
      have hsn := Lib.hid (sumN_take Bf ks k hlt)
      have hsl := sumN_take_le Bf ks (k + 1)
      generalize ks[k] = g at *
      clear hst
      have hM2 := hM.new' #[.int .i64 g.op, .int .i64 g.n, .slice p3 g.inn.length e3, .slice p4 g.kids.length e4] 30 (n := wr.heap.size) rfl
      simp only [List.nil_append, List.cons_append] at hM2
      go_upto_region 5 with (fail)
      generalize hg2 : wr.heap.size = g2 at *
      generalize World.alloc _ _ = w2 at *
      have u0 : _ = some (Value.int .i64 g.op) := (hM2.box 1 rfl).facts.1 0
      have u1 : _ = some (Value.int .i64 g.n) := (hM2.box 1 rfl).facts.1 1
      have u2 : _ = some (Value.slice p3 g.inn.length e3) := (hM2.box 1 rfl).facts.1 2
      have u3 : _ = some (Value.slice p4 g.kids.length e4) := (hM2.box 1 rfl).facts.1 3
      go_wp2_with fail
      refine (hfk.out w2 (hl2.trans hM2.ple)).mono ?_
      rintro e w3 ⟨v3, ok, l, rfl, hx3, hr3, hll, hlc, hcase⟩
      replace hlc := Lib.hid hlc
      clear u0 u1 u2 u3 hfk
      have hM3 := (hM2.up hx3).only
      have hl3 : PLe H (up H2 w2 w3) := hl2.trans (ple_up hM2.ple)
      replace hr3 : AltsR (up H2 w2 w3) v3 l := hr3.mono mono_AltR (up_mono hl2)
      generalize up H2 w2 w3 = H3 at *
      obtain ⟨p, q, rfl, -, hr3⟩ := hr3.form
      have hx9 := hM3.ex
      have f1 : w3.cell? ⟨b1, 0, none⟩ = some (.int .i64 most) := by rw [cell_ph]; exact cellAt_mono (hl3.trans hM3.ple) hb1
      clear hM2 hM
      cases hF : F g with
      | none =>
        rw [hF] at hst2 hcase
        have hok : ok = false := hcase
        subst hok
        have hfin : Hid (prodO most [al0] (ks.map F) = none) := hst2
        go_wp2_with fail
        go_ret2
        exact ⟨_, _, [], rfl, hx9, SliceRep.nil _ _ _, Nat.zero_le _, (fun z hz => by cases hz), by rw [hfin.out]⟩
      | some r =>
        rw [hF] at hst2 hcase
        obtain ⟨rfl, rfl⟩ := hcase
        have hmul : acc.length * l.length ≤ 64 * 64 := Nat.mul_le_mul (by omega) (by omega)
        have hcst : ((acc.length : Int) * (l.length : Int)) = ((acc.length * l.length : Nat) : Int) := by push_cast; rfl
        by_cases hgt : most < acc.length * l.length
        · have hfin : Hid (prodO most [al0] (ks.map F) = none) := by show _ = _; rw [hst2.out, prodO, if_pos hgt]
          have b2 : decide ((most : Int) < (acc.length : Int) * (l.length : Int)) = true := decide_eq_true (by rw [hcst]; omega)
          clear hst2
          replace hcst := Lib.hid hcst
          go_wp2_with fail
          go_ret2
          exact ⟨_, _, [], rfl, hx9, SliceRep.nil _ _ _, Nat.zero_le _, (fun z hz => by cases hz), by rw [hfin.out]⟩
        · have hst3 : Hid (prodO most [al0] (ks.map F) = (crossO acc l).bind fun n => prodO most n ((ks.drop (k + 1)).map F)) := by show _ = _; rw [hst2.out, prodO, if_neg hgt]
          have b2 : decide ((most : Int) < (acc.length : Int) * (l.length : Int)) = false := decide_eq_false (by rw [hcst]; omega)
          clear hst2
          replace hcst := Lib.hid hcst
          have hN0 := hM3.nil mono_AltR 5 53
          simp only [List.nil_append, List.cons_append] at hN0
          have hc0 : Hid (crossO acc l = (crossO (acc.drop 0) l).map ([] ++ ·)) := by show _ = _; rw [List.drop_zero]; cases crossO acc l <;> rfl
          have hmg : acc.length * l.length ≤ most := by omega
          replace hgt := Lib.hid hgt
          clear hM3 hmul
          go_wp2_with fail
          go_loopw [12, 46] (fun vn i wr => ∃ (j : Nat) (nxt : List Al) (H4 : PH), j ≤ acc.length ∧ i = .int .i64 j ∧ PLe H3 H4 ∧ Hid (crossO acc l = (crossO (acc.drop j) l).map (nxt ++ ·)) ∧ (∀ z ∈ nxt, AlS z ∧ alN z ≤ sumN Bf (ks.take (k + 1))) ∧ nxt.length ≤ j * l.length ∧ Mem w H [own mono_AltR 5 53 (.slice oo acc.length oc) acc, own mono_AltR 5 53 vn nxt] H4 wr) (fun _ i _ => acc.length - (intOf i).toNat)
          case atStart => exact ⟨0, [], H3, Nat.zero_le _, rfl, PLe.refl _, hc0, (fun z hz => by cases hz), Nat.zero_le _, hN0⟩
          case round =>
            clear hN0 hc0
            obtain ⟨j, nxt, H4, hj, rfl, hl4, hcr, hnx, hnl, hM⟩ := hrel
            replace hnx := Lib.hid hnx
            obtain ⟨on, nc, rfl, -⟩ := hM.form 1 rfl
            by_cases hjl : j < acc.length
            · obtain ⟨gx, capx, cs, ex, hcl, hce, hEx, zl⟩ := hM.get 0 rfl j hjl
              cases ex
              obtain ⟨i1, j1, i2, j2, i3, j3, i4, j4, i5, j5, rfl, -⟩ := id hEx
              have z0 : wr.cell? ⟨gx, j * 5, none⟩ = some (.slice i1 acc[j].yes.length j1) := by have h := hce 0 (by omega); simp only [Nat.add_zero, List.getD_cons_zero, List.getD_cons_succ, Nat.zero_add] at h; exact h
              have z1 : wr.cell? ⟨gx, j * 5 + 1, none⟩ = some (.slice i2 acc[j].no.length j2) := by have h := hce 1 (by omega); simp only [Nat.add_zero, List.getD_cons_zero, List.getD_cons_succ, Nat.zero_add] at h; exact h
              have z2 : wr.cell? ⟨gx, j * 5 + 2, none⟩ = some (.slice i3 acc[j].nums.length j3) := by have h := hce 2 (by omega); simp only [Nat.add_zero, List.getD_cons_zero, List.getD_cons_succ, Nat.zero_add] at h; exact h
              have z3 : wr.cell? ⟨gx, j * 5 + 3, none⟩ = some (.slice i4 acc[j].has.length j4) := by have h := hce 3 (by omega); simp only [Nat.add_zero, List.getD_cons_zero, List.getD_cons_succ, Nat.zero_add] at h; exact h
              have z4 : wr.cell? ⟨gx, j * 5 + 4, none⟩ = some (.slice i5 acc[j].non.length j5) := by have h := hce 4 (by omega); simp only [Nat.add_zero, List.getD_cons_zero, List.getD_cons_succ, Nat.zero_add] at h; exact h
              clear hce hcl
              have hcr2 : Hid (crossO acc l = (rowO acc[j] (l.drop 0)).bind fun r => (crossO (acc.drop (j + 1)) l).map fun q => nxt ++ (r ++ q)) := by
                show _ = _
                rw [hcr.out, List.drop_eq_getElem_cons hjl, crossO, List.drop_zero]
                cases rowO acc[j] l with
                | none => rfl
                | some r => simp only [Option.bind_some]; cases crossO (acc.drop (j + 1)) l <;> rfl
              have hxs := Lib.hid (hac.out _ (List.getElem_mem hjl))
              generalize acc[j] = x at *
              clear hcr
              have hM2 := hM.new' #[.slice i1 x.yes.length j1, .slice i2 x.no.length j2, .slice i3 x.nums.length j3, .slice i4 x.has.length j4, .slice i5 x.non.length j5] 53 (n := wr.heap.size) rfl
              simp only [List.nil_append, List.cons_append] at hM2
              go_upto_region 12 with (fail)
              generalize hg4 : wr.heap.size = g4 at *
              generalize World.alloc _ _ = w4 at *
              go_wp2_with fail
              go_loopw [12, 52] (fun vn i wr => ∃ (jj : Nat) (nx : List Al) (H5 : PH), jj ≤ l.length ∧ i = .int .i64 jj ∧ PLe H4 H5 ∧ Hid (crossO acc l = (rowO x (l.drop jj)).bind fun r => (crossO (acc.drop (j + 1)) l).map fun q => nx ++ (r ++ q)) ∧ (∀ z ∈ nx, AlS z ∧ alN z ≤ sumN Bf (ks.take (k + 1))) ∧ nx.length ≤ j * l.length + jj ∧ Mem w H [own mono_AltR 5 53 (.slice (some ⟨gx, 0, none⟩) acc.length oc) acc, own mono_AltR 5 53 vn nx, box g4 #[.slice i1 x.yes.length j1, .slice i2 x.no.length j2, .slice i3 x.nums.length j3, .slice i4 x.has.length j4, .slice i5 x.non.length j5] 53] H5 wr) (fun _ i _ => l.length - (intOf i).toNat)
              case atStart => exact ⟨0, nxt, H4, Nat.zero_le _, rfl, PLe.refl _, hcr2, hnx.out, by omega, hM2⟩
              case round =>
                clear hM2 hM hcr2 hnx hnl
                obtain ⟨jj, nx, H5, hjj, rfl, hl5, hcr, hnx, hnl, hM⟩ := hrel
                replace hnx := Lib.hid hnx
                obtain ⟨o8, c8, rfl, -⟩ := hM.form 1 rfl
                by_cases hjk : jj < l.length
                · obtain ⟨by', o9, r1, s1, r2, s2, r3, s3, r4, s4, r5, s5, ey, y0, y1, y2, y3, y4, hEy, yl⟩ := AltsR.atH (hr3.mono mono_AltR (hl4.trans hl5)) hM.ple jj hjk
                  cases ey
                  have hcr3 : Hid (crossO acc l = (rowO x (l[jj] :: l.drop (jj + 1))).bind fun r => (crossO (acc.drop (j + 1)) l).map fun q => nx ++ (r ++ q)) := by show _ = _; rw [hcr.out, List.drop_eq_getElem_cons hjk]
                  have hys := Lib.hid (hlc.out _ (List.getElem_mem hjk))
                  generalize l[jj] = y at *
                  clear hcr
                  have hM6 := hM.new' #[.slice r1 y.yes.length s1, .slice r2 y.no.length s2, .slice r3 y.nums.length s3, .slice r4 y.has.length s4, .slice r5 y.non.length s5] 53 (n := wr.heap.size) rfl
                  simp only [List.nil_append, List.cons_append] at hM6
                  go_upto_region 15 with (fail)
                  generalize hg6 : wr.heap.size = g6 at *
                  generalize World.alloc _ _ = w6 at *
                  clear y0 y1 y2 y3 y4 yl
                  have vx0 : _ = some (Value.slice i1 x.yes.length j1) := (hM6.box 2 rfl).facts.1 0
                  have vx1 : _ = some (Value.slice i2 x.no.length j2) := (hM6.box 2 rfl).facts.1 1
                  have vx2 : _ = some (Value.slice i3 x.nums.length j3) := (hM6.box 2 rfl).facts.1 2
                  have vx3 : _ = some (Value.slice i4 x.has.length j4) := (hM6.box 2 rfl).facts.1 3
                  have vx4 : _ = some (Value.slice i5 x.non.length j5) := (hM6.box 2 rfl).facts.1 4
                  have vy0 : _ = some (Value.slice r1 y.yes.length s1) := (hM6.box 3 rfl).facts.1 0
                  have vy1 : _ = some (Value.slice r2 y.no.length s2) := (hM6.box 3 rfl).facts.1 1
                  have vy2 : _ = some (Value.slice r3 y.nums.length s3) := (hM6.box 3 rfl).facts.1 2
                  have vy3 : _ = some (Value.slice r4 y.has.length s4) := (hM6.box 3 rfl).facts.1 3
                  have vy4 : _ = some (Value.slice r5 y.non.length s5) := (hM6.box 3 rfl).facts.1 4
                  have hjc := Lib.hid (join_c x y _ _ w6 hM6.ple (mono_AltR _ _ _ _ hl5 hEx) hEy (AlS.a hxs.out.1 (by have := hxs.out.2; have := hsn.out; omega)) (AlS.a hys.out.1 (by have := hys.out.2; have := hsn.out; omega)))
                  go_wp2_with fail
                  refine hjc.out.mono ?_
                  rintro e w7 ⟨cs, c, rfl, hx7, hcase⟩
                  clear hjc vx0 vx1 vx2 vx3 vx4 vy0 vy1 vy2 vy3 vy4
                  have hM7 := hM6.up hx7
                  have hl7 : PLe H4 (up H5 w6 w7) := hl5.trans (ple_up hM6.ple)
                  cases hJ : joinA x y with
                  | none =>
                    rw [hJ] at hcase
                    obtain ⟨hc, rfl⟩ := hcase
                    have hcn : crossO acc l = none := by rw [hcr3.out, rowO, hJ]; rfl
                    have hfin : Hid (prodO most [al0] (ks.map F) = none) := by show _ = _; rw [hst3.out, hcn]; rfl
                    have b8 : (c == 0) = false := by simpa using hc
                    have b9 : (c != 0) = true := by simpa using hc
                    have hx9 := hM7.ex
                    clear hcn hJ
                    go_wp2_with fail
                    go_ret2
                    exact ⟨_, _, [], rfl, hx9.then xE, SliceRep.nil _ _ _, Nat.zero_le _, (fun z hz => by cases hz), by rw [hfin.out]⟩
                  | some z =>
                    rw [hJ] at hcase
                    obtain ⟨rfl, hz⟩ := hcase
                    generalize up H5 w6 w7 = H7 at *
                    have hzs : Hid (∀ z' ∈ nx ++ [z], AlS z' ∧ alN z' ≤ sumN Bf (ks.take (k + 1))) := Lib.hid fun z' hz' => by
                      rcases List.mem_append.1 hz' with h | h
                      · exact hnx.out z' h
                      · rw [List.mem_singleton] at h; subst h
                        have := hxs.out.2; have := hys.out.2; have := hsn.out; have := joinA_len hJ
                        exact ⟨joinA_asc hxs.out.1 hys.out.1 hJ, by omega⟩
                    have hcr4 : Hid (crossO acc l = (rowO x (l.drop (jj + 1))).bind fun r => (crossO (acc.drop (j + 1)) l).map fun q => (nx ++ [z]) ++ (r ++ q)) := by
                      show _ = _
                      rw [hcr3.out, rowO, hJ, Option.bind_some]
                      cases rowO x (l.drop (jj + 1)) with
                      | none => rfl
                      | some r => simp only [Option.bind_some, Option.map_some]; cases crossO (acc.drop (j + 1)) l <;> simp
                    obtain ⟨i6, j6, i7, j7, i8, j8, i9, j9, ia, ja', rfl, -⟩ := id hz
                    clear hcr3 hJ hM6 hM hnx
                    have hM8 := hM7.new' #[.slice i6 z.yes.length j6, .slice i7 z.no.length j7, .slice i8 z.nums.length j8, .slice i9 z.has.length j9, .slice ia z.non.length ja'] 53 (n := w7.heap.size) rfl
                    simp only [List.nil_append, List.cons_append] at hM8
                    go_upto_region 18 with (fail)
                    generalize hg8 : w7.heap.size = g8 at *
                    generalize World.alloc _ _ = w8 at *
                    have q0 : _ = some (Value.slice i6 z.yes.length j6) := (hM8.box 4 rfl).facts.1 0
                    have q1 : _ = some (Value.slice i7 z.no.length j7) := (hM8.box 4 rfl).facts.1 1
                    have q2 : _ = some (Value.slice i8 z.nums.length j8) := (hM8.box 4 rfl).facts.1 2
                    have q3 : _ = some (Value.slice i9 z.has.length j9) := (hM8.box 4 rfl).facts.1 3
                    have q4 : _ = some (Value.slice ia z.non.length ja') := (hM8.box 4 rfl).facts.1 4
                    have hS : Src (w8.alloc (.cells #[.slice i6 z.yes.length j6, .slice i7 z.no.length j7, .slice i8 z.nums.length j8, .slice i9 z.has.length j9, .slice ia z.non.length ja'] 53)) H7 AltR 5 (.slice (some ⟨w8.heap.size, 0, none⟩) 1 1) [z] := Src.lit1 hz rfl fun j => by rw [(Proofs.YtabajghokhfmhaaGreat.Own.new w8 #[.slice i6 z.yes.length j6, .slice i7 z.no.length j7, .slice i8 z.nums.length j8, .slice i9 z.has.length j9, .slice ia z.non.length ja'] 53).facts.1 j]; simp
                    have hM9 := hM8.ext (Ext.new w8 (.cells #[.slice i6 z.yes.length j6, .slice i7 z.no.length j7, .slice i8 z.nums.length j8, .slice i9 z.has.length j9, .slice ia z.non.length ja'] 53))
                    have hjm : j * l.length + jj + 1 ≤ 64 * 64 := by
                      have h1 : (j + 1) * l.length ≤ acc.length * l.length := Nat.mul_le_mul_right _ hjl
                      rw [Nat.succ_mul] at h1; omega
                    go_wp2_with (first | (at_builtin; refine wpList_append_M 1 rfl _ _ 35 rfl Tryz.underlying35 infoAl rfl rfl rfl hM9 rfl hS one_AltR ?c3 ?c4 ?c5))
                    case c3 => simp only [List.length_singleton]; omega
                    case c4 => simp only [List.length_singleton]; omega
                    case c5 =>
                      intro v' w9 hM10
                      try simp only [List.set_cons_zero, List.set_cons_succ] at hM10
                      have hM11 := hM10.pick [0, 1, 2] (by decide)
                      clear hM9 hM8 hS
                      go_wp2_with fail
                      go_roundw
                      case rel => exact ⟨jj + 1, nx ++ [z], H7, by omega, by go_num, hl7, hcr4, hzs.out, by simp only [List.length_append, List.length_singleton]; omega, hM11⟩
                      case measure => simp [intOf]; omega
                · have hje : jj = l.length := by omega
                  subst hje
                  rw [List.drop_length] at hcr
                  have hcr3 : Hid (crossO acc l = (crossO (acc.drop (j + 1)) l).map (nx ++ ·)) := by show _ = _; rw [hcr.out]; simp [rowO]
                  have hM5 := hM.pick [0, 1] (by decide)
                  have hnl2 : nx.length ≤ (j + 1) * l.length := by rw [Nat.succ_mul]; exact hnl
                  go_wp2_with fail
                  go_roundw
                  case rel => exact ⟨j + 1, nx, H5, by omega, by go_num, hl4.trans hl5, hcr3, hnx.out, hnl2, hM5⟩
                  case measure => simp [intOf]; omega
            · have hjj : j = acc.length := by omega
              subst hjj
              rw [List.drop_length] at hcr
              have hcr2 : Hid (crossO acc l = some nxt) := by show _ = _; rw [hcr.out]; simp [crossO]
              have hfin : Hid (prodO most [al0] (ks.map F) = prodO most nxt ((ks.drop (k + 1)).map F)) := by show _ = _; rw [hst3.out, hcr2.out]; rfl
              have hM5 := hM.pick [1] (by decide)
              go_wp2_with fail
              go_roundw
              case rel => exact ⟨k + 1, nxt, H4, by omega, by go_num, hl3.trans hl4, by omega, hnx.out, hfin, hM5⟩
              case measure => simp [intOf]; omega
    · have hkk : k = ks.length := by omega
      subst hkk
      rw [List.drop_length] at hst
      rw [List.take_length] at hac
      have hst2 : Hid (prodO most [al0] (ks.map F) = some acc) := hst
      go_wp2_with fail
      go_ret2
      exact ⟨_, _, acc, rfl, hM.ex, hM.repUp 0 rfl, hal, hac.out, by rw [hst2.out]; exact ⟨rfl, rfl⟩⟩
end Go.Proofs.YtabajghokhfmhaaGreat
namespace Go.Proofs.YtabajghokhfmhaaGreat
theorem divF_eq (most : Nat) (f : Fm) (neg : Bool) : divF most f neg =
    if f.op = 1 then some [if neg then ⟨[], [f.n], [], [], []⟩ else ⟨[f.n], [], [], [], []⟩]
    else if f.op = 2 then (if neg then (notN f.inn).map fun s => [⟨[], [], [⟨f.n, s, true⟩], [], []⟩] else some [⟨[], [], [⟨f.n, f.inn, false⟩], [], []⟩])
    else if f.op = 3 then some [if neg then ⟨[], [], [], [], f.kids⟩ else ⟨[], [], [], f.kids, []⟩]
    else if f.op = 6 then ((f.kids.map fun g => divF most g !neg).head?).join
    else if (f.op = 5) = (neg = true) then prodO most [al0] (f.kids.map fun g => divF most g neg)
    else chainO most [] (f.kids.map fun g => divF most g neg) := by
  cases f with
  | mk op n inn kids =>
    rw [divF, divL_map, divL_map]
    rfl
inductive MoreO : List (Option (List Al)) → List (Option (List Al)) → Prop
  | nil : MoreO [] []
  | cons {x y : Option (List Al)} {l m : List (Option (List Al))} (h : ∀ z, x = some z → y = some z) (t : MoreO l m) : MoreO (x :: l) (y :: m)
theorem chainO_more {m1 m2 : Nat} (hm : m1 ≤ m2) : ∀ (rs ss : List (Option (List Al))) (acc r : List Al), MoreO rs ss → chainO m1 acc rs = some r → chainO m2 acc ss = some r
  | [], ss, acc, r, hr, h => by cases hr; exact h
  | none :: rs, ss, acc, r, hr, h => by rw [chainO] at h; cases h
  | some a :: rs, ss, acc, r, hr, h => by
    cases hr with
    | cons h1 h2 =>
      rw [h1 a rfl]
      rw [chainO] at h ⊢
      split at h
      · cases h
      · rw [if_neg (by omega)]; exact chainO_more hm rs _ _ r h2 h
theorem prodO_more {m1 m2 : Nat} (hm : m1 ≤ m2) : ∀ (rs ss : List (Option (List Al))) (acc r : List Al), MoreO rs ss → prodO m1 acc rs = some r → prodO m2 acc ss = some r
  | [], ss, acc, r, hr, h => by cases hr; exact h
  | none :: rs, ss, acc, r, hr, h => by rw [prodO] at h; cases h
  | some a :: rs, ss, acc, r, hr, h => by
    cases hr with
    | cons h1 h2 =>
      rw [h1 a rfl]
      rw [prodO] at h ⊢
      split at h
      · cases h
      · rw [if_neg (by omega)]
        cases hc : crossO acc a with
        | none => rw [hc] at h; cases h
        | some q =>
          rw [hc, Option.bind_some] at h
          rw [Option.bind_some]
          exact prodO_more hm rs _ _ r h2 h
theorem map_more {m1 m2 : Nat} {neg : Bool} : ∀ l : List Fm, (∀ g ∈ l, ∀ z, divF m1 g neg = some z → divF m2 g neg = some z) → MoreO (l.map fun g => divF m1 g neg) (l.map fun g => divF m2 g neg)
  | [], _ => .nil
  | g :: l, h => .cons (h g (by simp)) (map_more l fun x hx => h x (by simp [hx]))
theorem divF_more {m1 m2 : Nat} (hm : m1 ≤ m2) (f : Fm) : ∀ (neg : Bool) (r : List Al), divF m1 f neg = some r → divF m2 f neg = some r := by
  induction f using Fm.ind with
  | h f ih =>
    intro neg r h
    rw [divF_eq] at h ⊢
    split
    · rename_i h1; rw [if_pos h1] at h; exact h
    · rename_i h1
      rw [if_neg h1] at h
      split
      · rename_i h2; rw [if_pos h2] at h; exact h
      · rename_i h2
        rw [if_neg h2] at h
        split
        · rename_i h3; rw [if_pos h3] at h; exact h
        · rename_i h3
          rw [if_neg h3] at h
          split
          · rename_i h6
            rw [if_pos h6] at h
            cases hk : f.kids with
            | nil => rw [hk] at h; cases h
            | cons g l =>
              rw [hk] at h
              exact ih g (by rw [hk]; simp) (!neg) r h
          · rename_i h6
            rw [if_neg h6] at h
            split
            · rename_i h5
              rw [if_pos h5] at h
              exact prodO_more hm _ _ _ r (map_more _ fun g hg => ih g hg neg) h
            · rename_i h5
              rw [if_neg h5] at h
              exact chainO_more hm _ _ _ r (map_more _ fun g hg => ih g hg neg) h
theorem divF_len {most : Nat} (hm : 1 ≤ most) (f : Fm) : ∀ (neg : Bool) (r : List Al), divF most f neg = some r → r.length ≤ most := by
  induction f using Fm.ind with
  | h f ih =>
    intro neg r h
    rw [divF_eq] at h
    split at h
    · cases h; simpa using hm
    · split at h
      · split at h
        · cases hn : notN f.inn with
          | none => rw [hn] at h; cases h
          | some s => rw [hn] at h; cases h; simpa using hm
        · cases h; simpa using hm
      · split at h
        · cases h; simpa using hm
        · split at h
          · cases hk : f.kids with
            | nil => rw [hk] at h; cases h
            | cons g l =>
              rw [hk] at h
              exact ih g (by rw [hk]; simp) (!neg) r h
          · split at h
            · exact prodO_len _ _ r (by simpa using hm) h
            · exact chainO_len _ _ r (by simp) h
inductive NodeK (f : Fm) : Prop where
  | tru (h : f.op = 0) (k : f.kids = [])
  | cls (h : f.op = 1) (k : f.kids = []) (n0 : 0 ≤ f.n) (n1 : f.n < 64)
  | val (h : f.op = 2) (k : f.kids = []) (n0 : 0 ≤ f.n) (n1 : f.n < 32) (s : setE f.inn = 0)
  | part (g : Fm) (h : f.op = 3) (k : f.kids = [g])
  | all (h : f.op = 4)
  | any (h : f.op = 5)
  | non (g : Fm) (h : f.op = 6) (k : f.kids = [g])
theorem node_kind {f : Fm} (h : formed1 f = true) : NodeK f := by
  unfold formed1 at h
  split at h
  · cases h
  · split at h
    · rename_i h0; exact .tru h0 (List.isEmpty_iff.1 h)
    · split at h
      · rename_i h0
        simp only [Bool.and_eq_true, decide_eq_true_eq] at h
        exact .cls h0 (List.isEmpty_iff.1 h.1.1) h.1.2 h.2
      · split at h
        · rename_i h0
          simp only [Bool.and_eq_true, decide_eq_true_eq] at h
          exact .val h0 (List.isEmpty_iff.1 h.1.1.1) h.1.1.2 h.1.2 h.2
        · split at h
          · rename_i h0
            obtain ⟨g, hg⟩ := List.length_eq_one_iff.1 (of_decide_eq_true h)
            rcases h0 with h0 | h0
            · exact .part g h0 hg
            · exact .non g h0 hg
          · rw [Bool.or_eq_true, decide_eq_true_eq, decide_eq_true_eq] at h
            rcases h with h | h
            · exact .all h
            · exact .any h
end Go.Proofs.YtabajghokhfmhaaGreat
namespace Go.Proofs.YtabajghokhfmhaaGreat
open Go.RowKit Go.Shelf
set_option maxRecDepth 100000 in
theorem cloneFm_c {H : PH} (xs : List Fm) (v : Value) (w : World) (hl : PLe H (ph w)) (hr : FmsR H v xs) (hn : xs.length ≤ 1000000) : Calls Tryz.prog 99 #[v] w (fun e w' => ∃ v', e = .returned v' ∧ Ext w w' ∧ FmsR (up H w w') v' xs) := by
  obtain ⟨a, c, rfl, -, hA⟩ := hr.form
  have hq := fun w => Lib.run_eql_slice_nil (P := Tryz.prog) w 28 30 a xs.length c 0 0 Tryz.underlying28
  cases a with
  | none =>
    have hx : xs = [] := by
      cases xs with
      | nil => rfl
      | cons x r =>
        obtain ⟨b, o, cs, h, -⟩ := hA.get 0 (by simp)
        cases h
    subst hx
    simp only [List.length_nil, Option.isNone_none] at hq ⊢
    go_enter Tryz.func99, Tryz.ntmps99
    go_wp2_with fail
    go_ret
    exact ⟨_, rfl, xE, SliceRep.nil _ _ _⟩
  | some ad =>
    have hM0 := ((Mem.start w H hl).new #[] 30).asOwn (xs := ([] : List Fm)) (E := FmR) (sz := 4) 0 rfl mono_FmR (n := 0) (by simp) (by decide) rfl rfl
    simp only [List.nil_append, List.set_cons_zero] at hM0
    have hS := Src.ofRep (w := w.alloc (.cells #[] 30)) hA hM0.ple
    clear hA
    simp only [Option.isNone_some] at hq
    go_enter Tryz.func99, Tryz.ntmps99
    go_wp2_with (first | (at_builtin; refine wpList_append_M 0 rfl _ _ 28 rfl Tryz.underlying28 infoFm rfl rfl rfl hM0 rfl hS one_FmR (by simp; omega) (by simp; omega) ?c5))
    case c5 =>
      intro v' w' hM
      try simp only [List.nil_append, List.set_cons_zero] at hM
      obtain ⟨na, nc, rfl, -⟩ := hM.form 0 rfl
      go_wp2_with fail
      go_ret
      exact ⟨_, rfl, hM.ex, hM.repUp 0 rfl⟩
end Go.Proofs.YtabajghokhfmhaaGreat
