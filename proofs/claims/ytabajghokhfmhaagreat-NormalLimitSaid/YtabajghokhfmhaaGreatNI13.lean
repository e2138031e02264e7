/- Lemmas for NI, part 14: the stable sort: stableCmpFunc and SortStableFunc (text of things, and more. -/
import Derived.Test.YtabajghokhfmhaaGreatNI08
import Derived.Test.YtabajghokhfmhaaGreatNI12
set_option linter.unusedSimpArgs false
set_option linter.unusedVariables false
namespace Go.Proofs.YtabajghokhfmhaaGreat
open Go.RowKit Go.Shelf
set_option maxRecDepth 100000 in
set_option maxHeartbeats 4000000 in
theorem stab_F {α : Type} (c : α → α → Int) (hc : Ordr c) (E : PH → List Value → α → Prop) (hm : Mono E) (hone : ∀ H cs x, E H cs x → ∀ u ∈ cs, u.oneCell' = true) (fid g N cap : Nat) (xs : List α) (w0 w : World) (H0 H : PH) (LB : List Chunk)
    (hM : Mem w0 H0 (own hm 4 30 (.slice (some ⟨g, 0, none⟩) N cap) xs :: LB) H w) (hf : HCmp E H c fid) (hfn : ∀ args w, (callFunc fid args).run Tryz.prog w = .ok (.enter fid args) w)
    (hN : xs.length = N) (hN6 : N ≤ 1000000) :
    Calls Tryz.prog 235 #[.slice (some ⟨g, 0, none⟩) N cap, .int .i64 N, .func (.func fid) #[] #[]] w
      (UnitP fun w' => Mem w0 H0 (own hm 4 30 (.slice (some ⟨g, 0, none⟩) N cap) (stS c xs) :: LB) H w') := by
  have hO : (tag xs).length = N := by rw [← hN]; unfold tag; exact List.length_zipIdx
  have hup := tag_up xs
  have hout : Hid (∀ C : List (α × Nat), InO c C → C.Perm (tag xs) → C.map Prod.fst = stS c xs) := Lib.hid fun C h1 h2 => stS_of hc h1 h2
  have hst : Mem w0 H0 (own hm 4 30 (.slice (some ⟨g, 0, none⟩) N cap) ((tag xs).map Prod.fst) :: LB) H w := by rw [tag_fst]; exact hM
  generalize tag xs = O at *
  have HF := Lib.hid hf; clear hf hM hN
  replace hO := Lib.hid hO
  replace hup := Lib.hid hup
  replace hst := Lib.hid hst
  go_enter Tryz.func235, Tryz.ntmps235
  go_wp2_with fail
  go_loopw [7, 8] (fun va vb wr => ∃ (k A0 : Nat) (C : List (α × Nat)), va = .int .i64 (A0 : Int) ∧ vb = .int .i64 ((A0 + 20 : Nat) : Int) ∧ A0 ≤ N ∧ Hid (A0 = k * 20 ∧ Ps c 20 k C O O) ∧ Mem w0 H0 (own hm 4 30 (.slice (some ⟨g, 0, none⟩) N cap) (C.map Prod.fst) :: LB) H wr) (fun va _ _ => N - (intOf va).toNat)
  case atStart => exact ⟨0, 0, O, rfl, by go_num, by omega, Lib.hid ⟨rfl, Ps.start rfl⟩, hst.out⟩
  case round =>
    clear hst
    obtain ⟨k, A0, C, rfl, rfl, hAN, hP, hM⟩ := hrel
    obtain ⟨hk, hPs⟩ := hP.out
    have hCl : C.length = N := by rw [hPs.1]; exact hO.out
    have hdr : C.drop A0 = O.drop A0 := by rw [hk]; exact hPs.2.2.2
    have lP : (C.take A0).length = A0 := by rw [List.length_take]; omega
    by_cases hlt : A0 + 20 ≤ N
    · have hd1 : decide (A0 + 20 ≤ N) = true := decide_eq_true hlt
      have hd2 : decide ((A0 : Int) + 20 ≤ (N : Int)) = true := by simp; omega
      have hS : sg 20 C k = sg 20 O k := by unfold sg; rw [← hk, hdr]
      have hsl : (sg 20 O k).length = 20 := by rw [sg_len, hO.out, ← hk]; omega
      have hsplit : C.take A0 ++ sg 20 O k ++ C.drop (A0 + 20) = C := by
        rw [← hS, List.append_assoc, show A0 + 20 = (k + 1) * 20 by omega, ← sg_rest, ← hk, List.take_append_drop]
      have hI := insSort_F c hc E hm hone fid g N cap A0 (A0 + 20) (C.take A0) (sg 20 O k) (C.drop (A0 + 20)) w0 wr H0 H LB (by rw [hsplit]; exact hM) HF.out hfn (by rw [hsplit]; exact hCl) lP (by rw [lP, hsl]) hN6 (sg_up hup.out)
      have hnx : Hid (∀ S', InO c S' → S'.Perm (sg 20 O k) → Ps c 20 (k + 1) (C.take A0 ++ S' ++ C.drop (A0 + 20)) O O) := Lib.hid fun S' i1 i2 => by
        have := hPs.step (by omega) (by rw [← hk, hO.out]; omega) i1 i2
        rwa [← hk, i2.length_eq, hsl] at this
      replace hI := Lib.hid hI
      replace hk := Lib.hid hk
      clear hPs hdr lP hS hsl hsplit hM hCl
      go_wp2_with fail
      refine hI.out.mono ?_
      rintro e w2 ⟨rfl, S', i1, i2, hM2⟩
      have hn := Lib.hid (hnx.out S' i1 i2)
      clear hI i1 i2
      go_wp2_with fail
      go_roundw
      case rel => exact ⟨k + 1, A0 + 20, _, by go_num, by go_num, hlt, Lib.hid ⟨by have := hk.out; omega, hn.out⟩, hM2⟩
      case measure => simp [intOf] <;> omega
    · have hd1 : decide (A0 + 20 ≤ N) = false := decide_eq_false hlt
      have hd2 : decide ((A0 : Int) + 20 ≤ (N : Int)) = false := by simp; omega
      have hS : C.drop A0 = sg 20 O k := by unfold sg; rw [← hk, ← hdr, List.take_of_length_le (by rw [List.length_drop]; omega)]
      have hsl : (sg 20 O k).length = N - A0 := by rw [sg_len, hO.out, ← hk]; omega
      have hsplit : C.take A0 ++ sg 20 O k ++ [] = C := by rw [← hS, List.append_nil, List.take_append_drop]
      have hI := insSort_F c hc E hm hone fid g N cap A0 N (C.take A0) (sg 20 O k) [] w0 wr H0 H LB (by rw [hsplit]; exact hM) HF.out hfn (by rw [hsplit]; exact hCl) lP (by rw [lP, hsl]; omega) hN6 (sg_up hup.out)
      have hnx : Hid (∀ S', InO c S' → S'.Perm (sg 20 O k) → Bk c 20 (C.take A0 ++ S' ++ []) O) := Lib.hid fun S' i1 i2 => by
        have := hPs.step (by omega) (by rw [← hk, hO.out]; omega) i1 i2
        rw [← hk, i2.length_eq, hsl, List.drop_eq_nil_of_le (show C.length ≤ A0 + (N - A0) by omega)] at this
        exact this.done (by rw [hO.out]; omega)
      replace hI := Lib.hid hI
      clear hPs hdr lP hS hsl hsplit hM hCl hk hP
      go_wp2_with fail
      refine hI.out.mono ?_
      rintro e w2 ⟨rfl, S', i1, i2, hM2⟩
      have hn := Lib.hid (hnx.out S' i1 i2)
      obtain ⟨C1, hC1⟩ : ∃ C1, C.take A0 ++ S' ++ [] = C1 := ⟨_, rfl⟩
      rw [hC1] at hn hM2
      clear hI i1 i2 hnx hC1
      go_wp2_with fail
      go_loopw [6] (fun vs wr => ∃ (bs : Nat) (C : List (α × Nat)), vs = .int .i64 (bs : Int) ∧ 20 ≤ bs ∧ Hid (Bk c bs C O) ∧ Mem w0 H0 (own hm 4 30 (.slice (some ⟨g, 0, none⟩) N cap) (C.map Prod.fst) :: LB) H wr) (fun vs _ => N - (intOf vs).toNat)
      case atStart => exact ⟨20, C1, rfl, by omega, hn, hM2⟩
      case round =>
        clear hM2 hn
        obtain ⟨bs, C0, rfl, hbs, hB, hM⟩ := hrel
        by_cases hlt2 : bs < N
        · have hd3 : decide (bs < N) = true := decide_eq_true hlt2
          have hw1 : IntKind.i64.wrap (2 * (bs : Int)) = ((2 * bs : Nat) : Int) := by rw [IntKind.wrap_i64]; omega
          have hC0l : C0.length = N := by rw [hB.out.1]; exact hO.out
          have hPs0 : Ps c (2 * bs) 0 C0 C0 O := Ps.start hB.out.1
          have hMo := Lib.hid hM
          clear hM
          go_wp2_with fail
          go_loopw [7, 8] (fun va vb wr => ∃ (k A0 : Nat) (C : List (α × Nat)), va = .int .i64 (A0 : Int) ∧ vb = .int .i64 ((A0 + 2 * bs : Nat) : Int) ∧ A0 ≤ N ∧ Hid (A0 = k * (2 * bs) ∧ Ps c (2 * bs) k C C0 O) ∧ Mem w0 H0 (own hm 4 30 (.slice (some ⟨g, 0, none⟩) N cap) (C.map Prod.fst) :: LB) H wr) (fun va _ _ => N - (intOf va).toNat)
          case atStart => exact ⟨0, 0, C0, rfl, by go_num, by omega, Lib.hid ⟨by simp, hPs0⟩, hMo.out⟩
          case round =>
            clear hMo hPs0
            obtain ⟨k, A0, C, rfl, rfl, hAN, hP, hM⟩ := hrel
            obtain ⟨hk, hPs⟩ := hP.out
            have hCl : C.length = N := by rw [hPs.1]; exact hO.out
            have hk2 : 2 * k * bs = A0 := by rw [hk, Nat.mul_comm 2 k, Nat.mul_assoc]
            have hk3 : (2 * k + 1) * bs = A0 + bs := by rw [Nat.add_mul, Nat.one_mul, hk2]
            have hk4 : (2 * k + 1 + 1) * bs = A0 + 2 * bs := by rw [Nat.add_mul, Nat.one_mul, hk3]; omega
            have hdr : C.drop A0 = C0.drop A0 := by rw [hk]; exact hPs.2.2.2
            have lP : (C.take A0).length = A0 := by rw [List.length_take]; omega
            have r1 : C.drop A0 = sg bs C0 (2 * k) ++ C0.drop (A0 + bs) := by rw [hdr, ← hk2, sg_rest bs C0 (2 * k), hk3, hk2]
            have r2 : C0.drop (A0 + bs) = sg bs C0 (2 * k + 1) ++ C0.drop (A0 + 2 * bs) := by rw [← hk3, sg_rest bs C0 (2 * k + 1), hk4]
            have r3 : C.drop (A0 + 2 * bs) = C0.drop (A0 + 2 * bs) := by rw [← List.drop_drop, hdr, List.drop_drop]
            have oA := hB.out.2 (2 * k)
            have oB := hB.out.2 (2 * k + 1)
            have hbf := hB.out.bef (i := 2 * k) hup.out
            have hdb := sg_double bs O k
            have lA : (sg bs C0 (2 * k)).length = min bs (N - A0) := by rw [sg_len, hC0l, hk2]
            have lB : (sg bs C0 (2 * k + 1)).length = min bs (N - (A0 + bs)) := by rw [sg_len, hC0l, hk3]
            have hstep : ∀ S', InO c S' → S'.Perm (sg bs C0 (2 * k) ++ sg bs C0 (2 * k + 1)) → Ps c (2 * bs) (k + 1) (C.take A0 ++ S' ++ C.drop (A0 + S'.length)) C0 O := fun S' i1 i2 => by
              have := hPs.step (by omega) (by rw [← hk, hO.out]; omega) i1 (i2.trans (by rw [hdb]; exact oA.2.append oB.2))
              rwa [← hk] at this
            generalize sg bs C0 (2 * k) = SA at *
            generalize sg bs C0 (2 * k + 1) = SB at *
            by_cases hlt3 : A0 + 2 * bs ≤ N
            · have hd4 : decide (A0 + 2 * bs ≤ N) = true := decide_eq_true hlt3
              have hd5 : decide ((A0 : Int) + 2 * (bs : Int) ≤ (N : Int)) = true := by simp; omega
              have hsplit : C.take A0 ++ SA ++ SB ++ C.drop (A0 + 2 * bs) = C := by
                rw [r3, List.append_assoc, ← r2, List.append_assoc, ← r1, List.take_append_drop]
              have hI := symM_F c hc E hm hone fid g N cap w0 H0 H LB HF.out hfn hN6 _ A0 (A0 + bs) (A0 + 2 * bs) (C.take A0) SA SB (C.drop (A0 + 2 * bs)) wr (Nat.le_refl _) (by rw [hsplit]; exact hCl) lP (by rw [lA]; omega) (by rw [lB]; omega) (by rw [lA]; omega) (by rw [lB]; omega) oA.1 oB.1 hbf (by rw [hsplit]; exact hM)
              have hnx : Hid (∀ S', InO c S' → S'.Perm (SA ++ SB) → Ps c (2 * bs) (k + 1) (C.take A0 ++ S' ++ C.drop (A0 + 2 * bs)) C0 O) := Lib.hid fun S' i1 i2 => by
                have := hstep S' i1 i2
                rwa [i2.length_eq, List.length_append, lA, lB, show A0 + (min bs (N - A0) + min bs (N - (A0 + bs))) = A0 + 2 * bs by omega] at this
              replace hI := Lib.hid hI
              replace hk := Lib.hid hk
              have hw2 : IntKind.i64.wrap ((A0 : Int) + (bs : Int)) = ((A0 + bs : Nat) : Int) := by rw [IntKind.wrap_i64]; omega
              clear hPs hdr lP hsplit hM hCl r1 r2 r3 oA oB hbf hdb lA lB hstep hk2 hk3 hk4 hP
              go_wp2_with fail
              refine hI.out.mono ?_
              rintro e w2 ⟨rfl, S', i1, i2, hM2⟩
              have hn := Lib.hid (hnx.out S' i1 i2)
              clear hI i1 i2
              go_wp2_with fail
              go_roundw
              case rel => exact ⟨k + 1, A0 + 2 * bs, _, by go_num, by go_num, hlt3, Lib.hid ⟨by rw [hk.out, Nat.add_mul, Nat.one_mul], hn.out⟩, hM2⟩
              case measure => simp [intOf] <;> omega
            · have hd4 : decide (A0 + 2 * bs ≤ N) = false := decide_eq_false hlt3
              have hd5 : decide ((A0 : Int) + 2 * (bs : Int) ≤ (N : Int)) = false := by simp; omega
              have hw2 : IntKind.i64.wrap ((A0 : Int) + (bs : Int)) = ((A0 + bs : Nat) : Int) := by rw [IntKind.wrap_i64]; omega
              have hw3 : IntKind.i64.wrap ((bs : Int) * 2) = ((2 * bs : Nat) : Int) := by rw [IntKind.wrap_i64]; omega
              have r4 : C0.drop (A0 + 2 * bs) = [] := List.drop_eq_nil_of_le (by omega)
              rw [r4, List.append_nil] at r2
              rw [r2] at r1
              have hfin : ∀ C2, Ps c (2 * bs) (k + 1) C2 C0 O → Bk c (2 * bs) C2 O := fun C2 h => h.done (by rw [hO.out, Nat.add_mul, Nat.one_mul, ← hk]; omega)
              by_cases hlt4 : A0 + bs < N
              · have hd6 : decide (A0 + bs < N) = true := decide_eq_true hlt4
                have hd7 : decide ((A0 : Int) + (bs : Int) < (N : Int)) = true := by simp; omega
                have hsplit : C.take A0 ++ SA ++ SB ++ [] = C := by
                  rw [List.append_nil, List.append_assoc, ← r1, List.take_append_drop]
                have hI := symM_F c hc E hm hone fid g N cap w0 H0 H LB HF.out hfn hN6 _ A0 (A0 + bs) N (C.take A0) SA SB [] wr (Nat.le_refl _) (by rw [hsplit]; exact hCl) lP (by rw [lA]; omega) (by rw [lB]; omega) (by rw [lA]; omega) (by rw [lB]; omega) oA.1 oB.1 hbf (by rw [hsplit]; exact hM)
                have hnx : Hid (∀ S', InO c S' → S'.Perm (SA ++ SB) → Bk c (2 * bs) (C.take A0 ++ S' ++ []) O) := Lib.hid fun S' i1 i2 => by
                  have := hfin _ (hstep S' i1 i2)
                  rwa [i2.length_eq, List.length_append, lA, lB, List.drop_eq_nil_of_le (show C.length ≤ _ by omega)] at this
                replace hI := Lib.hid hI
                clear hPs hdr lP hsplit hM hCl r1 r2 r3 r4 oA oB hbf hdb lA lB hstep hk2 hk3 hk4 hP hk hfin
                go_wp2_with fail
                refine hI.out.mono ?_
                rintro e w2 ⟨rfl, S', i1, i2, hM2⟩
                have hn := Lib.hid (hnx.out S' i1 i2)
                clear hI i1 i2
                go_wp2_with fail
                go_roundw
                case rel => exact ⟨2 * bs, _, by go_num, by omega, hn, hM2⟩
                case measure => simp [intOf] <;> omega
              · have hd6 : decide (A0 + bs < N) = false := decide_eq_false hlt4
                have hd7 : decide ((A0 : Int) + (bs : Int) < (N : Int)) = false := by simp; omega
                have hSB : SB = [] := List.length_eq_zero_iff.1 (by rw [lB]; omega)
                have hn : Hid (Bk c (2 * bs) C O) := Lib.hid (by
                  have := hfin _ (hstep SA oA.1 (by rw [hSB, List.append_nil]))
                  rwa [lA, List.drop_eq_nil_of_le (show C.length ≤ _ by omega), List.append_nil, show C.take A0 ++ SA = C by rw [hSB, List.append_nil] at r1; rw [← r1, List.take_append_drop]] at this)
                clear hPs hdr lP hCl r1 r2 r3 r4 oA oB hbf hdb lA lB hstep hk2 hk3 hk4 hP hk hfin hSB
                go_wp2_with fail
                go_roundw
                case rel => exact ⟨2 * bs, C, by go_num, by omega, hn, hM⟩
                case measure => simp [intOf] <;> omega
        · have hd3 : decide (bs < N) = false := decide_eq_false hlt2
          have hf := hB.out.all (by rw [hO.out]; omega)
          have hr := Lib.hid (hout.out C0 hf.1 hf.2)
          clear hf
          go_wp2_with fail
          refine bodyPost_ret (v := .tuple #[]) (by simp [results, Tryz.results235, go_sem]) rfl ⟨rfl, by rw [← hr.out]; exact hM⟩
theorem insSort0_F (fv : Value) (w : World) : Calls Tryz.prog 255 #[.slice none 0 0, .int .i64 0, .int .i64 0, fv] w (UnitP fun w' => Ext w w') := by
  go_enter Tryz.func255, Tryz.ntmps255
  go_wp2_with fail
  go_loopw [8] (fun vi wr => vi = .int .i64 1 ∧ Ext w wr) (fun _ _ => 0)
  case atStart => exact ⟨rfl, xE⟩
  case round =>
    obtain ⟨rfl, hx⟩ := hrel
    go_wp2_with fail
    exact bodyPost_ret (v := .tuple #[]) (by simp [results, Tryz.results255, go_sem]) rfl ⟨rfl, hx⟩
theorem stab0_F (fv : Value) (w : World) : Calls Tryz.prog 235 #[.slice none 0 0, .int .i64 0, fv] w (UnitP fun w' => Ext w w') := by
  go_enter Tryz.func235, Tryz.ntmps235
  go_wp2_with fail
  go_loopw [7, 8] (fun va vb wr => va = .int .i64 0 ∧ vb = .int .i64 20 ∧ Ext w wr) (fun _ _ _ => 0)
  case atStart => exact ⟨rfl, rfl, xE⟩
  case round =>
    obtain ⟨rfl, rfl, hx⟩ := hrel
    go_wp2_with fail
    refine (insSort0_F fv _).mono ?_
    rintro e w2 ⟨rfl, hx2⟩
    have hx3 := hx.then hx2
    go_wp2_with fail
    go_loopw [6] (fun va wr => va = .int .i64 20 ∧ Ext w wr) (fun _ _ => 0)
    case atStart => exact ⟨rfl, hx3⟩
    case round =>
      obtain ⟨rfl, hx4⟩ := hrel
      go_wp2_with fail
      exact bodyPost_ret (v := .tuple #[]) (by simp [results, Tryz.results235, go_sem]) rfl ⟨rfl, hx4⟩
theorem sortStable_F {α : Type} (c : α → α → Int) (hc : Ordr c) (E : PH → List Value → α → Prop) (hm : Mono E) (hone : ∀ H cs x, E H cs x → ∀ u ∈ cs, u.oneCell' = true) (fid : Nat) (v : Value) (xs : List α) (w0 w : World) (H0 H : PH) (LB : List Chunk)
    (hM : Mem w0 H0 (own hm 4 30 v xs :: LB) H w) (hf : HCmp E H c fid) (hfn : ∀ args w, (callFunc fid args).run Tryz.prog w = .ok (.enter fid args) w) (hN6 : xs.length ≤ 1000000) :
    Calls Tryz.prog 205 #[v, .func (.func fid) #[] #[]] w (UnitP fun w' => Mem w0 H0 (own hm 4 30 v (stS c xs) :: LB) H w') := by
  have hO : OwnC H w E 4 30 v xs := hM.ok 0 _ rfl
  rcases hO with ⟨rfl, rfl⟩ | ⟨g, cap, cur, rfl, -⟩
  · have hS := Lib.hid (stab0_F (.func (.func fid) #[] #[]) w)
    go_enter Tryz.func205, Tryz.ntmps205
    go_wp2_with fail
    refine hS.out.mono ?_
    rintro e w2 ⟨rfl, hx2⟩
    have hM2 := hM.ext hx2
    clear hM
    go_wp2_with fail
    exact bodyPost_ret (v := .tuple #[]) (by simp [results, Tryz.results205, go_sem]) rfl ⟨rfl, hM2⟩
  · obtain ⟨N, hN⟩ : ∃ N, xs.length = N := ⟨_, rfl⟩
    rw [hN] at hM hN6 ⊢
    have hS := Lib.hid (stab_F c hc E hm hone fid g N cap xs w0 w H0 H LB hM hf hfn hN hN6)
    clear hM hf hN
    go_enter Tryz.func205, Tryz.ntmps205
    go_wp2_with fail
    refine hS.out.mono ?_
    rintro e w2 ⟨rfl, hM2⟩
    go_wp2_with fail
    exact bodyPost_ret (v := .tuple #[]) (by simp [results, Tryz.results205, go_sem]) rfl ⟨rfl, hM2⟩
set_option maxRecDepth 100000 in
set_option maxHeartbeats 4000000 in
theorem swapR_N {α : Type} (E : PH → List Value → α → Prop) (hm : Mono E) (hone : ∀ H cs x, E H cs x → ∀ u ∈ cs, u.oneCell' = true) (fv : Value) (g N cap a b n : Nat) (P U M V S : List α) (w0 w : World) (H0 H : PH) (LB : List Chunk)
    (hM : Mem w0 H0 (own hm 1 3 (.slice (some ⟨g, 0, none⟩) N cap) (P ++ U ++ M ++ V ++ S) :: LB) H w)
    (hN : (P ++ U ++ M ++ V ++ S).length = N) (ha : P.length = a) (hU : U.length = n) (hV : V.length = n) (hb : a + n + M.length = b) (hN6 : N ≤ 1000000) :
    Calls Tryz.prog 276 #[.slice (some ⟨g, 0, none⟩) N cap, .int .i64 a, .int .i64 b, .int .i64 n, fv] w
      (UnitP fun w' => Mem w0 H0 (own hm 1 3 (.slice (some ⟨g, 0, none⟩) N cap) (P ++ V ++ M ++ U ++ S) :: LB) H w') := by
  have hbN : b + n ≤ N := by rw [← hN, ← hb, ← ha, ← hU]; simp only [List.length_append]; omega
  replace hN := Lib.hid hN
  replace hU := Lib.hid hU
  replace hV := Lib.hid hV
  have haN : a + n ≤ b := by omega
  replace hb := Lib.hid hb
  replace ha := Lib.hid ha
  have hMo := Lib.hid hM
  clear hM
  go_enter Tryz.func276, Tryz.ntmps276
  go_wp2_with fail
  go_loopw [10] (fun vi wr => ∃ t : Nat, t ≤ n ∧ vi = .int .i64 (t : Int) ∧ Mem w0 H0 (own hm 1 3 (.slice (some ⟨g, 0, none⟩) N cap) (P ++ V.take t ++ (U.drop t ++ M ++ U.take t) ++ V.drop t ++ S) :: LB) H wr) (fun vi _ => n - (intOf vi).toNat)
  case atStart => exact ⟨0, by omega, rfl, by simpa using hMo.out⟩
  case round =>
    clear hMo
    obtain ⟨t, htn, rfl, hM⟩ := hrel
    by_cases hlt : t < n
    · have hd1 : decide (t < n) = true := decide_eq_true hlt
      have htU : t < U.length := by rw [hU.out]; exact hlt
      have htV : t < V.length := by rw [hV.out]; exact hlt
      obtain ⟨u, hu⟩ : ∃ u, U[t] = u := ⟨_, rfl⟩
      obtain ⟨v, hv⟩ : ∃ v, V[t] = v := ⟨_, rfl⟩
      have hdU : U.drop t = u :: U.drop (t + 1) := by rw [← hu]; exact List.drop_eq_getElem_cons htU
      have hdV : V.drop t = v :: V.drop (t + 1) := by rw [← hv]; exact List.drop_eq_getElem_cons htV
      have htU2 : U.take (t + 1) = U.take t ++ [u] := by rw [← hu]; exact List.take_succ_eq_append_getElem htU
      have htV2 : V.take (t + 1) = V.take t ++ [v] := by rw [← hv]; exact List.take_succ_eq_append_getElem htV
      obtain ⟨A, hA⟩ : ∃ A, P ++ V.take t = A := ⟨_, rfl⟩
      obtain ⟨B, hB⟩ : ∃ B, U.drop (t + 1) ++ M ++ U.take t = B := ⟨_, rfl⟩
      obtain ⟨C, hC⟩ : ∃ C, V.drop (t + 1) ++ S = C := ⟨_, rfl⟩
      have hAl : A.length = a + t := by rw [← hA, List.length_append, List.length_take, ha.out, hV.out]; omega
      have hBl : A.length + 1 + B.length = b + t := by
        rw [hAl, ← hB, List.length_append, List.length_append, List.length_drop, List.length_take, hU.out]; have := hb.out; omega
      have hMe : Mem w0 H0 (own hm 1 3 (.slice (some ⟨g, 0, none⟩) N cap) (A ++ u :: B ++ v :: C) :: LB) H wr := by
        rw [← hA, ← hB, ← hC]
        rw [hdU, hdV] at hM
        simpa using hM
      have hnx : Hid (P ++ V.take (t + 1) ++ (U.drop (t + 1) ++ M ++ U.take (t + 1)) ++ V.drop (t + 1) ++ S = A ++ v :: B ++ u :: C) := by
        show _ = _
        rw [← hA, ← hB, ← hC, htU2, htV2]; simp
      have hsw := Lib.hid (swap_mid A B C u v)
      rw [hAl] at hsw
      rw [hAl] at hBl
      rw [hBl] at hsw
      have hk0 : (A ++ u :: B ++ v :: C)[a + t]? = some u := by rw [← hAl, List.append_assoc, List.getElem?_append_right (Nat.le_refl _), Nat.sub_self]; rfl
      have hk1 : (A ++ u :: B ++ v :: C)[b + t]? = some v := by
        rw [← hBl, ← hAl, List.getElem?_append_right (by simp; omega)]
        simp [show A.length + 1 + B.length - (A.length + (B.length + 1)) = 0 by omega]
      clear hM hu hv hdU hdV htU2 htV2 hA hB hC hAl hBl htU htV
      generalize A ++ u :: B ++ v :: C = xs at *
      obtain ⟨g0, csx, e0, hxl, hg0, hcx, gx, hEx⟩ := hMe.row1 (i := 0) rfl hk0
      obtain ⟨g1, csy, e1, -, -, hcy, gy, hEy⟩ := hMe.row1 (i := 0) rfl hk1
      cases e0
      cases e1
      have hox := Lib.hid (hone H csx u hEx)
      have hoy := Lib.hid (hone H csy v hEy)
      have hNx : Hid (a + t < xs.length ∧ b + t < xs.length) := Lib.hid (by rw [← hxl]; omega)
      have gx3 := Lib.hid gx
      have gy3 := Lib.hid gy
      replace hEx := Lib.hid hEx
      replace hEy := Lib.hid hEy
      replace hcx := Lib.hid hcx
      replace hcy := Lib.hid hcy
      clear hk0 hk1 hxl gx gy
      have hw1 : IntKind.i64.wrap ((a : Int) + (t : Int)) = (a : Int) + (t : Int) := by rw [IntKind.wrap_i64]; omega
      have hw2 : IntKind.i64.wrap ((b : Int) + (t : Int)) = (b : Int) + (t : Int) := by rw [IntKind.wrap_i64]; omega
      have hi1 : (a : Int) + (t : Int) < (N : Int) := by omega
      have hi2 : (b : Int) + (t : Int) < (N : Int) := by omega
      have hj1 : (0 : Int) ≤ (a : Int) + (t : Int) := by omega
      have hj2 : (0 : Int) ≤ (b : Int) + (t : Int) := by omega
      have hq1 : ((a : Int) + (t : Int)).toNat = a + t := by omega
      have hq2 : ((b : Int) + (t : Int)).toNat = b + t := by omega
      go_upto_region 3 with (fail)
      have hM3 := hMe
      clear hMe
      refine wp_region_any (by kernel_rfl) ?_
      change wpAny _ _ _ _ _ _ _ (World.drew _)
      have hM7 := hM3.ext (Ext.rfl' wr).drew'
      have gx7 := Lib.hid (fun j u h => (Ext.rfl' wr).drew'.cell1 (gx3.out j u h))
      have gy7 := Lib.hid (fun j u h => (Ext.rfl' wr).drew'.cell1 (gy3.out j u h))
      refine wpAny_take (i := 0) rfl tA tA tA (fun _ _ _ h => h) (Or.inl ⟨by rfl, yA⟩) ?_
      try simp only [List.getElem_toArray, List.getElem_cons_succ, List.getElem_cons_zero, Act.put, List.setIfInBounds_toArray, List.set_cons_zero, List.set_cons_succ]
      refine wpAny_take (i := 1) rfl tA tA tA (fun _ _ _ h => h) (Or.inl ⟨by rfl, yA⟩) ?_
      try simp only [List.getElem_toArray, List.getElem_cons_succ, List.getElem_cons_zero, Act.put, List.setIfInBounds_toArray, List.set_cons_zero, List.set_cons_succ]
      refine wpAny_take (i := 2) rfl tA tA tA (fun _ _ _ h => h) (Or.inl ⟨by rfl, yA⟩) ?_
      try simp only [List.getElem_toArray, List.getElem_cons_succ, List.getElem_cons_zero, Act.put, List.setIfInBounds_toArray, List.set_cons_zero, List.set_cons_succ]
      refine wpAny_take (i := 3) rfl tA tA tA (fun _ _ _ h => h) (Or.inl ⟨by rfl, yA⟩) ?_
      try simp only [List.getElem_toArray, List.getElem_cons_succ, List.getElem_cons_zero, Act.put, List.setIfInBounds_toArray, List.set_cons_zero, List.set_cons_succ]
      refine wpAny_take (i := 4) rfl tA tA tA (fun _ _ _ h => h) (Or.inl ⟨by rfl, yA⟩) ?_
      try simp only [List.getElem_toArray, List.getElem_cons_succ, List.getElem_cons_zero, Act.put, List.setIfInBounds_toArray, List.set_cons_zero, List.set_cons_succ]
      refine wpAny_take (i := 5) rfl tA tA tA (fun _ _ _ h => h) (Or.inl ⟨by rfl, yA⟩) ?_
      try simp only [List.getElem_toArray, List.getElem_cons_succ, List.getElem_cons_zero, Act.put, List.setIfInBounds_toArray, List.set_cons_zero, List.set_cons_succ]
      refine wpAny_take (i := 6) rfl tA tA tA (fun _ _ _ h => h) (Or.inl ⟨by rfl, yA⟩) ?_
      try simp only [List.getElem_toArray, List.getElem_cons_succ, List.getElem_cons_zero, Act.put, List.setIfInBounds_toArray, List.set_cons_zero, List.set_cons_succ]
      refine wpAny_take (i := 7) rfl tA tA tA (fun _ _ _ h => h) (Or.inl ⟨by rfl, yA⟩) ?_
      try simp only [List.getElem_toArray, List.getElem_cons_succ, List.getElem_cons_zero, Act.put, List.setIfInBounds_toArray, List.set_cons_zero, List.set_cons_succ]
      refine wpAny_take (i := 8) rfl tA tA tA (fun _ _ _ h => h) (Or.inl ⟨by rfl, yA⟩) ?_
      try simp only [List.getElem_toArray, List.getElem_cons_succ, List.getElem_cons_zero, Act.put, List.setIfInBounds_toArray, List.set_cons_zero, List.set_cons_succ]
      refine wpAny_take (i := 9) rfl tA tA tA (fun _ _ _ h => h) (Or.inl ⟨by rfl, yA⟩) ?_
      try simp only [List.getElem_toArray, List.getElem_cons_succ, List.getElem_cons_zero, Act.put, List.setIfInBounds_toArray, List.set_cons_zero, List.set_cons_succ]
      refine wpAny_take (i := 10) rfl tA tA tA (fun _ _ _ h => h) (Or.inl ⟨by rfl, yA⟩) ?_
      try simp only [List.getElem_toArray, List.getElem_cons_succ, List.getElem_cons_zero, Act.put, List.setIfInBounds_toArray, List.set_cons_zero, List.set_cons_succ]
      refine wpAny_take (i := 11) rfl tA tA tA (fun _ _ _ h => h) (Or.inl ⟨by rfl, yA⟩) ?_
      try simp only [List.getElem_toArray, List.getElem_cons_succ, List.getElem_cons_zero, Act.put, List.setIfInBounds_toArray, List.set_cons_zero, List.set_cons_succ]
      refine wpAny_take (i := 12) rfl tA tA tA (fun _ _ _ h => h) (Or.inl ⟨by rfl, yA⟩) ?_
      try simp only [List.getElem_toArray, List.getElem_cons_succ, List.getElem_cons_zero, Act.put, List.setIfInBounds_toArray, List.set_cons_zero, List.set_cons_succ]
      refine wpAny_take (i := 14) rfl tA tA tA (fun _ _ _ h => h) (Or.inl ⟨by rfl, yA⟩) ?_
      try simp only [List.getElem_toArray, List.getElem_cons_succ, List.getElem_cons_zero, Act.put, List.setIfInBounds_toArray, List.set_cons_zero, List.set_cons_succ]
      refine wpAny_take (i := 15) rfl tA tA tA (fun _ _ _ h => h) (Or.inl ⟨by rfl, yA⟩) ?_
      try simp only [List.getElem_toArray, List.getElem_cons_succ, List.getElem_cons_zero, Act.put, List.setIfInBounds_toArray, List.set_cons_zero, List.set_cons_succ]
      refine wpAny_take (i := 16) rfl tA tA tA (fun _ _ _ h => h) (Or.inl ⟨by rfl, yA⟩) ?_
      try simp only [List.getElem_toArray, List.getElem_cons_succ, List.getElem_cons_zero, Act.put, List.setIfInBounds_toArray, List.set_cons_zero, List.set_cons_succ]
      refine wpAny_take (i := 17) rfl tA tA tA (fun _ _ _ h => h) (Or.inl ⟨by rfl, yA⟩) ?_
      try simp only [List.getElem_toArray, List.getElem_cons_succ, List.getElem_cons_zero, Act.put, List.setIfInBounds_toArray, List.set_cons_zero, List.set_cons_succ]
      refine wpAny_take (i := 18) rfl tA tA tA (fun _ _ _ h => h) (Or.inl ⟨by rfl, yA⟩) ?_
      try simp only [List.getElem_toArray, List.getElem_cons_succ, List.getElem_cons_zero, Act.put, List.setIfInBounds_toArray, List.set_cons_zero, List.set_cons_succ]
      refine wpAny_ready (rs := [13, 19]) (by kernel_rfl) (by simp) ?_
      refine AllReady.load1 rfl rfl 3 _ rfl g ((b + t)) rfl csy _ gy7.out Tryz.underlying3 rfl hcy.out ?_ (AllReady.load1 rfl rfl 3 _ rfl g ((a + t)) rfl csx _ gx7.out Tryz.underlying3 rfl hcx.out ?_ AllReady.nil)
      · try simp only [List.getElem_toArray, List.getElem_cons_succ, List.getElem_cons_zero, Act.put, List.setIfInBounds_toArray, List.set_cons_zero, List.set_cons_succ]
        refine wpAny_ready (rs := [19]) (by kernel_rfl) (by simp) (AllReady.load1 rfl rfl 3 _ rfl g ((a + t)) rfl csx _ gx7.out Tryz.underlying3 rfl hcx.out ?_ AllReady.nil)
        try simp only [List.getElem_toArray, List.getElem_cons_succ, List.getElem_cons_zero, Act.put, List.setIfInBounds_toArray, List.set_cons_zero, List.set_cons_succ]
        refine wpAny_take (i := 20) rfl tA tA tA (fun _ _ _ h => h) (Or.inl ⟨by rfl, yA⟩) ?_
        try simp only [List.getElem_toArray, List.getElem_cons_succ, List.getElem_cons_zero, Act.put, List.setIfInBounds_toArray, List.set_cons_zero, List.set_cons_succ]
        refine wpAny_ready (rs := [21]) (by kernel_rfl) (by simp) (AllReady.store1 (xs := xs) (n := N) (cap := cap) (g := g) rfl rfl 3 _ _ rfl (a + t) rfl (cs := csy) rfl (x' := v) hM7 0 rfl hNx.out.1 hEy.out hcy.out hoy.out (by kernel_rfl) ?_ AllReady.nil)
        intro w8 hM8
        simp only [List.set_cons_zero] at hM8
        try simp only [List.getElem_toArray, List.getElem_cons_succ, List.getElem_cons_zero, Act.put, List.setIfInBounds_toArray, List.set_cons_zero, List.set_cons_succ]
        refine wpAny_take (i := 22) rfl tA tA tA (fun _ _ _ h => h) (Or.inl ⟨by rfl, yA⟩) ?_
        try simp only [List.getElem_toArray, List.getElem_cons_succ, List.getElem_cons_zero, Act.put, List.setIfInBounds_toArray, List.set_cons_zero, List.set_cons_succ]
        refine wpAny_ready (rs := [23]) (by kernel_rfl) (by simp) (AllReady.store1 (xs := (xs.set (a + t) v)) (n := N) (cap := cap) (g := g) rfl rfl 3 _ _ rfl (b + t) rfl (cs := csx) rfl (x' := u) hM8 0 rfl (by rw [List.length_set]; exact hNx.out.2) hEx.out hcx.out hox.out (by kernel_rfl) ?_ AllReady.nil)
        intro w8 hM9
        simp only [List.set_cons_zero] at hM9
        try simp only [List.getElem_toArray, List.getElem_cons_succ, List.getElem_cons_zero, Act.put, List.setIfInBounds_toArray, List.set_cons_zero, List.set_cons_succ]
        refine wpAny_done (by kernel_rfl) ?_ _
        try simp only [List.getElem_toArray, List.getElem_cons_succ, List.getElem_cons_zero, Act.put, List.setIfInBounds_toArray, List.set_cons_zero, List.set_cons_succ]
        clear hM7 hM8 gx7 gy7
        rw [hsw.out] at hM9
        go_wp2_with fail
        go_roundw
        case rel =>
          refine ⟨t + 1, by omega, by go_num, ?_⟩
          rw [hnx.out]; exact hM9
        case measure => simp [intOf] <;> omega
      · try simp only [List.getElem_toArray, List.getElem_cons_succ, List.getElem_cons_zero, Act.put, List.setIfInBounds_toArray, List.set_cons_zero, List.set_cons_succ]
        refine wpAny_ready (rs := [13]) (by kernel_rfl) (by simp) (AllReady.load1 rfl rfl 3 _ rfl g ((b + t)) rfl csy _ gy7.out Tryz.underlying3 rfl hcy.out ?_ AllReady.nil)
        try simp only [List.getElem_toArray, List.getElem_cons_succ, List.getElem_cons_zero, Act.put, List.setIfInBounds_toArray, List.set_cons_zero, List.set_cons_succ]
        refine wpAny_take (i := 20) rfl tA tA tA (fun _ _ _ h => h) (Or.inl ⟨by rfl, yA⟩) ?_
        try simp only [List.getElem_toArray, List.getElem_cons_succ, List.getElem_cons_zero, Act.put, List.setIfInBounds_toArray, List.set_cons_zero, List.set_cons_succ]
        refine wpAny_ready (rs := [21]) (by kernel_rfl) (by simp) (AllReady.store1 (xs := xs) (n := N) (cap := cap) (g := g) rfl rfl 3 _ _ rfl (a + t) rfl (cs := csy) rfl (x' := v) hM7 0 rfl hNx.out.1 hEy.out hcy.out hoy.out (by kernel_rfl) ?_ AllReady.nil)
        intro w8 hM8
        simp only [List.set_cons_zero] at hM8
        try simp only [List.getElem_toArray, List.getElem_cons_succ, List.getElem_cons_zero, Act.put, List.setIfInBounds_toArray, List.set_cons_zero, List.set_cons_succ]
        refine wpAny_take (i := 22) rfl tA tA tA (fun _ _ _ h => h) (Or.inl ⟨by rfl, yA⟩) ?_
        try simp only [List.getElem_toArray, List.getElem_cons_succ, List.getElem_cons_zero, Act.put, List.setIfInBounds_toArray, List.set_cons_zero, List.set_cons_succ]
        refine wpAny_ready (rs := [23]) (by kernel_rfl) (by simp) (AllReady.store1 (xs := (xs.set (a + t) v)) (n := N) (cap := cap) (g := g) rfl rfl 3 _ _ rfl (b + t) rfl (cs := csx) rfl (x' := u) hM8 0 rfl (by rw [List.length_set]; exact hNx.out.2) hEx.out hcx.out hox.out (by kernel_rfl) ?_ AllReady.nil)
        intro w8 hM9
        simp only [List.set_cons_zero] at hM9
        try simp only [List.getElem_toArray, List.getElem_cons_succ, List.getElem_cons_zero, Act.put, List.setIfInBounds_toArray, List.set_cons_zero, List.set_cons_succ]
        refine wpAny_done (by kernel_rfl) ?_ _
        try simp only [List.getElem_toArray, List.getElem_cons_succ, List.getElem_cons_zero, Act.put, List.setIfInBounds_toArray, List.set_cons_zero, List.set_cons_succ]
        clear hM7 hM8 gx7 gy7
        rw [hsw.out] at hM9
        go_wp2_with fail
        go_roundw
        case rel =>
          refine ⟨t + 1, by omega, by go_num, ?_⟩
          rw [hnx.out]; exact hM9
        case measure => simp [intOf] <;> omega
    · obtain rfl : t = n := by omega
      have hd1 : decide (t < t) = false := by simp
      go_wp2_with fail
      refine bodyPost_ret (v := .tuple #[]) (by simp [results, Tryz.results276, go_sem]) rfl ⟨rfl, ?_⟩
      rw [List.take_of_length_le (by rw [hV.out]; exact Nat.le_refl _), List.drop_eq_nil_of_le (by rw [hU.out]; exact Nat.le_refl _), List.take_of_length_le (by rw [hU.out]; exact Nat.le_refl _), List.drop_eq_nil_of_le (by rw [hV.out]; exact Nat.le_refl _)] at hM
      simpa using hM
set_option maxRecDepth 100000 in
set_option maxHeartbeats 4000000 in
theorem rotR_N {α : Type} (E : PH → List Value → α → Prop) (hm : Mono E) (hone : ∀ H cs x, E H cs x → ∀ u ∈ cs, u.oneCell' = true) (fv : Value) (g N cap a m b : Nat) (P U V S : List α) (w0 w : World) (H0 H : PH) (LB : List Chunk)
    (hM : Mem w0 H0 (own hm 1 3 (.slice (some ⟨g, 0, none⟩) N cap) (P ++ U ++ V ++ S) :: LB) H w)
    (hN : (P ++ U ++ V ++ S).length = N) (ha : P.length = a) (hU : a + U.length = m) (hV : m + V.length = b) (hU1 : 1 ≤ U.length) (hV1 : 1 ≤ V.length) (hN6 : N ≤ 1000000) :
    Calls Tryz.prog 270 #[.slice (some ⟨g, 0, none⟩) N cap, .int .i64 a, .int .i64 m, .int .i64 b, fv] w
      (UnitP fun w' => Mem w0 H0 (own hm 1 3 (.slice (some ⟨g, 0, none⟩) N cap) (P ++ V ++ U ++ S) :: LB) H w') := by
  have hbN : b ≤ N := by rw [← hN, ← hV, ← hU, ← ha]; simp only [List.length_append]; omega
  obtain ⟨i0, hi0⟩ : ∃ i, U.length = i := ⟨_, rfl⟩
  obtain ⟨j0, hj0⟩ : ∃ j, V.length = j := ⟨_, rfl⟩
  rw [hi0] at hU hU1
  rw [hj0] at hV hV1
  have hw1 : IntKind.i64.wrap ((m : Int) - (a : Int)) = (i0 : Int) := by rw [IntKind.wrap_i64]; omega
  have hw2 : IntKind.i64.wrap ((b : Int) - (m : Int)) = (j0 : Int) := by rw [IntKind.wrap_i64]; omega
  obtain ⟨G, hG⟩ : ∃ G, P ++ V ++ U ++ S = G := ⟨_, rfl⟩
  rw [hG]
  have hmN : m ≤ N := by omega
  have hst : Hid (∃ P' U' V' S' : List α, U'.length = i0 ∧ V'.length = j0 ∧ P'.length + i0 = m ∧ P' ++ V' ++ U' ++ S' = G ∧ (P' ++ U' ++ V' ++ S').length = N ∧ m + j0 ≤ N ∧ Mem w0 H0 (own hm 1 3 (.slice (some ⟨g, 0, none⟩) N cap) (P' ++ U' ++ V' ++ S') :: LB) H w) := Lib.hid ⟨P, U, V, S, hi0, hj0, by omega, hG, hN, by omega, hM⟩
  clear hM hN ha hG hi0 hj0 hV hU
  go_enter Tryz.func270, Tryz.ntmps270
  go_wp2_with fail
  clear hw1 hw2
  go_loopw [10, 11] (fun vi vj wr => ∃ i j : Nat, 1 ≤ i ∧ 1 ≤ j ∧ vi = .int .i64 (i : Int) ∧ vj = .int .i64 (j : Int) ∧ Hid (∃ P' U' V' S' : List α, U'.length = i ∧ V'.length = j ∧ P'.length + i = m ∧ P' ++ V' ++ U' ++ S' = G ∧ (P' ++ U' ++ V' ++ S').length = N ∧ m + j ≤ N ∧ Mem w0 H0 (own hm 1 3 (.slice (some ⟨g, 0, none⟩) N cap) (P' ++ U' ++ V' ++ S') :: LB) H wr)) (fun vi vj _ => (intOf vi).toNat + (intOf vj).toNat)
  case atStart => exact ⟨i0, j0, hU1, hV1, rfl, rfl, hst⟩
  case round =>
    clear hst hU1 hV1
    obtain ⟨i, j, hi1, hj1, rfl, rfl, hst⟩ := hrel
    obtain ⟨P', U', V', S', hU, hV, hP, hG, hN, hmj, hM⟩ := hst.out
    clear hst
    have hw1 : IntKind.i64.wrap ((m : Int) - (i : Int)) = ((P'.length : Nat) : Int) := by rw [IntKind.wrap_i64]; omega
    obtain ⟨p, hp⟩ : ∃ p, P'.length = p := ⟨_, rfl⟩
    rw [hp] at hw1
    have hpi : p + i = m := by omega
    by_cases hij : i = j
    · subst hij
      have hne : ((i : Int) != (i : Int)) = false := by simp
      have hS := swapR_N E hm hone fv g N cap p m i P' U' [] V' S' w0 wr H0 H LB (by simpa using hM) (by simpa using hN) hp hU hV (by simpa using hpi) hN6
      have hGo := Lib.hid hG
      replace hS := Lib.hid hS
      clear hM hN hU hV hP hp hG
      go_wp2_with fail
      refine hS.out.mono ?_
      rintro e w2 ⟨rfl, hM2⟩
      clear hS
      go_wp2_with fail
      refine bodyPost_ret (v := .tuple #[]) (by simp [results, Tryz.results270, go_sem]) rfl ⟨rfl, ?_⟩
      rw [← hGo.out]
      simpa using hM2
    · have hne : ((i : Int) != (j : Int)) = true := by simp; omega
      by_cases hgt : j < i
      · have hd : decide (j < i) = true := decide_eq_true hgt
        have hw3 : IntKind.i64.wrap ((i : Int) - (j : Int)) = ((i - j : Nat) : Int) := by rw [IntKind.wrap_i64]; omega
        have e1 : U'.take j ++ U'.drop j = U' := List.take_append_drop j U'
        have l1 : (U'.take j).length = j := by rw [List.length_take]; omega
        have l2 : (U'.drop j).length = i - j := by rw [List.length_drop]; omega
        generalize U'.take j = U1 at *
        generalize U'.drop j = U2 at *
        subst e1
        have hS := swapR_N E hm hone fv g N cap p m j P' U1 U2 V' S' w0 wr H0 H LB (by simpa using hM) (by simpa using hN) hp l1 hV (by omega) hN6
        have hnx : Hid (∀ w2, Mem w0 H0 (own hm 1 3 (.slice (some ⟨g, 0, none⟩) N cap) (P' ++ V' ++ U2 ++ U1 ++ S') :: LB) H w2 → ∃ P' U' V' S' : List α, U'.length = i - j ∧ V'.length = j ∧ P'.length + (i - j) = m ∧ P' ++ V' ++ U' ++ S' = G ∧ (P' ++ U' ++ V' ++ S').length = N ∧ m + j ≤ N ∧ Mem w0 H0 (own hm 1 3 (.slice (some ⟨g, 0, none⟩) N cap) (P' ++ U' ++ V' ++ S') :: LB) H w2) := Lib.hid fun w2 h2 => ⟨P' ++ V', U2, U1, S', l2, l1, by rw [List.length_append]; omega, by rw [← hG]; simp, by rw [← hN]; simp only [List.length_append]; omega, hmj, h2⟩
        replace hS := Lib.hid hS
        clear hM hN hU hV hP hp hG l1 l2
        go_wp2_with fail
        refine hS.out.mono ?_
        rintro e w2 ⟨rfl, hM2⟩
        clear hS
        go_wp2_with fail
        go_roundw
        case rel => exact ⟨i - j, j, by omega, hj1, rfl, rfl, Lib.hid (hnx.out _ hM2)⟩
        case measure => simp [intOf] <;> omega
      · have hd : decide (j < i) = false := decide_eq_false hgt
        have hw3 : IntKind.i64.wrap ((j : Int) - (i : Int)) = ((j - i : Nat) : Int) := by rw [IntKind.wrap_i64]; omega
        have hw4 : IntKind.i64.wrap ((m : Int) + (j : Int)) = (m : Int) + (j : Int) := by rw [IntKind.wrap_i64]; omega
        have hw5 : IntKind.i64.wrap ((m : Int) + (j : Int) - (i : Int)) = ((m + j - i : Nat) : Int) := by rw [IntKind.wrap_i64]; omega
        have e1 : V'.take (j - i) ++ V'.drop (j - i) = V' := List.take_append_drop (j - i) V'
        have l1 : (V'.take (j - i)).length = j - i := by rw [List.length_take]; omega
        have l2 : (V'.drop (j - i)).length = i := by rw [List.length_drop]; omega
        generalize V'.take (j - i) = V1 at *
        generalize V'.drop (j - i) = V2 at *
        subst e1
        have hS := swapR_N E hm hone fv g N cap p (m + j - i) i P' U' V1 V2 S' w0 wr H0 H LB (by simpa using hM) (by simpa using hN) hp hU l2 (by omega) hN6
        have hnx : Hid (∀ w2, Mem w0 H0 (own hm 1 3 (.slice (some ⟨g, 0, none⟩) N cap) (P' ++ V2 ++ V1 ++ U' ++ S') :: LB) H w2 → ∃ P' U' V' S' : List α, U'.length = i ∧ V'.length = j - i ∧ P'.length + i = m ∧ P' ++ V' ++ U' ++ S' = G ∧ (P' ++ U' ++ V' ++ S').length = N ∧ m + (j - i) ≤ N ∧ Mem w0 H0 (own hm 1 3 (.slice (some ⟨g, 0, none⟩) N cap) (P' ++ U' ++ V' ++ S') :: LB) H w2) := Lib.hid fun w2 h2 => ⟨P', V2, V1, U' ++ S', l2, l1, by omega, by rw [← hG]; simp, by rw [← hN]; simp only [List.length_append]; omega, by omega, by simpa using h2⟩
        replace hS := Lib.hid hS
        clear hM hN hU hV hP hp hG l1 l2
        go_wp2_with fail
        refine hS.out.mono ?_
        rintro e w2 ⟨rfl, hM2⟩
        clear hS
        go_wp2_with fail
        go_roundw
        case rel => exact ⟨i, j - i, hi1, by omega, rfl, rfl, Lib.hid (hnx.out _ hM2)⟩
        case measure => simp [intOf] <;> omega
set_option maxRecDepth 100000 in
set_option maxHeartbeats 4000000 in
theorem insSort_N {α : Type} (c : α → α → Int) (hc : Ordr c) (E : PH → List Value → α → Prop) (hm : Mono E) (hone : ∀ H cs x, E H cs x → ∀ u ∈ cs, u.oneCell' = true) (fid g N cap a b : Nat) (P S R : List (α × Nat)) (w0 w : World) (H0 H : PH) (LB : List Chunk)
    (hM : Mem w0 H0 (own hm 1 3 (.slice (some ⟨g, 0, none⟩) N cap) ((P ++ S ++ R).map Prod.fst) :: LB) H w) (hf : HCmp1 E H c fid) (hfn : ∀ args w, (callFunc fid args).run Tryz.prog w = .ok (.enter fid args) w)
    (hN : (P ++ S ++ R).length = N) (ha : P.length = a) (hb : P.length + S.length = b) (hN6 : N ≤ 1000000) (hup : S.Pairwise (fun p q => p.2 < q.2)) :
    Calls Tryz.prog 253 #[.slice (some ⟨g, 0, none⟩) N cap, .int .i64 a, .int .i64 b, .func (.func fid) #[] #[]] w
      (UnitP fun w' => ∃ S', InO c S' ∧ S'.Perm S ∧ Mem w0 H0 (own hm 1 3 (.slice (some ⟨g, 0, none⟩) N cap) ((P ++ S' ++ R).map Prod.fst) :: LB) H w') := by
  have HF := Lib.hid hf; clear hf
  have hbN : b ≤ N := by rw [← hN, ← hb]; simp only [List.length_append]; omega
  replace hN := Lib.hid hN
  replace hup := Lib.hid hup
  have haN : a ≤ b := by omega
  replace hb := Lib.hid hb
  replace ha := Lib.hid ha
  have hMo := Lib.hid hM
  clear hM
  go_enter Tryz.func253, Tryz.ntmps253
  go_wp2_with fail
  go_loopw [8] (fun vi wr => ∃ (t : Nat) (S1 : List (α × Nat)), 1 ≤ t ∧ t ≤ N + 1 ∧ vi = .int .i64 ((a + t : Nat) : Int) ∧ Hid (S1.Perm (S.take t) ∧ InO c S1) ∧ Mem w0 H0 (own hm 1 3 (.slice (some ⟨g, 0, none⟩) N cap) ((P ++ S1 ++ S.drop t ++ R).map Prod.fst) :: LB) H wr) (fun vi _ => 2 * N + 1 - (intOf vi).toNat)
  case atStart =>
    refine ⟨1, S.take 1, by omega, by omega, by go_num, Lib.hid ⟨List.Perm.refl _, ?_⟩, ?_⟩
    · match S with
      | [] => exact List.Pairwise.nil
      | x :: r => exact List.pairwise_singleton _ _
    · rw [List.append_assoc P, List.take_append_drop]; exact hMo.out
  case round =>
    clear hMo
    obtain ⟨t, S1, ht, htN, rfl, hS1, hM⟩ := hrel
    by_cases hlt : a + t < b
    · have hd1 : decide (a + t < b) = true := decide_eq_true hlt
      have htS : t < S.length := by have := ha.out; have := hb.out; omega
      obtain ⟨x, hx⟩ : ∃ x, S[t] = x := ⟨_, rfl⟩
      have hdr : S.drop t = x :: S.drop (t + 1) := by rw [← hx]; exact List.drop_eq_getElem_cons htS
      have hS1l : S1.length = t := by have := hS1.out.1.length_eq; rw [List.length_take] at this; omega
      have hlast : ∀ y ∈ S1, y.2 < x.2 := by
        intro y hy
        obtain ⟨i, hi, rfl⟩ := List.getElem_of_mem (hS1.out.1.mem_iff.1 hy)
        rw [List.length_take] at hi
        rw [List.getElem_take, ← hx]
        exact (List.pairwise_iff_getElem.1 hup.out) i t (by omega) htS (by omega)
      have hnx : Hid ((S1 ++ [x]).Perm (S.take (t + 1))) := by
        show List.Perm _ _
        rw [List.take_succ_eq_append_getElem htS, hx]
        exact hS1.out.1.append_right _
      rw [hdr] at hM
      clear hdr hx
      obtain ⟨Q, hQ⟩ : ∃ Q, Q = S.drop (t + 1) ++ R := ⟨_, rfl⟩
      have hMs : Mem w0 H0 (own hm 1 3 (.slice (some ⟨g, 0, none⟩) N cap) ((P ++ S1 ++ x :: [] ++ Q).map Prod.fst) :: LB) H wr := by
        rw [hQ]; simpa using hM
      clear hM
      have hSo := hS1.out.2
      replace hlast := Lib.hid hlast
      replace hS1 := Lib.hid hS1
      replace hS1l := Lib.hid hS1l
      replace hQ := Lib.hid hQ
      go_wp2_with fail
      go_loopw [9] (fun vj wr => ∃ (j : Nat) (L D : List (α × Nat)), vj = .int .i64 (j : Int) ∧ j = a + L.length ∧ Hid (S1 = L ++ D ∧ ∀ y ∈ D, lx c x y) ∧ Mem w0 H0 (own hm 1 3 (.slice (some ⟨g, 0, none⟩) N cap) ((P ++ L ++ x :: D ++ Q).map Prod.fst) :: LB) H wr) (fun vj _ => (intOf vj).toNat)
      case atStart => exact ⟨a + t, S1, [], by go_num, by rw [hS1l.out], Lib.hid ⟨by simp, by simp⟩, hMs⟩
      case round =>
        clear hMs
        obtain ⟨j, L, D, rfl, hj, hLD, hM⟩ := hrel
        rcases List.eq_nil_or_concat L with rfl | ⟨L', y, hcon⟩
        · have hl : Hid (S1 = D ∧ ∀ y ∈ D, lx c x y) := hLD
          obtain rfl : j = a := by simpa using hj
          clear hj
          have hd2 : decide (j < j) = false := by simp
          go_upto_region 4 with (fail)
          (refine wp_region_I 17 (by kernel_rfl) (by kernel_rfl) ?_; simp only [List.toList_toArray, List.take_succ_cons, List.take_zero, List.drop_succ_cons, List.drop_zero])
          iterate 4 (refine wiA rfl (by simp) rfl ?_; (try simp only [List.nil_append, List.cons_append]))
          iterate 12 (refine walkI_no rfl (by simp) rfl rfl rfl ?_ ?_; (focus (simp [undef]; done)); (try simp only [List.nil_append, List.cons_append]))
          (refine wiA rfl (by simp) rfl ?_; (try simp only [List.nil_append, List.cons_append]))
          (refine walkI_nil ?_; simp only [List.nil_append, List.cons_append, fins, Is, forall_eq, Act.put, List.setIfInBounds_toArray, List.set_cons_zero, List.set_cons_succ])
          intro w3 hx3
          have hM3 := hM.ext hx3
          clear hM
          go_wp2_with fail
          go_roundw
          case rel =>
            refine ⟨t + 1, x :: D, by omega, by omega, by go_num, Lib.hid ⟨?_, ?_⟩, ?_⟩
            · refine List.Perm.trans ?_ hnx.out
              rw [hl.out.1]
              exact (List.perm_append_comm (l₁ := D) (l₂ := [x])).symm
            · exact List.pairwise_cons.2 ⟨hl.out.2, by rw [← hl.out.1]; exact hSo⟩
            · rw [hQ.out] at hM3; simpa using hM3
          case measure => simp [intOf]; omega
        · rw [List.concat_eq_append] at hcon
          subst hcon
          obtain ⟨m, hm'⟩ : ∃ m, a + L'.length = m := ⟨_, rfl⟩
          have hmA := Lib.hid hm'
          obtain rfl : j = m + 1 := by rw [hj, List.length_append]; simp; omega
          have hd2 : decide ((a : Int) < (m : Int) + 1) = true := by simp; omega
          have hPL : (P ++ L').length = m := by rw [List.length_append, ha.out]; exact hm'
          have hmN : m + 1 < N := by
            have := hN.out; have h1 := hS1l.out; have h2 := congrArg List.length hLD.out.1
            have h3 := hb.out; have h4 := ha.out
            simp only [List.length_append, List.length_cons, List.length_nil] at h2 hPL; omega
          have hMe : Mem w0 H0 (own hm 1 3 (.slice (some ⟨g, 0, none⟩) N cap) ((P ++ L').map Prod.fst ++ y.1 :: x.1 :: (D ++ Q).map Prod.fst) :: LB) H wr := by simpa using hM
          have hPL' : ((P ++ L').map Prod.fst).length = m := by rw [List.length_map]; exact hPL
          have hk0 : ((P ++ L').map Prod.fst ++ y.1 :: x.1 :: (D ++ Q).map Prod.fst)[m]? = some y.1 := by rw [List.getElem?_append_right (by omega), hPL', Nat.sub_self]; rfl
          have hk1 : ((P ++ L').map Prod.fst ++ y.1 :: x.1 :: (D ++ Q).map Prod.fst)[m + 1]? = some x.1 := by rw [List.getElem?_append_right (by omega), hPL', Nat.add_sub_cancel_left]; rfl
          have hsw := Lib.hid (swap_next ((P ++ L').map Prod.fst) ((D ++ Q).map Prod.fst) x.1 y.1)
          rw [hPL'] at hsw
          have hlN : ((P ++ L').map Prod.fst ++ y.1 :: x.1 :: (D ++ Q).map Prod.fst).length = N := by
            obtain ⟨g', cs', e1, e2, -⟩ := hMe.row1 (i := 0) rfl hk0; exact e2.symm
          obtain ⟨g0, csy, e0, -, hg0, hcy, gy, hEy⟩ := hMe.row1 (i := 0) rfl hk0
          obtain ⟨g1, csx, e1, -, -, hcx, gx, hEx⟩ := hMe.row1 (i := 0) rfl hk1
          cases e0
          cases e1
          have hcall := Lib.hid (fun W (h : Ext wr W) => HF.out W csx csy x.1 y.1 (hMe.ple.trans h.ple) hEx hEy)
          have hlxy : Hid (S1 = L' ++ y :: D ∧ ∀ z ∈ D, lx c x z) := Lib.hid ⟨by rw [hLD.out.1]; simp, hLD.out.2⟩
          have hyx : y.2 < x.2 := hlast.out y (by rw [hlxy.out.1]; simp)
          have hcE := Lib.hid (hone H csx x.1 hEx)
          have hcE2 := Lib.hid (hone H csy y.1 hEy)
          replace gx := Lib.hid gx
          replace gy := Lib.hid gy
          replace hEx := Lib.hid hEx
          replace hEy := Lib.hid hEy
          replace hMe := Lib.hid hMe
          replace hcx := Lib.hid hcx
          replace hcy := Lib.hid hcy
          have hq := Lib.hid (lx_later (c := c) hyx)
          obtain ⟨z, hz⟩ : ∃ z, c x.1 y.1 = z := ⟨_, rfl⟩
          rw [hz] at hcall hq
          clear hz hM hk0 hk1 hLD hm' hPL hPL' hj
          have hmI : (m : Int) + 1 < (N : Int) := by omega
          have hm0 : (0 : Int) ≤ (m : Int) + 1 := by omega
          have hmI2 : (m : Int) < (N : Int) := by omega
          have hwm3 : IntKind.i64.wrap (m : Int) = (m : Int) := by rw [IntKind.wrap_i64]; omega
          have hwm : IntKind.i64.wrap ((m : Int) + 1 - 1) = (m : Int) := by rw [IntKind.wrap_i64]; omega
          go_upto_region 4 with (fail)
          (refine wp_region_I 17 (by kernel_rfl) (by kernel_rfl) ?_; simp only [List.toList_toArray, List.take_succ_cons, List.take_zero, List.drop_succ_cons, List.drop_zero])
          iterate 4 (refine wiA rfl (by simp) rfl ?_; (try simp only [List.nil_append, List.cons_append]))
          iterate 4 (refine wyA rfl (by simp) rfl rfl rfl ?_; (try simp only [List.nil_append, List.cons_append]))
          (refine walkI_yesis (u := ?_) rfl (by simp) rfl rfl rfl ?_ ?_; rotate_left; (focus (intro A w' hS hA K hK; (simp only [List.map_cons, List.map_nil, knows, Is, Op.operands, Call.operands, List.lookup_cons, List.lookup_nil, Nat.reduceBEq, Bool.false_eq_true, if_false, if_true, Act.eval, Array.getD_eq_getD_getElem?, List.getElem?_toArray, List.getElem?_cons_succ, List.getElem?_cons_zero, Option.getD_some, and_true, true_and, List.append_toArray, List.nil_append, List.cons_append, List.toList_toArray, Array.toList_append, Option.toArray, List.append_nil] at hA); first | (refine oper_load_one 3 (.tmp 25) rfl g ((m + 1)) (by simpa [Act.eval] using hA) csx _ (fun j u h => hS.cell1 (gx.out j u h)) Tryz.underlying3 rfl hcx.out ?_; exact hK _ (Ext.rfl' _)) | (obtain ⟨hSc, hSf, hSs⟩ := hS.cells; go_simp; exact hK _ xN))); (try simp only [List.nil_append, List.cons_append]))
          iterate 4 (refine wyA rfl (by simp) rfl rfl rfl ?_; (try simp only [List.nil_append, List.cons_append]))
          (refine walkI_yesis (u := ?_) rfl (by simp) rfl rfl rfl ?_ ?_; rotate_left; (focus (intro A w' hS hA K hK; (simp only [List.map_cons, List.map_nil, knows, Is, Op.operands, Call.operands, List.lookup_cons, List.lookup_nil, Nat.reduceBEq, Bool.false_eq_true, if_false, if_true, Act.eval, Array.getD_eq_getD_getElem?, List.getElem?_toArray, List.getElem?_cons_succ, List.getElem?_cons_zero, Option.getD_some, and_true, true_and, List.append_toArray, List.nil_append, List.cons_append, List.toList_toArray, Array.toList_append, Option.toArray, List.append_nil] at hA); first | (refine oper_load_one 3 (.tmp 30) rfl g (m) (by simpa [Act.eval] using hA) csy _ (fun j u h => hS.cell1 (gy.out j u h)) Tryz.underlying3 rfl hcy.out ?_; exact hK _ (Ext.rfl' _)) | (obtain ⟨hSc, hSf, hSs⟩ := hS.cells; go_simp; exact hK _ xN))); (try simp only [List.nil_append, List.cons_append]))
          (refine walkI_yesis (u := ?_) rfl (by simp) rfl rfl rfl ?_ ?_; rotate_left; (focus (intro A w' hS hA K hK; (simp only [List.map_cons, List.map_nil, knows, Is, Op.operands, Call.operands, List.lookup_cons, List.lookup_nil, Nat.reduceBEq, Bool.false_eq_true, if_false, if_true, Act.eval, Array.getD_eq_getD_getElem?, List.getElem?_toArray, List.getElem?_cons_succ, List.getElem?_cons_zero, Option.getD_some, and_true, true_and, List.append_toArray, List.nil_append, List.cons_append, List.toList_toArray, Array.toList_append, Option.toArray, List.append_nil] at hA); first | (go_simp; refine RetV_at (hcall.out w' hS) ?_; intro w6 hx6; exact hK _ hx6) | (obtain ⟨hSc, hSf, hSs⟩ := hS.cells; go_simp; exact hK _ xN))); (try simp only [List.nil_append, List.cons_append]))
          (refine wyA rfl (by simp) rfl rfl rfl ?_; (try simp only [List.nil_append, List.cons_append]))
          (refine wiA rfl (by simp) rfl ?_; (try simp only [List.nil_append, List.cons_append]))
          (refine walkI_nil ?_; simp only [List.nil_append, List.cons_append, fins, Is, forall_eq, Act.put, List.setIfInBounds_toArray, List.set_cons_zero, List.set_cons_succ])
          intro w3 hx3
          by_cases hzl : z < 0
          · have hM3 := hMe.out.ext hx3
            have hlx := Lib.hid (hq.out.2 hzl)
            have hd3 : decide (z < 0) = true := decide_eq_true hzl
            have hNx : Hid (m < ((P ++ L').map Prod.fst ++ y.1 :: x.1 :: (D ++ Q).map Prod.fst).length ∧ m + 1 < ((P ++ L').map Prod.fst ++ y.1 :: x.1 :: (D ++ Q).map Prod.fst).length) := Lib.hid (by rw [hlN]; omega)
            have gx3 := Lib.hid (fun j u h => hx3.cell1 (gx.out j u h))
            have gy3 := Lib.hid (fun j u h => hx3.cell1 (gy.out j u h))
            have hmj : Hid (m = a + L'.length) := Lib.hid hmA.out.symm
            clear gx gy hcall hlN
            generalize hxs : (P ++ L').map Prod.fst ++ y.1 :: x.1 :: (D ++ Q).map Prod.fst = xs at *
            replace hxs := Lib.hid hxs
            go_upto_region 6 with (fail)
            refine wp_region_any (by kernel_rfl) ?_
            change wpAny _ _ _ _ _ _ _ (World.drew _)
            have hM7 := hM3.ext (Ext.rfl' w3).drew'
            have gx7 := Lib.hid (fun j u h => (Ext.rfl' w3).drew'.cell1 (gx3.out j u h))
            have gy7 := Lib.hid (fun j u h => (Ext.rfl' w3).drew'.cell1 (gy3.out j u h))
            refine wpAny_take (i := 0) rfl tA tA tA (fun _ _ _ h => h) (Or.inl ⟨by rfl, yA⟩) ?_; try simp only [Act.put, List.setIfInBounds_toArray, List.set_cons_zero, List.set_cons_succ]
            simp only [List.getElem_toArray, List.getElem_cons_succ, List.getElem_cons_zero, Act.put, List.setIfInBounds_toArray, List.set_cons_zero, List.set_cons_succ]
            refine wpAny_take (i := 1) rfl tA tA tA (fun _ _ _ h => h) (Or.inl ⟨by rfl, yA⟩) ?_; try simp only [Act.put, List.setIfInBounds_toArray, List.set_cons_zero, List.set_cons_succ]
            simp only [List.getElem_toArray, List.getElem_cons_succ, List.getElem_cons_zero, Act.put, List.setIfInBounds_toArray, List.set_cons_zero, List.set_cons_succ]
            refine wpAny_take (i := 2) rfl tA tA tA (fun _ _ _ h => h) (Or.inl ⟨by rfl, yA⟩) ?_; try simp only [Act.put, List.setIfInBounds_toArray, List.set_cons_zero, List.set_cons_succ]
            simp only [List.getElem_toArray, List.getElem_cons_succ, List.getElem_cons_zero, Act.put, List.setIfInBounds_toArray, List.set_cons_zero, List.set_cons_succ]
            refine wpAny_take (i := 3) rfl tA tA tA (fun _ _ _ h => h) (Or.inl ⟨by rfl, yA⟩) ?_; try simp only [Act.put, List.setIfInBounds_toArray, List.set_cons_zero, List.set_cons_succ]
            simp only [List.getElem_toArray, List.getElem_cons_succ, List.getElem_cons_zero, Act.put, List.setIfInBounds_toArray, List.set_cons_zero, List.set_cons_succ]
            refine wpAny_take (i := 4) rfl tA tA tA (fun _ _ _ h => h) (Or.inl ⟨by rfl, yA⟩) ?_; try simp only [Act.put, List.setIfInBounds_toArray, List.set_cons_zero, List.set_cons_succ]
            simp only [List.getElem_toArray, List.getElem_cons_succ, List.getElem_cons_zero, Act.put, List.setIfInBounds_toArray, List.set_cons_zero, List.set_cons_succ]
            refine wpAny_take (i := 5) rfl tA tA tA (fun _ _ _ h => h) (Or.inl ⟨by rfl, yA⟩) ?_; try simp only [Act.put, List.setIfInBounds_toArray, List.set_cons_zero, List.set_cons_succ]
            simp only [List.getElem_toArray, List.getElem_cons_succ, List.getElem_cons_zero, Act.put, List.setIfInBounds_toArray, List.set_cons_zero, List.set_cons_succ]
            refine wpAny_take (i := 6) rfl tA tA tA (fun _ _ _ h => h) (Or.inl ⟨by rfl, yA⟩) ?_; try simp only [Act.put, List.setIfInBounds_toArray, List.set_cons_zero, List.set_cons_succ]
            simp only [List.getElem_toArray, List.getElem_cons_succ, List.getElem_cons_zero, Act.put, List.setIfInBounds_toArray, List.set_cons_zero, List.set_cons_succ]
            refine wpAny_take (i := 7) rfl tA tA tA (fun _ _ _ h => h) (Or.inl ⟨by rfl, yA⟩) ?_; try simp only [Act.put, List.setIfInBounds_toArray, List.set_cons_zero, List.set_cons_succ]
            simp only [List.getElem_toArray, List.getElem_cons_succ, List.getElem_cons_zero, Act.put, List.setIfInBounds_toArray, List.set_cons_zero, List.set_cons_succ]
            refine wpAny_take (i := 8) rfl tA tA tA (fun _ _ _ h => h) (Or.inl ⟨by rfl, yA⟩) ?_; try simp only [Act.put, List.setIfInBounds_toArray, List.set_cons_zero, List.set_cons_succ]
            simp only [List.getElem_toArray, List.getElem_cons_succ, List.getElem_cons_zero, Act.put, List.setIfInBounds_toArray, List.set_cons_zero, List.set_cons_succ]
            refine wpAny_take (i := 10) rfl tA tA tA (fun _ _ _ h => h) (Or.inl ⟨by rfl, yA⟩) ?_; try simp only [Act.put, List.setIfInBounds_toArray, List.set_cons_zero, List.set_cons_succ]
            simp only [List.getElem_toArray, List.getElem_cons_succ, List.getElem_cons_zero, Act.put, List.setIfInBounds_toArray, List.set_cons_zero, List.set_cons_succ]
            refine wpAny_take (i := 11) rfl tA tA tA (fun _ _ _ h => h) (Or.inl ⟨by rfl, yA⟩) ?_; try simp only [Act.put, List.setIfInBounds_toArray, List.set_cons_zero, List.set_cons_succ]
            simp only [List.getElem_toArray, List.getElem_cons_succ, List.getElem_cons_zero, Act.put, List.setIfInBounds_toArray, List.set_cons_zero, List.set_cons_succ]
            refine wpAny_take (i := 12) rfl tA tA tA (fun _ _ _ h => h) (Or.inl ⟨by rfl, yA⟩) ?_; try simp only [Act.put, List.setIfInBounds_toArray, List.set_cons_zero, List.set_cons_succ]
            simp only [List.getElem_toArray, List.getElem_cons_succ, List.getElem_cons_zero, Act.put, List.setIfInBounds_toArray, List.set_cons_zero, List.set_cons_succ]
            refine wpAny_ready (rs := [9, 13]) (by kernel_rfl) (by simp) ?_
            refine AllReady.load1 rfl rfl 3 _ rfl g (m) rfl csy _ gy7.out Tryz.underlying3 rfl hcy.out ?_ (AllReady.load1 rfl rfl 3 _ rfl g ((m + 1)) rfl csx _ gx7.out Tryz.underlying3 rfl hcx.out ?_ AllReady.nil)
            · simp only [List.getElem_toArray, List.getElem_cons_succ, List.getElem_cons_zero, Act.put, List.setIfInBounds_toArray, List.set_cons_zero, List.set_cons_succ]
              refine wpAny_ready (rs := [13]) (by kernel_rfl) (by simp) (AllReady.load1 rfl rfl 3 _ rfl g ((m + 1)) rfl csx _ gx7.out Tryz.underlying3 rfl hcx.out ?_ AllReady.nil)
              simp only [List.getElem_toArray, List.getElem_cons_succ, List.getElem_cons_zero, Act.put, List.setIfInBounds_toArray, List.set_cons_zero, List.set_cons_succ]
              refine wpAny_take (i := 14) rfl tA tA tA (fun _ _ _ h => h) (Or.inl ⟨by rfl, yA⟩) ?_
              try simp only [List.getElem_toArray, List.getElem_cons_succ, List.getElem_cons_zero, Act.put, List.setIfInBounds_toArray, List.set_cons_zero, List.set_cons_succ]
              refine wpAny_ready (rs := [15]) (by kernel_rfl) (by simp) (AllReady.store1 (xs := xs) (n := N) (cap := cap) (g := g) rfl rfl 3 _ _ rfl (m + 1) rfl (cs := csy) rfl (x' := y.1) hM7 0 rfl hNx.out.2 hEy.out hcy.out hcE2.out (by kernel_rfl) ?_ AllReady.nil)
              intro w8 hM8
              simp only [List.set_cons_zero] at hM8
              try simp only [List.getElem_toArray, List.getElem_cons_succ, List.getElem_cons_zero, Act.put, List.setIfInBounds_toArray, List.set_cons_zero, List.set_cons_succ]
              refine wpAny_take (i := 16) rfl tA tA tA (fun _ _ _ h => h) (Or.inl ⟨by rfl, yA⟩) ?_
              try simp only [List.getElem_toArray, List.getElem_cons_succ, List.getElem_cons_zero, Act.put, List.setIfInBounds_toArray, List.set_cons_zero, List.set_cons_succ]
              refine wpAny_ready (rs := [17]) (by kernel_rfl) (by simp) (AllReady.store1 (xs := (xs.set (m + 1) y.1)) (n := N) (cap := cap) (g := g) rfl rfl 3 _ _ rfl m rfl (cs := csx) rfl (x' := x.1) hM8 0 rfl (by rw [List.length_set]; exact hNx.out.1) hEx.out hcx.out hcE.out (by kernel_rfl) ?_ AllReady.nil)
              intro w8 hM9
              simp only [List.set_cons_zero] at hM9
              try simp only [List.getElem_toArray, List.getElem_cons_succ, List.getElem_cons_zero, Act.put, List.setIfInBounds_toArray, List.set_cons_zero, List.set_cons_succ]
              refine wpAny_done (by kernel_rfl) ?_ _
              try simp only [List.getElem_toArray, List.getElem_cons_succ, List.getElem_cons_zero, Act.put, List.setIfInBounds_toArray, List.set_cons_zero, List.set_cons_succ]
              clear hM7 hM8
              rw [hsw.out] at hM9
              go_wp2_with fail
              go_roundw
              case rel =>
                refine ⟨m, L', y :: D, by go_num, hmA.out.symm, Lib.hid ⟨hlxy.out.1, fun u hu => ?_⟩, ?_⟩
                · rcases List.mem_cons.1 hu with rfl | hu
                  · exact hlx.out
                  · exact hlxy.out.2 u hu
                · simpa using hM9
              case measure => simp [intOf] <;> omega
            · simp only [List.getElem_toArray, List.getElem_cons_succ, List.getElem_cons_zero, Act.put, List.setIfInBounds_toArray, List.set_cons_zero, List.set_cons_succ]
              refine wpAny_ready (rs := [9]) (by kernel_rfl) (by simp) (AllReady.load1 rfl rfl 3 _ rfl g (m) rfl csy _ gy7.out Tryz.underlying3 rfl hcy.out ?_ AllReady.nil)
              simp only [List.getElem_toArray, List.getElem_cons_succ, List.getElem_cons_zero, Act.put, List.setIfInBounds_toArray, List.set_cons_zero, List.set_cons_succ]
              refine wpAny_take (i := 14) rfl tA tA tA (fun _ _ _ h => h) (Or.inl ⟨by rfl, yA⟩) ?_
              try simp only [List.getElem_toArray, List.getElem_cons_succ, List.getElem_cons_zero, Act.put, List.setIfInBounds_toArray, List.set_cons_zero, List.set_cons_succ]
              refine wpAny_ready (rs := [15]) (by kernel_rfl) (by simp) (AllReady.store1 (xs := xs) (n := N) (cap := cap) (g := g) rfl rfl 3 _ _ rfl (m + 1) rfl (cs := csy) rfl (x' := y.1) hM7 0 rfl hNx.out.2 hEy.out hcy.out hcE2.out (by kernel_rfl) ?_ AllReady.nil)
              intro w8 hM8
              simp only [List.set_cons_zero] at hM8
              try simp only [List.getElem_toArray, List.getElem_cons_succ, List.getElem_cons_zero, Act.put, List.setIfInBounds_toArray, List.set_cons_zero, List.set_cons_succ]
              refine wpAny_take (i := 16) rfl tA tA tA (fun _ _ _ h => h) (Or.inl ⟨by rfl, yA⟩) ?_
              try simp only [List.getElem_toArray, List.getElem_cons_succ, List.getElem_cons_zero, Act.put, List.setIfInBounds_toArray, List.set_cons_zero, List.set_cons_succ]
              refine wpAny_ready (rs := [17]) (by kernel_rfl) (by simp) (AllReady.store1 (xs := (xs.set (m + 1) y.1)) (n := N) (cap := cap) (g := g) rfl rfl 3 _ _ rfl m rfl (cs := csx) rfl (x' := x.1) hM8 0 rfl (by rw [List.length_set]; exact hNx.out.1) hEx.out hcx.out hcE.out (by kernel_rfl) ?_ AllReady.nil)
              intro w8 hM9
              simp only [List.set_cons_zero] at hM9
              try simp only [List.getElem_toArray, List.getElem_cons_succ, List.getElem_cons_zero, Act.put, List.setIfInBounds_toArray, List.set_cons_zero, List.set_cons_succ]
              refine wpAny_done (by kernel_rfl) ?_ _
              try simp only [List.getElem_toArray, List.getElem_cons_succ, List.getElem_cons_zero, Act.put, List.setIfInBounds_toArray, List.set_cons_zero, List.set_cons_succ]
              clear hM7 hM8
              rw [hsw.out] at hM9
              go_wp2_with fail
              go_roundw
              case rel =>
                refine ⟨m, L', y :: D, by go_num, hmA.out.symm, Lib.hid ⟨hlxy.out.1, fun u hu => ?_⟩, ?_⟩
                · rcases List.mem_cons.1 hu with rfl | hu
                  · exact hlx.out
                  · exact hlxy.out.2 u hu
                · simpa using hM9
              case measure => simp [intOf] <;> omega
          · have hd3 : decide (z < 0) = false := decide_eq_false hzl
            have hM3 := hMe.out.ext hx3
            have hlx : Hid (lx c y x) := Lib.hid (lx_not hyx (by rw [← lx_later hyx]; exact fun h => hzl (hq.out.1 h)))
            clear gx gy hcall hlN
            generalize hxs : (P ++ L').map Prod.fst ++ y.1 :: x.1 :: (D ++ Q).map Prod.fst = xs at *
            replace hxs := Lib.hid hxs
            go_wp2_with fail
            go_roundw
            case rel =>
              obtain ⟨k1, k2⟩ := hlxy.out
              have hy : InO c (L' ++ y :: D) := by rw [← k1]; exact hSo
              refine ⟨t + 1, (L' ++ [y]) ++ x :: D, by omega, by omega, by go_num, Lib.hid ⟨?_, ?_⟩, ?_⟩
              · refine List.Perm.trans ?_ hnx.out
                rw [k1, show L' ++ y :: D = (L' ++ [y]) ++ D by simp, List.append_assoc (L' ++ [y])]
                exact List.Perm.append_left _ (List.perm_append_comm (l₁ := [x]) (l₂ := D))
              · obtain ⟨p1, p2, p3⟩ := List.pairwise_append.1 hy
                refine InO.insert hc (by simpa using hy) (fun u hu => ?_) k2
                rcases List.mem_append.1 hu with hu | hu
                · exact lx_trans hc (p3 u hu y (by simp)) hlx.out
                · rw [List.mem_singleton.1 hu]; exact hlx.out
              · rw [← hxs.out, hQ.out] at hM3
                simpa using hM3
            case measure => simp [intOf]; omega
    · have hd1 : decide (a + t < b) = false := decide_eq_false hlt
      go_wp2_with fail
      refine bodyPost_ret (v := .tuple #[]) (by simp [results, Tryz.results253, go_sem]) rfl ⟨rfl, S1, hS1.out.2, ?_, ?_⟩
      · have := hS1.out.1
        rwa [List.take_of_length_le (by have := hb.out; have := ha.out; omega)] at this
      · rw [List.drop_eq_nil_of_le (by have := hb.out; have := ha.out; omega), List.append_nil] at hM
        exact hM
end Go.Proofs.YtabajghokhfmhaaGreat
