/- package priorartref15: Check.; terms: the law of Add; End. -/
import Derived.Test.YtcmdekhhclgdcaaGreatDoorTBrkA
import Derived.Deep.CutBlock
namespace Go.Proofs.YtcmdekhhclgdcaaGreatDoor
open Go.RowKit Go.Shelf
set_option linter.unusedSimpArgs false
set_option linter.unusedVariables false
set_option maxRecDepth 100000 in
set_option maxHeartbeats 2000000 in
theorem rtcheck_c (file : Int) (xs : List Ac) (va : Value) (w : World) (hA : ActsR (ph w) va xs) : Calls Tryz.prog 55 #[.int .i64 file, va] w (RetV w (.int .i64 (tchk file xs))) := by
  obtain ⟨xa, xc, rfl, xlen, hA⟩ := hA.form
  by_cases hf1 : file < 0
  · have hE2 : Hid (tchk file xs = 1) := if_pos (by omega)
    go_enter Tryz.func55, Tryz.ntmps55
    go_wp2_with fail
    go_ret
    exact ⟨ret_int hE2.out.symm, (by repeat (first | (with_reducible assumption) | (with_reducible exact Ext.rfl' _) | (with_reducible exact Ext.new _ _) | (with_reducible refine Ext.alloc' ?_ _) | (with_reducible refine Ext.drew' ?_) | (with_reducible refine Ext.drewN' ?_ _) | (with_reducible refine Ext.set' ?_ ?_ _; rotate_left; (focus (first | omega | (simp; done) | (simp; omega)))) | (with_reducible refine Ext.then (b := ?_) ?_ ?_; rotate_left; rotate_left; (with_reducible assumption))))⟩
  by_cases hf2 : 4095 < file
  · have hE2 : Hid (tchk file xs = 1) := if_pos (by omega)
    go_enter Tryz.func55, Tryz.ntmps55
    go_wp2_with fail
    go_ret
    exact ⟨ret_int hE2.out.symm, (by repeat (first | (with_reducible assumption) | (with_reducible exact Ext.rfl' _) | (with_reducible exact Ext.new _ _) | (with_reducible refine Ext.alloc' ?_ _) | (with_reducible refine Ext.drew' ?_) | (with_reducible refine Ext.drewN' ?_ _) | (with_reducible refine Ext.set' ?_ ?_ _; rotate_left; (focus (first | omega | (simp; done) | (simp; omega)))) | (with_reducible refine Ext.then (b := ?_) ?_ ?_; rotate_left; rotate_left; (with_reducible assumption))))⟩
  have hE : Hid (tchk file xs = if xs.any (badB file) = true then 5 else 0) := if_neg (by omega)
  go_enter Tryz.func55, Tryz.ntmps55
  go_wp2_with fail
  go_loopw [5] (fun i wr => ∃ k : Nat, k ≤ xs.length ∧ i = .int .i64 k ∧ Hid (∀ x ∈ xs.take k, badB file x = false) ∧ Ext w wr) (fun i _ => xs.length - (intOf i).toNat)
  case atStart => exact ⟨0, by omega, rfl, Lib.hid (by simp), Ext.rfl' _⟩
  case round =>
    obtain ⟨k, hk, rfl, hno, hxr⟩ := hrel
    by_cases hlt : k < xs.length
    · obtain ⟨gb, go, rfl, gc, gl, -⟩ := ActsR.row (hA.mono mono_ActR hxr.ple) k hlt
      have hyes : badB file xs[k] = true → Hid (tchk file xs = 5) := fun h => by show _ = _; rw [hE.out, if_pos (List.any_eq_true.2 ⟨_, List.getElem_mem hlt, h⟩)]
      have hno' : badB file xs[k] = false → Hid (∀ x ∈ xs.take (k + 1), badB file x = false) := fun h => Lib.hid (take_all (p := fun x => badB file x = false) hlt h hno.out)
      generalize xs[k] = x at *
      obtain ⟨fc, -⟩ := (Own.new wr (actC x).toArray 67).facts
      have q0 : _ = some (Value.int .i64 x.kind) := fc 0
      have q1 : _ = some (Value.int .i64 x.day) := fc 1
      have q3 : _ = some (Value.int .i64 x.file) := fc 3
      have q7 : _ = some (Value.int .i64 x.number) := fc 7
      clear fc hno
      by_cases h1 : x.kind = 9
      · have b1 : (x.kind == 9) = true := by rw [beq_iff_eq]; exact h1
        by_cases h2 : x.file = file
        · have b2 : (x.file == file) = true := by rw [beq_iff_eq]; exact h2
          by_cases h3 : x.day ≤ x.number
          · have b3 : decide (x.day ≤ x.number) = true := by simpa using h3
            by_cases h4 : x.day < 0
            · have b4 : decide (x.day < 0) = true := by simpa using h4
              have hE2 := hyes (by unfold badB; rw [b1, b2, b3, b4]; rfl)
              clear hyes hno' hE h1 h2
              go_upto_region 7 with (first | (refine wpList_load_mid rfl 67 _ rfl _ _ rfl (actC _) _ gc Tryz.underlying67 rfl (by kernel_rfl) ?_) | (refine wpList_store_new rfl 67 _ _ rfl (actC _).toArray rfl rfl 67 _ (by kernel_rfl) rfl (one_act _) ?_))
              go_wp2_with fail
              go_ret
              exact ⟨ret_int hE2.out.symm, (by repeat (first | (with_reducible assumption) | (with_reducible exact Ext.rfl' _) | (with_reducible exact Ext.new _ _) | (with_reducible refine Ext.alloc' ?_ _) | (with_reducible refine Ext.drew' ?_) | (with_reducible refine Ext.drewN' ?_ _) | (with_reducible refine Ext.set' ?_ ?_ _; rotate_left; (focus (first | omega | (simp; done) | (simp; omega)))) | (with_reducible refine Ext.then (b := ?_) ?_ ?_; rotate_left; rotate_left; (with_reducible assumption))))⟩
            · have b4 : decide (x.day < 0) = false := by simpa using h4
              by_cases h5 : 131072 < x.number
              · have b5 : decide (131072 < x.number) = true := by simpa using h5
                have hE2 := hyes (by unfold badB; rw [b1, b2, b3, b4, b5]; rfl)
                clear hyes hno' hE h1 h2
                go_upto_region 7 with (first | (refine wpList_load_mid rfl 67 _ rfl _ _ rfl (actC _) _ gc Tryz.underlying67 rfl (by kernel_rfl) ?_) | (refine wpList_store_new rfl 67 _ _ rfl (actC _).toArray rfl rfl 67 _ (by kernel_rfl) rfl (one_act _) ?_))
                go_wp2_with fail
                go_ret
                exact ⟨ret_int hE2.out.symm, (by repeat (first | (with_reducible assumption) | (with_reducible exact Ext.rfl' _) | (with_reducible exact Ext.new _ _) | (with_reducible refine Ext.alloc' ?_ _) | (with_reducible refine Ext.drew' ?_) | (with_reducible refine Ext.drewN' ?_ _) | (with_reducible refine Ext.set' ?_ ?_ _; rotate_left; (focus (first | omega | (simp; done) | (simp; omega)))) | (with_reducible refine Ext.then (b := ?_) ?_ ?_; rotate_left; rotate_left; (with_reducible assumption))))⟩
              · have b5 : decide (131072 < x.number) = false := by simpa using h5
                have hr := hno' (by unfold badB; rw [b4, b5]; simp)
                clear hyes hno' h1 h2
                go_upto_region 7 with (first | (refine wpList_load_mid rfl 67 _ rfl _ _ rfl (actC _) _ gc Tryz.underlying67 rfl (by kernel_rfl) ?_) | (refine wpList_store_new rfl 67 _ _ rfl (actC _).toArray rfl rfl 67 _ (by kernel_rfl) rfl (one_act _) ?_))
                go_wp2_with fail
                go_roundw
                case rel => exact ⟨k + 1, by omega, rfl, hr, (by repeat (first | (with_reducible assumption) | (with_reducible exact Ext.rfl' _) | (with_reducible exact Ext.new _ _) | (with_reducible refine Ext.alloc' ?_ _) | (with_reducible refine Ext.drew' ?_) | (with_reducible refine Ext.drewN' ?_ _) | (with_reducible refine Ext.set' ?_ ?_ _; rotate_left; (focus (first | omega | (simp; done) | (simp; omega)))) | (with_reducible refine Ext.then (b := ?_) ?_ ?_; rotate_left; rotate_left; (with_reducible assumption))))⟩
                case measure => simp [intOf]; omega
          · have b3 : decide (x.day ≤ x.number) = false := by simpa using h3
            have hr := hno' (by unfold badB; rw [b3]; simp)
            clear hyes hno' h1 h2
            go_upto_region 7 with (first | (refine wpList_load_mid rfl 67 _ rfl _ _ rfl (actC _) _ gc Tryz.underlying67 rfl (by kernel_rfl) ?_) | (refine wpList_store_new rfl 67 _ _ rfl (actC _).toArray rfl rfl 67 _ (by kernel_rfl) rfl (one_act _) ?_))
            go_wp2_with fail
            go_roundw
            case rel => exact ⟨k + 1, by omega, rfl, hr, (by repeat (first | (with_reducible assumption) | (with_reducible exact Ext.rfl' _) | (with_reducible exact Ext.new _ _) | (with_reducible refine Ext.alloc' ?_ _) | (with_reducible refine Ext.drew' ?_) | (with_reducible refine Ext.drewN' ?_ _) | (with_reducible refine Ext.set' ?_ ?_ _; rotate_left; (focus (first | omega | (simp; done) | (simp; omega)))) | (with_reducible refine Ext.then (b := ?_) ?_ ?_; rotate_left; rotate_left; (with_reducible assumption))))⟩
            case measure => simp [intOf]; omega
        · have b2 : (x.file == file) = false := by rw [beq_eq_false_iff_ne]; exact h2
          have hr := hno' (by unfold badB; rw [b2]; simp)
          clear hyes hno' h1 h2
          go_upto_region 7 with (first | (refine wpList_load_mid rfl 67 _ rfl _ _ rfl (actC _) _ gc Tryz.underlying67 rfl (by kernel_rfl) ?_) | (refine wpList_store_new rfl 67 _ _ rfl (actC _).toArray rfl rfl 67 _ (by kernel_rfl) rfl (one_act _) ?_))
          go_wp2_with fail
          go_roundw
          case rel => exact ⟨k + 1, by omega, rfl, hr, (by repeat (first | (with_reducible assumption) | (with_reducible exact Ext.rfl' _) | (with_reducible exact Ext.new _ _) | (with_reducible refine Ext.alloc' ?_ _) | (with_reducible refine Ext.drew' ?_) | (with_reducible refine Ext.drewN' ?_ _) | (with_reducible refine Ext.set' ?_ ?_ _; rotate_left; (focus (first | omega | (simp; done) | (simp; omega)))) | (with_reducible refine Ext.then (b := ?_) ?_ ?_; rotate_left; rotate_left; (with_reducible assumption))))⟩
          case measure => simp [intOf]; omega
      · have b1 : (x.kind == 9) = false := by rw [beq_eq_false_iff_ne]; exact h1
        have hr := hno' (by unfold badB; rw [b1]; simp)
        clear hyes hno' h1
        go_upto_region 7 with (first | (refine wpList_load_mid rfl 67 _ rfl _ _ rfl (actC _) _ gc Tryz.underlying67 rfl (by kernel_rfl) ?_) | (refine wpList_store_new rfl 67 _ _ rfl (actC _).toArray rfl rfl 67 _ (by kernel_rfl) rfl (one_act _) ?_))
        go_wp2_with fail
        go_roundw
        case rel => exact ⟨k + 1, by omega, rfl, hr, (by repeat (first | (with_reducible assumption) | (with_reducible exact Ext.rfl' _) | (with_reducible exact Ext.new _ _) | (with_reducible refine Ext.alloc' ?_ _) | (with_reducible refine Ext.drew' ?_) | (with_reducible refine Ext.drewN' ?_ _) | (with_reducible refine Ext.set' ?_ ?_ _; rotate_left; (focus (first | omega | (simp; done) | (simp; omega)))) | (with_reducible refine Ext.then (b := ?_) ?_ ?_; rotate_left; rotate_left; (with_reducible assumption))))⟩
        case measure => simp [intOf]; omega
    · have hE2 : Hid (tchk file xs = 0) := by
        show _ = _
        rw [hE.out, if_neg]
        rw [Bool.not_eq_true, List.any_eq_false]
        intro x hx
        have := take_done (p := fun x => badB file x = false) (by omega) hno.out x hx
        simp [this]
      clear hno hE
      go_wp2_with fail
      go_ret
      exact ⟨ret_int hE2.out.symm, hxr⟩
end Go.Proofs.YtcmdekhhclgdcaaGreatDoor
namespace Go.Proofs.YtcmdekhhclgdcaaGreatDoor
open Go.RowKit Go.Shelf
set_option linter.unusedSimpArgs false
set_option linter.unusedVariables false
/-- the first day of month M (counted from year 0) -/
def ms (M : Int) : Int := bef (M / 12) - bef 1900 + dayM (M / 12) (M % 12).toNat
theorem ms_succ (M : Int) : ms (M + 1) = ms M + lenM (M / 12) (M % 12 + 1) := by
  unfold ms
  by_cases h : M % 12 = 11
  · have e1 : (M + 1) / 12 = M / 12 + 1 := by omega
    have e2 : (M + 1) % 12 = 0 := by omega
    have e3 := dayM_12 (M / 12)
    have e4 := bef_succ (M / 12)
    have e5 : dayM (M / 12) 12 = dayM (M / 12) 11 + lenM (M / 12) (((11 : Nat) : Int) + 1) := rfl
    rw [e1, e2, h]
    have e6 : dayM (M / 12 + 1) ((0 : Int).toNat) = 0 := rfl
    have e7 : (11 : Int).toNat = 11 := rfl
    rw [e6, e7, e4]
    have e8 : (((11 : Nat) : Int) + 1) = 11 + 1 := rfl
    rw [e8] at e5
    omega
  · have e1 : (M + 1) / 12 = M / 12 := by omega
    have e2 : ((M + 1) % 12).toNat = (M % 12).toNat + 1 := by omega
    have e3 : dayM (M / 12) ((M % 12).toNat + 1) = dayM (M / 12) (M % 12).toNat + lenM (M / 12) (((M % 12).toNat : Int) + 1) := rfl
    rw [e1, e2, e3, show (((M % 12).toNat : Int) + 1) = M % 12 + 1 by omega]
    omega
theorem lenM_28 (y m : Int) : 28 ≤ lenM y m := by unfold lenM; split <;> (try split) <;> omega
theorem ms_mono : ∀ (n : Nat) (M : Int), ms M ≤ ms (M + n)
  | 0, M => by simp
  | n + 1, M => by
    have h := ms_mono n M
    have e := ms_succ (M + n)
    have := lenM_28 ((M + n) / 12) ((M + n) % 12 + 1)
    rw [show M + ((n + 1 : Nat) : Int) = M + n + 1 by omega]
    omega
/-- day k of month M, or the month's last one -/
def mkD (M k : Int) : Int := ms M + min k (lenM (M / 12) (M % 12 + 1)) - 1
theorem mkD_mono {M M' k k' : Int} (hk : 1 ≤ k') (h : M < M' ∨ M = M' ∧ k ≤ k') : mkD M k ≤ mkD M' k' := by
  rcases h with h | ⟨rfl, h⟩
  · unfold mkD
    have e := ms_succ M
    have e2 := ms_mono (M' - (M + 1)).toNat (M + 1)
    rw [show M + 1 + (((M' - (M + 1)).toNat : Nat) : Int) = M' by omega] at e2
    have := lenM_28 (M' / 12) (M' % 12 + 1)
    omega
  · unfold mkD; omega
theorem addD_mkD (p : Int × Int × Int) (n : Int) : addD p n = mkD (12 * p.1 + p.2.1 - 1 + n) p.2.2 := by
  unfold addD mkD numV ms
  dsimp only
  rw [show (12 * p.1 + p.2.1 - 1 + n) % 12 + 1 - 1 = (12 * p.1 + p.2.1 - 1 + n) % 12 by omega]
theorem IsDate.toMk {d y m k : Int} (h : IsDate d y m k) : mkD (12 * y + m - 1) k = d := by
  obtain ⟨h0, h1, h2, h3, h4, h5⟩ := h
  unfold mkD ms
  have e1 : (12 * y + m - 1) / 12 = y := by omega
  have e2 : (12 * y + m - 1) % 12 = m - 1 := by omega
  rw [e1, e2, show m - 1 + 1 = m by omega]
  omega
/-- the order of days is that of their dates -/
theorem IsDate.le {d y m k d' y' m' k' : Int} (h : IsDate d y m k) (h' : IsDate d' y' m' k') (hd : d ≤ d') : 12 * y + m - 1 < 12 * y' + m' - 1 ∨ 12 * y + m - 1 = 12 * y' + m' - 1 ∧ k ≤ k' := by
  have e := h.toMk
  have e' := h'.toMk
  refine Classical.byContradiction fun hn => ?_
  have h3 : 12 * y' + m' - 1 < 12 * y + m - 1 ∨ 12 * y' + m' - 1 = 12 * y + m - 1 ∧ k' < k := by omega
  rcases h3 with h3 | ⟨h3, h4⟩
  · have e1 := ms_succ (12 * y' + m' - 1)
    have e2 := ms_mono ((12 * y + m - 1) - (12 * y' + m' - 1 + 1)).toNat (12 * y' + m' - 1 + 1)
    rw [show 12 * y' + m' - 1 + 1 + ((((12 * y + m - 1) - (12 * y' + m' - 1 + 1)).toNat : Nat) : Int) = 12 * y + m - 1 by omega] at e2
    unfold mkD at e e'
    have := h.k0
    have := lenM_28 ((12 * y + m - 1) / 12) ((12 * y + m - 1) % 12 + 1)
    omega
  · have hk1 := h.k1
    have hk1' := h'.k1
    have h5 : y = y' := by have := h.m0; have := h.m1; have := h'.m0; have := h'.m1; omega
    have h6 : m = m' := by omega
    subst h5 h6
    have := h.eq; have := h'.eq
    omega
theorem addD_mono {d d' n n' : Int} (h0 : 0 ≤ d) (hd : d ≤ d') (hn : n ≤ n') : addD (dateV d) n ≤ addD (dateV d') n' := by
  have h1 := dateV_is d h0
  have h2 := dateV_is d' (by omega)
  rw [addD_mkD, addD_mkD]
  refine mkD_mono h2.k0 ?_
  have := h1.le h2 hd
  omega
theorem addD_ge {d n : Int} (h0 : 0 ≤ d) (hn : 0 ≤ n) : d ≤ addD (dateV d) n := by
  have h1 := dateV_is d h0
  have h2 := addD_mono h0 (Int.le_refl d) hn
  have h3 : addD (dateV d) 0 = d := by
    rw [addD_mkD, show 12 * (dateV d).1 + (dateV d).2.1 - 1 + 0 = 12 * (dateV d).1 + (dateV d).2.1 - 1 by omega]
    exact h1.toMk
  omega
theorem addV_ok {d n : Int} (h : (addV d n).2 = 0) : 0 ≤ d ∧ 0 ≤ n ∧ n ≤ 12000 ∧ d ≤ (addV d n).1 ∧ (addV d n).1 ≤ 131072 ∧ (addV d n).1 = addD (dateV d) n := by
  unfold addV at *
  split at h
  · cases h
  · rename_i h1
    rw [if_neg h1]
    split at h
    · cases h
    · rename_i h2
      rw [if_neg h2]
      split at h
      · rename_i h3
        rw [if_pos h3]
        have := addD_ge (d := d) (n := n) (by omega) (by omega)
        exact ⟨by omega, by omega, by omega, this, h3, rfl⟩
      · cases h
theorem many_le (p : Int → Bool) (a b : Int) : 0 ≤ many p a b ∧ many p a b ≤ max 0 (b - a + 1) := by
  have := cnt_le p a (b - a + 1).toNat
  unfold many; omega
/-- the end of a term -/
noncomputable def endE (c : Cal) (xs : List Ac) (office file d n : Int) : Int × Int :=
  if checkE c office 0 ≠ 0 then (0, checkE c office 0) else if tchk file xs ≠ 0 then (0, tchk file xs) else if (addV d n).2 ≠ 0 then (0, (addV d n).2) else
  if 131072 < endF (brokB file xs) 131074 (d + 1) (addV d n).1 then (0, 5) else nextE c xs office (endF (brokB file xs) 131074 (d + 1) (addV d n).1)
end Go.Proofs.YtcmdekhhclgdcaaGreatDoor
namespace Go.Proofs.YtcmdekhhclgdcaaGreatDoor
open Go.RowKit Go.Shelf
set_option linter.unusedSimpArgs false
set_option linter.unusedVariables false
attribute [local go_sem] run_store_fn
abbrev movL (bl be bm : Nat) (vl : Value) (e : Int) : List Chunk :=
  [box bl #[vl] 101, box be #[.int .i64 e] 3, box bm #[.func (.func 51) #[] #[.pointer (some ⟨bl, 0, none⟩), .pointer (some ⟨be, 0, none⟩), .pointer (some ⟨bm, 0, none⟩)]] 105]
def MovP (w0 : World) (bl be bm : Nat) (vl : Value) (r : Int) (e : Ending) (w' : World) : Prop := e = .returned (.tuple #[]) ∧ Mem w0 noH (movL bl be bm vl r) noH w'
theorem endF_stop {p : Int → Bool} {f : Nat} {a e : Int} (h : many p a e = 0 ∨ 131072 < e) : endF p (f + 1) a e = e := by unfold endF; rw [if_pos h]
theorem endF_go {p : Int → Bool} {f : Nat} {a e : Int} (h : ¬ (many p a e = 0 ∨ 131072 < e)) : endF p (f + 1) a e = endF p f (e + 1) (e + many p a e) := by rw [endF, if_neg h]
theorem endF_bd {p : Int → Bool} : ∀ (f : Nat) (a e : Int), 0 ≤ a → 0 ≤ e → e ≤ 262145 → 0 ≤ endF p f a e ∧ endF p f a e ≤ 262145
  | 0, a, e, _, h1, h2 => ⟨h1, h2⟩
  | f + 1, a, e, h0, h1, h2 => by
    have := many_le p a e
    by_cases h : many p a e = 0 ∨ 131072 < e
    · rw [endF_stop h]; exact ⟨h1, h2⟩
    · rw [endF_go h]; exact endF_bd f _ _ (by omega) (by omega) (by omega)
set_option maxRecDepth 100000 in
set_option maxHeartbeats 2000000 in
theorem move_c (l : List Iv) (p : Int → Bool) (hlp : ∀ a b, laps l a b = many p a b) (hl : ∀ x ∈ l, 0 ≤ x.1 ∧ x.1 ≤ x.2 ∧ x.2 ≤ 131072) (hn : l.length ≤ 1000000) (la : Option Addr) (lc : Nat) (w0 : World) (hL : IvsR (ph w0) (.slice la l.length lc) l) (bl be bm : Nat) :
    ∀ (f : Nat) (a e : Int) (W : World), 131073 - e ≤ f → 0 ≤ a → a ≤ 300000 → 0 ≤ e → e ≤ 300000 → Mem w0 noH (movL bl be bm (.slice la l.length lc) e) noH W →
      Calls Tryz.prog 51 #[.int .i64 a, .pointer (some ⟨bl, 0, none⟩), .pointer (some ⟨be, 0, none⟩), .pointer (some ⟨bm, 0, none⟩)] W (MovP w0 bl be bm (.slice la l.length lc) (endF p (f + 1) a e)) := by
  intro f
  induction f with
  | zero =>
    intro a e W hf ha ha' he he' hM
    have hr : Hid (endF p (0 + 1) a e = e) := endF_stop (.inr (by omega))
    have hbc := broken_c l a e _ W (hL.mono mono_IvR hM.ex.ple) hl hn (by omega) (by omega) (by omega) (by omega)
    have c0 : _ = some (Value.slice la l.length lc) := (hM.box 0 rfl).facts.1 0
    have c1 : _ = some (Value.int .i64 e) := (hM.box 1 rfl).facts.1 0
    generalize laps l a e = k at *
    clear hlp hL hl
    have he2 : 131072 < e := by omega
    by_cases hk : k = 0
    · subst hk
      go_enter Tryz.func51, Tryz.ntmps51
      go_wp2_with fail
      refine RetV_at hbc ?_
      intro w2 hx2
      have c1' := hx2.cell1 c1
      go_wp2_with fail
      go_end0
      exact ⟨rfl, by rw [hr.out]; exact hM.ext hx2⟩
    · have hkb : (k == 0) = false := by simpa using hk
      go_enter Tryz.func51, Tryz.ntmps51
      go_wp2_with fail
      refine RetV_at hbc ?_
      intro w2 hx2
      have c1' := hx2.cell1 c1
      go_wp2_with fail
      go_end0
      exact ⟨rfl, by rw [hr.out]; exact hM.ext hx2⟩
  | succ f ih =>
    intro a e W hf ha ha' he he' hM
    have hbc := broken_c l a e _ W (hL.mono mono_IvR hM.ex.ple) hl hn (by omega) (by omega) (by omega) (by omega)
    have c0 : _ = some (Value.slice la l.length lc) := (hM.box 0 rfl).facts.1 0
    have c1 : _ = some (Value.int .i64 e) := (hM.box 1 rfl).facts.1 0
    have hst := fun h => endF_stop (p := p) (f := f + 1) (a := a) (e := e) h
    have hgo := fun h => endF_go (p := p) (f := f + 1) (a := a) (e := e) h
    have hml := many_le p a e
    rw [hlp a e] at hbc
    generalize many p a e = k at *
    clear hlp hL hl
    by_cases hk : k = 0
    · have hr := Lib.hid (hst (.inl hk))
      subst hk
      clear hst hgo ih
      go_enter Tryz.func51, Tryz.ntmps51
      go_wp2_with fail
      refine RetV_at hbc ?_
      intro w2 hx2
      have c1' := hx2.cell1 c1
      go_wp2_with fail
      go_end0
      exact ⟨rfl, by rw [hr.out]; exact hM.ext hx2⟩
    · have hkb : (k == 0) = false := by simpa using hk
      by_cases he2 : 131072 < e
      · have hr := Lib.hid (hst (.inr he2))
        clear hst hgo ih
        go_enter Tryz.func51, Tryz.ntmps51
        go_wp2_with fail
        refine RetV_at hbc ?_
        intro w2 hx2
        have c1' := hx2.cell1 c1
        go_wp2_with fail
        go_end0
        exact ⟨rfl, by rw [hr.out]; exact hM.ext hx2⟩
      · have hr := Lib.hid (hgo (by omega))
        replace ih := fun W hM => ih (e + 1) (e + k) W (by omega) (by omega) (by omega) (by omega) (by omega) hM
        clear hst hgo hk
        have hd2 : decide (131072 < e) = false := by simpa using he2
        go_enter Tryz.func51, Tryz.ntmps51
        go_wp2_with fail
        refine RetV_at hbc ?_
        intro w2 hx2
        have hM2 := hM.ext hx2
        have c1' := hx2.cell1 c1
        have f1' := (hM2.box 1 rfl).facts.2 0
        have c2' : _ = some (Value.func (.func 51) #[] #[.pointer (some ⟨bl, 0, none⟩), .pointer (some ⟨be, 0, none⟩), .pointer (some ⟨bm, 0, none⟩)]) := (hM2.box 2 rfl).facts.1 0
        have hM3 := hM2.set 1 rfl 0 (.int .i64 (e + k))
        simp only [List.set_cons_succ, List.set_cons_zero, List.setIfInBounds_toArray] at hM3
        have c3' : _ = some (Value.func (.func 51) #[] #[.pointer (some ⟨bl, 0, none⟩), .pointer (some ⟨be, 0, none⟩), .pointer (some ⟨bm, 0, none⟩)]) := (hM3.box 2 rfl).facts.1 0
        go_wp2_with fail
        refine (ih _ hM3).mono ?_
        rintro ed w4 ⟨rfl, hM4⟩
        go_wp2_with fail
        go_end0
        exact ⟨rfl, by rw [hr.out]; exact hM4⟩
theorem openE_2 (c : Cal) (office : Int) : (openE c [] office 0).2 = checkE c office 0 := by
  unfold openE
  split
  · rename_i h; rw [h]
  · rfl
set_option maxRecDepth 100000 in
set_option maxHeartbeats 4000000 in
theorem end_c (c : Cal) (xs : List Ac) (office file d n : Int) (v va : Value) (w : World) (hr : CalR (ph w) v c) (hA : ActsR (ph w) va xs) (hlen : xs.length ≤ 100000) (hV : VL (ph w)) :
    Calls Tryz.prog 29 #[v, .int .i64 office, .int .i64 file, va, .agg #[.int .i64 d, .int .i64 n]] w (RetV w (two (endE c xs office file d n).1 (endE c xs office file d n).2)) := by
  have hop := fun w hr hV => calOpen_c c [] office 0 v (.slice none 0 0) w hr (SliceRep.nil _ _ _) hV
  rw [openE_2] at hop
  have hbr := fun w hA => breaks_c file xs va w hA hlen
  have hba := fun w hV => bare_c d n w hV
  have hnx := fun day w hr hA hV => calNext_c c xs office day v va w hr hA hV
  have hE : Hid (endE c xs office file d n = if checkE c office 0 ≠ 0 then (0, checkE c office 0) else if tchk file xs ≠ 0 then (0, tchk file xs) else if (addV d n).2 ≠ 0 then (0, (addV d n).2) else
    if 131072 < endF (brokB file xs) 131074 (d + 1) (addV d n).1 then (0, 5) else nextE c xs office (endF (brokB file xs) 131074 (d + 1) (addV d n).1)) := rfl
  have hak := fun h => addV_ok (d := d) (n := n) h
  obtain ⟨a, b, rfl, hW, hH⟩ := id hr
  obtain ⟨wa, wc, rfl, wlen, -⟩ := hW.form
  obtain ⟨ha, hc, rfl, hlen', -⟩ := hH.form
  obtain ⟨xa, xc, rfl, xlen, -⟩ := hA.form
  generalize checkE c office 0 = ce at *
  generalize (openE c [] office 0).1 = o1 at *
  generalize addV d n = rr at *
  obtain ⟨e0, e1⟩ := rr
  dsimp only [two] at hba hnx hE hak hop ⊢
  unfold BrkP at hbr
  generalize tchk file xs = te at *
  have hO5 := (Proofs.YtcmdekhhclgdcaaGreatDoor.Own.new w #[.slice wa c.1.length wc, .slice ha c.2.length hc] 71).alloc (.cells #[.int .i64 d, .int .i64 n] 78)
  have hO9 : Proofs.YtcmdekhhclgdcaaGreatDoor.Own ((w.alloc (.cells #[.slice wa c.1.length wc, .slice ha c.2.length hc] 71)).alloc (.cells #[.int .i64 d, .int .i64 n] 78)) (w.heap.size + 1) #[.int .i64 d, .int .i64 n] 78 := Proofs.YtcmdekhhclgdcaaGreatDoor.Own.new' _ _ _ (by simp)
  have hxb : Ext w ((w.alloc (.cells #[.slice wa c.1.length wc, .slice ha c.2.length hc] 71)).alloc (.cells #[.int .i64 d, .int .i64 n] 78)) := (by repeat (first | (with_reducible assumption) | (with_reducible exact Ext.rfl' _) | (with_reducible exact Ext.new _ _) | (with_reducible refine Ext.alloc' ?_ _) | (with_reducible refine Ext.drew' ?_) | (with_reducible refine Ext.drewN' ?_ _) | (with_reducible refine Ext.set' ?_ ?_ _; rotate_left; (focus (first | omega | (simp; done) | (simp; omega)))) | (with_reducible refine Ext.then (b := ?_) ?_ ?_; rotate_left; rotate_left; (with_reducible assumption))))
  by_cases h0 : ce = 0
  · subst h0
    by_cases h1 : te = 0
    · subst h1
      have hpm := fun l a b (h : BrkOk file xs l) => (laps_many (l := l) a b h.1).trans (by unfold many; exact cnt_congr (fun e _ _ => h.2.1 e))
      by_cases h2 : e1 = 0
      · subst h2
        obtain ⟨d0, n0, n1, e0d, e0m, -⟩ := hak rfl
        clear hak
        have hfb := endF_bd (p := brokB file xs) 131074 (d + 1) e0 (by omega) (by omega) (by omega)
        have hE2 : Hid (endE c xs office file d n = if 131072 < endF (brokB file xs) 131074 (d + 1) e0 then (0, 5) else nextE c xs office (endF (brokB file xs) 131074 (d + 1) e0)) := by
          show _ = _; rw [hE.out]; rw [if_neg (by simp), if_neg (by simp), if_neg (by simp)]
        clear hE
        have hmv := fun l h la lc w0 hL bl be bm W hM => move_c l (brokB file xs) (fun a b => hpm l a b h) h.2.2.1 (by have := h.2.2.2; omega) la lc w0 hL bl be bm 131073 (d + 1) e0 W (by omega) (by omega) (by omega) (by omega) (by omega) hM
        rw [show 131073 + 1 = 131074 from rfl] at hmv
        generalize endF (brokB file xs) 131074 (d + 1) e0 = r at *
        clear hpm
        have hdr : decide (131072 < r) = true ∨ decide (131072 < r) = false := by cases decide (131072 < r) <;> simp
        go_enter Tryz.func29, Tryz.ntmps29
        go_wp2_with fail
        refine RetV_at (hop _ (hr.mono hxb.ple) (hV.mono hxb.ple)) ?_
        intro w2 hx2
        have hx := hxb.then hx2
        go_wp2_with fail
        refine (hbr _ (hA.mono mono_ActR hx.ple)).mono ?_
        rintro e w3 ⟨vb, lb, rfl, hx3, hlb, hok, -⟩
        obtain ⟨ba, bc, rfl, -⟩ := hlb.form
        replace hok := hok trivial
        have hx4 := hx.then hx3
        have hO9' := (hO9.keep (hx2.then hx3)).alloc (.cells #[.slice ba lb.length bc] 101)
        have hM0 := (Mem.start w3 noH (noH_le _)).new #[.slice ba lb.length bc] 101
        obtain ⟨c9, -⟩ := hO9'.facts
        have c90 : _ = some (Value.int .i64 d) := c9 0
        have c91 : _ = some (Value.int .i64 n) := c9 1
        clear c9
        go_wp2_with fail
        refine RetV_at (hba _ (hV.mono (Ext.ple (by repeat (first | (with_reducible assumption) | (with_reducible exact Ext.rfl' _) | (with_reducible exact Ext.new _ _) | (with_reducible refine Ext.alloc' ?_ _) | (with_reducible refine Ext.drew' ?_) | (with_reducible refine Ext.drewN' ?_ _) | (with_reducible refine Ext.set' ?_ ?_ _; rotate_left; (focus (first | omega | (simp; done) | (simp; omega)))) | (with_reducible refine Ext.then (b := ?_) ?_ ?_; rotate_left; rotate_left; (with_reducible assumption))))))) ?_
        intro w5 hx5
        have hM2 := ((hM0.ext hx5).new #[.int .i64 e0] 3).new' #[.func (.func 51) #[] #[.pointer (some ⟨w3.heap.size, 0, none⟩), .pointer (some ⟨w5.heap.size, 0, none⟩), .pointer (some ⟨w5.heap.size + 1, 0, none⟩)]] 105 (n := w5.heap.size + 1) (by simp)
        simp only [List.nil_append, List.cons_append] at hM2
        obtain ⟨c9, -⟩ := (((hO9'.keep hx5).alloc (.cells #[.int .i64 e0] 3)).alloc (.cells #[.func (.func 51) #[] #[.pointer (some ⟨w3.heap.size, 0, none⟩), .pointer (some ⟨w5.heap.size, 0, none⟩), .pointer (some ⟨w5.heap.size + 1, 0, none⟩)]] 105)).facts
        have d90 : _ = some (Value.int .i64 d) := c9 0
        clear c9 c90 c91
        go_wp2_with fail
        refine (hmv lb hok _ _ w3 hlb _ _ _ _ hM2).mono ?_
        rintro e w6 ⟨rfl, hM3⟩
        have hx6 := hx4.then hM3.ex
        obtain ⟨c5, -⟩ := (hO5.keep ((hx2.then hx3).then hM3.ex)).facts
        have c50 : _ = some (Value.slice wa c.1.length wc) := c5 0
        have c51 : _ = some (Value.slice ha c.2.length hc) := c5 1
        have c60 : _ = some (Value.int .i64 r) := (hM3.box 1 rfl).facts.1 0
        clear c5 hM2 hM0 hmv
        rcases hdr with hdr | hdr
        · have hE3 : Hid (endE c xs office file d n = (0, 5)) := by show _ = _; rw [hE2.out, if_pos (by simpa using hdr)]
          go_wp2_with fail
          go_ret2
          rw [hE3.out]
          exact ⟨rfl, hx6⟩
        · have hE3 : Hid (endE c xs office file d n = nextE c xs office r) := by show _ = _; rw [hE2.out, if_neg (by simpa using hdr)]
          go_wp2_with fail
          refine RetV_at (hnx r _ (hr.mono hx6.ple) (hA.mono mono_ActR hx6.ple) (hV.mono hx6.ple)) ?_
          intro w7 hx7
          go_wp2_with fail
          go_ret2
          rw [hE3.out]
          exact ⟨rfl, hx6.then hx7⟩
      · have hE2 : Hid (endE c xs office file d n = (0, e1)) := by show _ = _; rw [hE.out]; rw [if_neg (by simp), if_neg (by simp), if_pos h2]
        have hb : (e1 != 0) = true := by rw [bne_iff_ne]; exact h2
        clear hE hnx hak hpm h2
        go_enter Tryz.func29, Tryz.ntmps29
        go_wp2_with fail
        refine RetV_at (hop _ (hr.mono hxb.ple) (hV.mono hxb.ple)) ?_
        intro w2 hx2
        have hx := hxb.then hx2
        go_wp2_with fail
        refine (hbr _ (hA.mono mono_ActR hx.ple)).mono ?_
        rintro e w3 ⟨vb, lb, rfl, hx3, hlb, -, -⟩
        obtain ⟨ba, bc, rfl, -⟩ := hlb.form
        clear hlb
        have hx4 := hx.then hx3
        have hO9' := (hO9.keep (hx2.then hx3)).alloc (.cells #[.slice ba lb.length bc] 101)
        obtain ⟨c9, -⟩ := hO9'.facts
        have c90 : _ = some (Value.int .i64 d) := c9 0
        have c91 : _ = some (Value.int .i64 n) := c9 1
        clear c9
        go_wp2_with fail
        refine RetV_at (hba _ (hV.mono (Ext.ple (by repeat (first | (with_reducible assumption) | (with_reducible exact Ext.rfl' _) | (with_reducible exact Ext.new _ _) | (with_reducible refine Ext.alloc' ?_ _) | (with_reducible refine Ext.drew' ?_) | (with_reducible refine Ext.drewN' ?_ _) | (with_reducible refine Ext.set' ?_ ?_ _; rotate_left; (focus (first | omega | (simp; done) | (simp; omega)))) | (with_reducible refine Ext.then (b := ?_) ?_ ?_; rotate_left; rotate_left; (with_reducible assumption))))))) ?_
        intro w5 hx5
        have hx6 : Ext w w5 := (by repeat (first | (with_reducible assumption) | (with_reducible exact Ext.rfl' _) | (with_reducible exact Ext.new _ _) | (with_reducible refine Ext.alloc' ?_ _) | (with_reducible refine Ext.drew' ?_) | (with_reducible refine Ext.drewN' ?_ _) | (with_reducible refine Ext.set' ?_ ?_ _; rotate_left; (focus (first | omega | (simp; done) | (simp; omega)))) | (with_reducible refine Ext.then (b := ?_) ?_ ?_; rotate_left; rotate_left; (with_reducible assumption))))
        go_wp2_with fail
        go_ret2
        rw [hE2.out]
        exact ⟨rfl, (by repeat (first | (with_reducible assumption) | (with_reducible exact Ext.rfl' _) | (with_reducible exact Ext.new _ _) | (with_reducible refine Ext.alloc' ?_ _) | (with_reducible refine Ext.drew' ?_) | (with_reducible refine Ext.drewN' ?_ _) | (with_reducible refine Ext.set' ?_ ?_ _; rotate_left; (focus (first | omega | (simp; done) | (simp; omega)))) | (with_reducible refine Ext.then (b := ?_) ?_ ?_; rotate_left; rotate_left; (with_reducible assumption))))⟩
    · have hE2 : Hid (endE c xs office file d n = (0, te)) := by show _ = _; rw [hE.out]; rw [if_neg (by simp), if_pos h1]
      have hb : (te != 0) = true := by rw [bne_iff_ne]; exact h1
      clear hE hba hnx hak
      go_enter Tryz.func29, Tryz.ntmps29
      go_wp2_with fail
      refine RetV_at (hop _ (hr.mono hxb.ple) (hV.mono hxb.ple)) ?_
      intro w2 hx2
      have hx := hxb.then hx2
      go_wp2_with fail
      refine (hbr _ (hA.mono mono_ActR hx.ple)).mono ?_
      rintro e w3 ⟨vb, lb, rfl, hx3, -, -, hnil⟩
      obtain ⟨rfl, -⟩ := hnil h1
      clear h1 hnil
      have hx4 := hx.then hx3
      go_wp2_with fail
      go_ret2
      rw [hE2.out]
      exact ⟨rfl, (by repeat (first | (with_reducible assumption) | (with_reducible exact Ext.rfl' _) | (with_reducible exact Ext.new _ _) | (with_reducible refine Ext.alloc' ?_ _) | (with_reducible refine Ext.drew' ?_) | (with_reducible refine Ext.drewN' ?_ _) | (with_reducible refine Ext.set' ?_ ?_ _; rotate_left; (focus (first | omega | (simp; done) | (simp; omega)))) | (with_reducible refine Ext.then (b := ?_) ?_ ?_; rotate_left; rotate_left; (with_reducible assumption))))⟩
  · have hE2 : Hid (endE c xs office file d n = (0, ce)) := by show _ = _; rw [hE.out, if_pos h0]
    have hb : (ce != 0) = true := by rw [bne_iff_ne]; exact h0
    clear hE h0 hba hnx hbr hak
    go_enter Tryz.func29, Tryz.ntmps29
    go_wp2_with fail
    refine RetV_at (hop _ (hr.mono hxb.ple) (hV.mono hxb.ple)) ?_
    intro w2 hx2
    have hx := hxb.then hx2
    go_wp2_with fail
    go_ret2
    rw [hE2.out]
    exact ⟨rfl, hx⟩
end Go.Proofs.YtcmdekhhclgdcaaGreatDoor
