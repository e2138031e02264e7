/- package priorartref15: what Breaks computes.; package priorartref15: Breaks, the walk. -/
import Derived.Test.YtcmdekhhclgdcaaDoorTBrkA
import Derived.Deep.CutBlock
namespace Go.Proofs.YtcmdekhhclgdcaaDoor
open Go.RowKit Go.Shelf
set_option linter.unusedSimpArgs false
set_option linter.unusedVariables false
theorem BrkOk.uniq {file : Int} {xs : List Ac} {l r : List Iv} (h : BrkOk file xs l) (k : BrkOk file xs r) : l = r := canon_uniq h.1 k.1 fun d => (h.2.1 d).trans (k.2.1 d).symm
/-- a day on which an interruption of the file begins, the day before not being broken -/
def begB (file : Int) (xs : List Ac) (a : Ac) : Bool := ivB file a && !brokB file xs (a.day - 1)
/-- the beginnings among some acts, in order -/
def BegOk (file : Int) (xs ys : List Ac) (l : List Int) : Prop := l.Pairwise (· < ·) ∧ (∀ d, d ∈ l ↔ ∃ a ∈ ys, begB file xs a = true ∧ a.day = d) ∧ l.length ≤ ys.length
def insS (l : List Int) (d : Int) : List Int := l.takeWhile (fun x => decide (x < d)) ++ d :: l.dropWhile (fun x => decide (x < d))
theorem insS_mem (l : List Int) (d x : Int) : x ∈ insS l d ↔ x ∈ l ∨ x = d := by
  unfold insS
  rw [List.mem_append, List.mem_cons]
  conv => rhs; rw [← List.takeWhile_append_dropWhile (p := fun x => decide (x < d)) (l := l), List.mem_append]
  constructor
  · rintro (h | h | h)
    · exact .inl (.inl h)
    · exact .inr h
    · exact .inl (.inr h)
  · rintro ((h | h) | h)
    · exact .inl h
    · exact .inr (.inr h)
    · exact .inr (.inl h)
theorem insS_len (l : List Int) (d : Int) : (insS l d).length = l.length + 1 := by
  unfold insS
  have := congrArg List.length (List.takeWhile_append_dropWhile (p := fun x => decide (x < d)) (l := l))
  rw [List.length_append] at this
  rw [List.length_append, List.length_cons]; omega
theorem insS_sorted : ∀ {l : List Int} {d : Int}, l.Pairwise (· < ·) → d ∉ l → (insS l d).Pairwise (· < ·)
  | [], d, _, _ => by simp [insS]
  | x :: l, d, h, hn => by
    obtain ⟨h1, h2⟩ := List.pairwise_cons.1 h
    by_cases hx : x < d
    · have e : insS (x :: l) d = x :: insS l d := by unfold insS; simp [hx]
      rw [e, List.pairwise_cons]
      refine ⟨fun y hy => ?_, insS_sorted h2 (fun hm => hn (by simp [hm]))⟩
      rcases (insS_mem l d y).1 hy with hy | rfl
      · exact h1 y hy
      · exact hx
    · have e : insS (x :: l) d = d :: x :: l := by unfold insS; simp [hx]
      rw [e, List.pairwise_cons]
      have hxd : d < x := by
        have : d ≠ x := fun e => hn (by simp [e])
        omega
      refine ⟨fun y hy => ?_, h⟩
      rcases List.mem_cons.1 hy with rfl | hy
      · exact hxd
      · have := h1 y hy; omega
theorem BegOk.skip {file : Int} {xs ys : List Ac} {l : List Int} {a : Ac} (h : BegOk file xs ys l) (ha : begB file xs a = false ∨ a.day ∈ l) : BegOk file xs (ys ++ [a]) l := by
  obtain ⟨h1, h2, h3⟩ := h
  refine ⟨h1, fun d => ?_, by simp; omega⟩
  rw [h2 d]
  constructor
  · rintro ⟨b, hb, hc⟩; exact ⟨b, by simp [hb], hc⟩
  · rintro ⟨b, hb, hc, hd⟩
    rcases List.mem_append.1 hb with hb | hb
    · exact ⟨b, hb, hc, hd⟩
    · obtain rfl := List.mem_singleton.1 hb
      rcases ha with ha | ha
      · rw [ha] at hc; cases hc
      · rw [hd] at ha; exact (h2 d).1 ha
theorem BegOk.put {file : Int} {xs ys : List Ac} {l : List Int} {a : Ac} (h : BegOk file xs ys l) (ha : begB file xs a = true) (hn : a.day ∉ l) : BegOk file xs (ys ++ [a]) (insS l a.day) := by
  obtain ⟨h1, h2, h3⟩ := h
  refine ⟨insS_sorted h1 hn, fun d => ?_, by rw [insS_len]; simp; omega⟩
  rw [insS_mem, h2 d]
  constructor
  · rintro (⟨b, hb, hc⟩ | rfl)
    · exact ⟨b, by simp [hb], hc⟩
    · exact ⟨a, by simp, ha, rfl⟩
  · rintro ⟨b, hb, hc, hd⟩
    rcases List.mem_append.1 hb with hb | hb
    · exact .inl ⟨b, hb, hc, hd⟩
    · obtain rfl := List.mem_singleton.1 hb
      exact .inr hd.symm
/-- a run of broken days from b to y, whole at its end -/
def RunOk (p : Int → Bool) (b y : Int) : Prop := b ≤ y ∧ (∀ d, b ≤ d → d ≤ y → p d = true) ∧ p (y + 1) = false
theorem brok_bd {file : Int} {xs : List Ac} (hE : tchk file xs = 0) {d : Int} (h : brokB file xs d = true) : 0 ≤ d ∧ d ≤ 131072 := by
  obtain ⟨a, ha, hb⟩ := List.any_eq_true.1 h
  unfold tchk at hE
  split at hE
  · cases hE
  · split at hE
    · cases hE
    · rename_i h3
      have h4 : badB file a = false := by
        rw [Bool.not_eq_true, List.any_eq_false] at h3
        simpa using h3 a ha
      unfold brkB at hb
      unfold badB at h4
      simp at hb h4
      obtain ⟨⟨⟨h5, h6⟩, h7⟩, h8⟩ := hb
      have := h4 h5 h6 (by omega)
      omega
theorem canon_of : ∀ {out : List Iv} {p : Int → Bool}, (out.map Prod.fst).Pairwise (· < ·) → (∀ x ∈ out, RunOk p x.1 x.2 ∧ p (x.1 - 1) = false) → Canon out
  | [], _, _, _ => trivial
  | [x], _, _, h => (h x (by simp)).1.1
  | x :: y :: r, p, hs, h => by
    obtain ⟨h1, h2⟩ := List.pairwise_cons.1 hs
    have hx := h x (by simp)
    have hy := h y (by simp)
    refine ⟨hx.1.1, ?_, canon_of h2 fun z hz => h z (List.mem_cons_of_mem _ hz)⟩
    have hlt : x.1 < y.1 := h1 y.1 (by simp)
    refine Classical.byContradiction fun hn => ?_
    have := hx.1.2.1 (y.1 - 1) (by omega) (by omega)
    rw [hy.2] at this; cases this
theorem brkOk_of {file : Int} {xs : List Ac} {l : List Int} {out : List Iv} (hE : tchk file xs = 0) (hl : BegOk file xs xs l) (ho : out.map Prod.fst = l) (hr : ∀ x ∈ out, RunOk (brokB file xs) x.1 x.2) : BrkOk file xs out := by
  have hb : ∀ x ∈ out, brokB file xs (x.1 - 1) = false := by
    intro x hx
    have hm : x.1 ∈ l := by rw [← ho]; exact List.mem_map.2 ⟨x, hx, rfl⟩
    obtain ⟨a, -, h1, h2⟩ := (hl.2.1 _).1 hm
    unfold begB at h1
    simp at h1
    rw [← h2]; exact h1.2
  refine ⟨canon_of (p := brokB file xs) (by rw [ho]; exact hl.1) fun x hx => ⟨hr x hx, hb x hx⟩, fun d => ?_, fun x hx => ?_, ?_⟩
  · rw [Bool.eq_iff_iff, cov_iff]
    constructor
    · rintro ⟨x, hx, h1, h2⟩; exact (hr x hx).2.1 d h1 h2
    · intro hd
      have key : ∀ n : Nat, ∀ d', d' = d - n → (∀ e, d' ≤ e → e ≤ d → brokB file xs e = true) → ∃ x ∈ out, x.1 ≤ d ∧ d ≤ x.2 := by
        have hd0 := brok_bd hE hd
        intro n
        induction hk : (d.toNat + 1 - n) generalizing n with
        | zero =>
          intro d' hd' hall
          have := brok_bd hE (hall d' (Int.le_refl _) (by omega))
          omega
        | succ m ih =>
          intro d' hd' hall
          cases hp : brokB file xs (d' - 1) with
          | true =>
            refine ih (n + 1) (by omega) (d' - 1) (by omega) fun e h1 h2 => ?_
            by_cases he : e = d' - 1
            · rw [he]; exact hp
            · exact hall e (by omega) h2
          | false =>
            have h0 := hall d' (Int.le_refl _) (by omega)
            obtain ⟨a, ha, hb⟩ := List.any_eq_true.1 h0
            unfold brkB at hb
            simp at hb
            obtain ⟨⟨⟨h5, h6⟩, h7⟩, h8⟩ := hb
            have hday : a.day = d' := by
              refine Classical.byContradiction fun hne => ?_
              have : brokB file xs (d' - 1) = true := List.any_eq_true.2 ⟨a, ha, by unfold brkB; simp [h5, h6]; omega⟩
              rw [hp] at this; cases this
            have hm : d' ∈ l := (hl.2.1 d').2 ⟨a, ha, by unfold begB ivB; rw [hday, hp]; simp [h5, h6]; omega, hday⟩
            rw [← ho] at hm
            obtain ⟨x, hx, hx1⟩ := List.mem_map.1 hm
            refine ⟨x, hx, by omega, ?_⟩
            have hR := hr x hx
            refine Classical.byContradiction fun hn => ?_
            have := hall (x.2 + 1) (by have := hR.1; omega) (by omega)
            rw [hR.2.2] at this; cases this
      exact key 0 d (by omega) fun e h1 h2 => by obtain rfl : e = d := by omega
                                                 exact hd
  · have h1 := hr x hx
    have h2 := brok_bd hE (h1.2.1 x.1 (Int.le_refl _) h1.1)
    have h3 := brok_bd hE (h1.2.1 x.2 h1.1 (Int.le_refl _))
    exact ⟨h2.1, h1.1, h3.2⟩
  · have : out.length = l.length := by rw [← ho, List.length_map]
    rw [this]; exact hl.2.2
end Go.Proofs.YtcmdekhhclgdcaaDoor
namespace Go.Proofs.YtcmdekhhclgdcaaDoor
open Go.RowKit Go.Shelf
set_option linter.unusedSimpArgs false
set_option linter.unusedVariables false
section
variable {α : Type} {E : PH → List Value → α → Prop} {sz : Nat} {H : PH} {w : World} {T : TypeId} {xs : List α}
theorem Cells.split : ∀ {xs : List α} {c : List Value} (k : Nat), Cells H E sz c xs → Cells H E sz (c.take (k * sz)) (xs.take k) ∧ Cells H E sz (c.drop (k * sz)) (xs.drop k)
  | xs, c, 0, h => ⟨by simp; rfl, by simpa using h⟩
  | [], c, k + 1, h => by
    have : c = [] := h
    subst this
    exact ⟨by simp; rfl, by simp; rfl⟩
  | x :: xs, c, k + 1, h => by
    obtain ⟨cs, rest, rfl, h1, h2, h3⟩ := h
    obtain ⟨q1, q2⟩ := Cells.split k h3
    have e : (k + 1) * sz = cs.length + k * sz := by rw [Nat.add_mul, h1]; omega
    rw [e, List.take_length_add_append, List.drop_length_add_append]
    exact ⟨⟨cs, _, rfl, h1, h2, q1⟩, q2⟩
theorem OwnC.srcTake {g n c k : Nat} (h : OwnC H w E sz T (.slice (some ⟨g, 0, none⟩) n c) xs) (hk : k ≤ xs.length) (c' : Nat) (hc : k ≤ c') : Src w H E sz (.slice (some ⟨g, 0, none⟩) k c') (xs.take k) := by
  rcases h with ⟨h, -⟩ | ⟨g', cap, cur, he, h1, h2, h3, h4, h5⟩
  · cases h
  · cases he
    have hl : (xs.take k).length = k := by simp; omega
    refine ⟨_, c', by rw [hl], by rw [hl]; exact hc, .inr ⟨_, _, rfl, (Cells.split k h5).1, fun j u hu => ?_⟩⟩
    rw [add0, cell_of_row w g j cur T (0, 0) h1]
    rw [List.getElem?_take] at hu
    split at hu
    · rw [List.getElem?_take] at hu
      split at hu
      · simpa using hu
      · cases hu
    · cases hu
theorem OwnC.srcDrop {g n c k o : Nat} (h : OwnC H w E sz T (.slice (some ⟨g, 0, none⟩) n c) xs) (hk : k ≤ xs.length) (c' m : Nat) (hm : m = xs.length - k) (hc : m ≤ c') (ho : k < xs.length → o = k * sz) : Src w H E sz (.slice (some ⟨g, o, none⟩) m c') (xs.drop k) := by
  have hl : (xs.drop k).length = m := by simp; omega
  refine ⟨_, c', by rw [hl], by rw [hl]; exact hc, ?_⟩
  by_cases hk' : k < xs.length
  · rcases h with ⟨h, -⟩ | ⟨g', cap, cur, he, h1, h2, h3, h4, h5⟩
    · cases h
    · cases he
      refine .inr ⟨_, _, rfl, (Cells.split k h5).2, fun j u hu => ?_⟩
      rw [ho hk', addo, cell_of_row w g _ cur T (0, 0) h1]
      rw [List.getElem?_drop, List.getElem?_take] at hu
      split at hu
      · simpa using hu
      · cases hu
  · exact .inl (List.drop_eq_nil_of_le (by omega))
end
theorem insS_at {l : List Int} {d : Int} {j : Nat} (hj : j ≤ l.length) (h1 : ∀ y ∈ l.take j, y < d) (h2 : j = l.length ∨ ∃ h : j < l.length, ¬ l[j] < d) : insS l d = l.take j ++ d :: l.drop j := by
  unfold insS
  have e : l = l.take j ++ l.drop j := (List.take_append_drop j l).symm
  have t1 : l.takeWhile (fun x => decide (x < d)) = l.take j := by
    conv => lhs; rw [e]
    rw [List.takeWhile_append_of_pos (by simpa using h1)]
    rcases h2 with h2 | ⟨hlt, h2⟩
    · rw [List.drop_eq_nil_of_le (by omega)]; simp
    · rw [List.drop_eq_getElem_cons hlt, List.takeWhile_cons_of_neg (by simpa using h2), List.append_nil]
  have t2 : l.dropWhile (fun x => decide (x < d)) = l.drop j := by
    conv => lhs; rw [e]
    rw [List.dropWhile_append_of_pos (by simpa using h1)]
    rcases h2 with h2 | ⟨hlt, h2⟩
    · rw [List.drop_eq_nil_of_le (by omega)]; simp
    · rw [List.drop_eq_getElem_cons hlt, List.dropWhile_cons_of_neg (by simpa using h2)]
  rw [t1, t2]
def RBrkP (w : World) (file : Int) (xs : List Ac) (e : Ending) (w' : World) : Prop := ∃ v l, e = .returned v ∧ Ext w w' ∧ IvsR (ph w') v l ∧ BrkOk file xs l
theorem tchk_bad {file : Int} {xs : List Ac} (hE : tchk file xs = 0) {a : Ac} (ha : a ∈ xs) (hb : ivB file a = true) : 0 ≤ a.day ∧ a.day ≤ a.number ∧ a.number ≤ 131072 := by
  unfold tchk at hE
  split at hE
  · cases hE
  · split at hE
    · cases hE
    · rename_i h3
      have h4 : badB file a = false := by
        rw [Bool.not_eq_true, List.any_eq_false] at h3
        simpa using h3 a ha
      have h5 := ivB_le hb
      unfold ivB at hb
      unfold badB at h4
      simp at hb h4
      have := h4 hb.1.1 hb.1.2 hb.2
      omega
set_option maxRecDepth 100000 in
set_option maxHeartbeats 4000000 in
theorem rbreaks_c (file : Int) (xs : List Ac) (va : Value) (w : World) (hA : ActsR (ph w) va xs) (hlen : xs.length ≤ 100000) (hE : tchk file xs = 0) : Calls Tryd.prog 18 #[.int .i64 file, va] w (RBrkP w file xs) := by
  obtain ⟨xa, xc, rfl, xlen, hA⟩ := hA.form
  have hfin := fun l out h1 h2 h3 => Lib.hid (brkOk_of (l := l) (out := out) hE h1 h2 h3)
  have hbd := fun d h => brok_bd (d := d) hE h
  have hiv := fun a ha hb => tchk_bad (a := a) hE ha hb
  clear hE
  go_enter Tryd.func18, Tryd.ntmps18
  go_wp2_with fail
  have hM0 := (Mem.start w noH (noH_le _)).nil mono_IntR 1 3
  simp only [List.nil_append] at hM0
  go_loopw [5, 6] (fun vb i wr => ∃ k : Nat, k ≤ xs.length ∧ i = .int .i64 k ∧ ∃ l, BegOk file xs (xs.take k) l ∧ Mem w noH [own mono_IntR 1 3 vb l] noH wr) (fun _ i _ => xs.length - (intOf i).toNat)
  case atStart => exact ⟨0, by omega, rfl, [], ⟨List.Pairwise.nil, by simp, by simp⟩, hM0⟩
  case round =>
    clear hM0
    obtain ⟨k, hk, rfl, l, hB, hM⟩ := hrel
    obtain ⟨ba, bc, rfl, -⟩ := hM.form 0 rfl
    by_cases hlt : k < xs.length
    · have hxr := hM.ex
      obtain ⟨gb, go, rfl, gc, gl, -⟩ := ActsR.row (hA.mono mono_ActR hxr.ple) k hlt
      have hI := hiv xs[k] (List.getElem_mem hlt)
      have hyes := fun (h1 : begB file xs xs[k] = true) (h2 : xs[k].day ∉ l) => BegOk.put (a := xs[k]) hB h1 h2
      have hno := fun (h : begB file xs xs[k] = false ∨ xs[k].day ∈ l) => BegOk.skip (a := xs[k]) hB h
      rw [← take_snoc xs k hlt] at hyes hno
      have hll := hB.2.2
      replace hll : l.length ≤ 100000 := by simp at hll; omega
      clear hB hiv hbd hfin
      generalize xs[k] = x at *
      have hMx := hM.allocN (.cells (actC x).toArray 63)
      have hAx := hA.mono mono_ActR (hxr.then (Ext.new wr (.cells (actC x).toArray 63))).ple
      have hszx : wr.heap.size < (wr.alloc (.cells (actC x).toArray 63)).heap.size := by simp
      obtain ⟨fc, -⟩ := (Proofs.YtcmdekhhclgdcaaDoor.Own.new wr (actC x).toArray 63).facts
      have q0 : _ = some (Value.int .i64 x.kind) := fc 0
      have q1 : _ = some (Value.int .i64 x.day) := fc 1
      have q3 : _ = some (Value.int .i64 x.file) := fc 3
      have q7 : _ = some (Value.int .i64 x.number) := fc 7
      clear fc
      by_cases h1 : x.kind = 9
      · have b1 : (x.kind != 9) = false := by simpa using h1
        by_cases h2 : x.file = file
        · have b2 : (x.file != file) = false := by simpa using h2
          by_cases h3 : x.day ≤ x.number
          · have b3 : decide (x.number < x.day) = false := by simpa using h3
            have hb : ivB file x = true := by unfold ivB; simp [h1, h2, h3]
            obtain ⟨d0, d1, d2⟩ := hI hb
            have hw1 : IntKind.i64.wrap (x.day - 1) = x.day - 1 := by rw [IntKind.wrap_i64]; omega
            have hbc := rbroken_c file (x.day - 1) xs _ _ hAx
            cases hbk : brokB file xs (x.day - 1) with
            | true =>
              have hr := hno (.inl (by unfold begB; rw [hbk]; simp))
              rw [hbk] at hbc
              clear h1 h2 hyes hno hI hb hbk
              go_wp2_with (first | (refine wpList_load_mid rfl 63 _ rfl _ _ rfl (actC _) _ gc Tryd.underlying63 rfl (by kernel_rfl) ?_) | (refine wpList_store_new rfl 63 _ _ rfl (actC _).toArray rfl rfl 63 _ (by kernel_rfl) rfl (one_act _) ?_))
              refine RetP_at hbc ?_
              go_wp2_with fail
              go_roundw
              case rel => exact ⟨k + 1, by omega, rfl, l, hr, hMx⟩
              case measure => simp [intOf]; omega
            | false =>
              have hbeg : begB file xs x = true := by unfold begB; rw [hbk, hb]; rfl
              rw [hbk] at hbc
              by_cases hm : x.day ∈ l
              · have hhc := has_c l x.day _ _ (hMx.rep 0 rfl)
                rw [show decide (x.day ∈ l) = true by simpa using hm] at hhc
                have hr := hno (.inr hm)
                clear h1 h2 hyes hno hI hb hbk hm
                go_wp2_with (first | (refine wpList_load_mid rfl 63 _ rfl _ _ rfl (actC _) _ gc Tryd.underlying63 rfl (by kernel_rfl) ?_) | (refine wpList_store_new rfl 63 _ _ rfl (actC _).toArray rfl rfl 63 _ (by kernel_rfl) rfl (one_act _) ?_))
                refine RetP_at hbc ?_
                go_wp2_with fail
                refine RetP_at hhc ?_
                go_wp2_with fail
                go_roundw
                case rel => exact ⟨k + 1, by omega, rfl, l, hr, hMx⟩
                case measure => simp [intOf]; omega
              · have hhc := has_c l x.day _ _ (hMx.rep 0 rfl)
                rw [show decide (x.day ∈ l) = false by simpa using hm] at hhc
                have hr := hyes hbeg hm
                clear h1 h2 hyes hno hI hb hbk hm
                go_wp2_with (first | (refine wpList_load_mid rfl 63 _ rfl _ _ rfl (actC _) _ gc Tryd.underlying63 rfl (by kernel_rfl) ?_) | (refine wpList_store_new rfl 63 _ _ rfl (actC _).toArray rfl rfl 63 _ (by kernel_rfl) rfl (one_act _) ?_))
                refine RetP_at hbc ?_
                go_wp2_with fail
                refine RetP_at hhc ?_
                go_upto_block 2 with (fail)
                clear hbc hhc hM b1 b2 b3 gc q0 q3 q7 hw1
                generalize wr.alloc _ = W1 at *
                go_cut [8] (fun kk wx => ∃ j : Nat, j ≤ l.length ∧ kk = .int .i64 j ∧ Hid (insS l x.day = l.take j ++ x.day :: l.drop j) ∧ Ext W1 wx)
                case first =>
                  go_wp2_with fail
                  go_loopw [8] (fun kk w2 => ∃ j : Nat, j ≤ l.length ∧ kk = .int .i64 j ∧ Hid (∀ y ∈ l.take j, y < x.day) ∧ Ext W1 w2) (fun kk _ => l.length - (intOf kk).toNat)
                  case atStart => exact ⟨0, by omega, rfl, Lib.hid (by simp), Ext.rfl' _⟩
                  case round =>
                    obtain ⟨j, hj, rfl, hall, hx2⟩ := hrel
                    have q1' := hx2.cell1 q1
                    have s1' := Nat.lt_of_lt_of_le hszx hx2.size
                    clear q1
                    by_cases hjl : j < l.length
                    · obtain ⟨g, cap, cs, hv, hcs, hc, ⟨rfl, hi⟩, hg⟩ := (hMx.ext hx2).get 0 rfl j hjl
                      cases hv
                      have q := hc 0 (by omega)
                      simp only [Nat.mul_one, Nat.add_zero, List.getD_cons_zero] at q
                      have hja : decide (j < l.length) = true := by simpa using hjl
                      have hst := fun (h : l[j] < x.day) => Lib.hid (take_all (p := fun y => y < x.day) hjl h hall.out)
                      have hex := fun (h : ¬ l[j] < x.day) => Lib.hid (insS_at hj hall.out (.inr ⟨hjl, h⟩))
                      clear hc hcs
                      generalize l[j] = y at *
                      by_cases hy : y < x.day
                      · replace hst := hst hy
                        clear hex
                        go_wp2_with fail
                        (refine wp_region_I 13 (by kernel_rfl) (by kernel_rfl) ?_; simp only [List.toList_toArray, List.take_succ_cons, List.take_zero, List.drop_succ_cons, List.drop_zero])
                        (repeat (first | (refine walkI_no rfl (by simp) rfl rfl rfl ?_ ?_; (focus (simp [undef]; done)); (try simp only [List.nil_append, List.cons_append])) | (refine walkI_is (u := ?_) rfl (by simp) rfl ?_ ?_; rotate_left; (focus (intro A w' hS hA K hK; (simp only [List.map_cons, List.map_nil, knows, Is, Op.operands, Call.operands, List.lookup_cons, List.lookup_nil, Nat.reduceBEq, Bool.false_eq_true, if_false, if_true, Act.eval, Array.getD_eq_getD_getElem?, List.getElem?_toArray, List.getElem?_cons_succ, List.getElem?_cons_zero, Option.getD_some, and_true, true_and, List.append_toArray, List.nil_append, List.cons_append, List.toList_toArray, Array.toList_append, Option.toArray, List.append_nil] at hA); first | fail | (obtain ⟨hSc, hSf, hSs⟩ := hS.cells; go_simp; exact hK _ (by repeat (first | (with_reducible assumption) | (with_reducible exact Ext.rfl' _) | (with_reducible exact Ext.new _ _) | (with_reducible refine Ext.alloc' ?_ _) | (with_reducible refine Ext.drew' ?_) | (with_reducible refine Ext.drewN' ?_ _) | (with_reducible refine Ext.set' ?_ ?_ _; rotate_left; (focus (first | omega | (simp; done) | (simp; omega)))) | (with_reducible refine Ext.then (b := ?_) ?_ ?_; rotate_left; rotate_left; (with_reducible assumption))))))); (try simp only [List.nil_append, List.cons_append])) | (refine walkI_yesis (u := ?_) rfl (by simp) rfl rfl rfl ?_ ?_; rotate_left; (focus (intro A w' hS hA K hK; (simp only [List.map_cons, List.map_nil, knows, Is, Op.operands, Call.operands, List.lookup_cons, List.lookup_nil, Nat.reduceBEq, Bool.false_eq_true, if_false, if_true, Act.eval, Array.getD_eq_getD_getElem?, List.getElem?_toArray, List.getElem?_cons_succ, List.getElem?_cons_zero, Option.getD_some, and_true, true_and, List.append_toArray, List.nil_append, List.cons_append, List.toList_toArray, Array.toList_append, Option.toArray, List.append_nil] at hA); first | fail | (obtain ⟨hSc, hSf, hSs⟩ := hS.cells; go_simp; exact hK _ (by repeat (first | (with_reducible assumption) | (with_reducible exact Ext.rfl' _) | (with_reducible exact Ext.new _ _) | (with_reducible refine Ext.alloc' ?_ _) | (with_reducible refine Ext.drew' ?_) | (with_reducible refine Ext.drewN' ?_ _) | (with_reducible refine Ext.set' ?_ ?_ _; rotate_left; (focus (first | omega | (simp; done) | (simp; omega)))) | (with_reducible refine Ext.then (b := ?_) ?_ ?_; rotate_left; rotate_left; (with_reducible assumption))))))); (try simp only [List.nil_append, List.cons_append]))))
                        (refine walkI_nil ?_; simp only [List.nil_append, List.cons_append, fins, Is, forall_eq, Act.put, List.setIfInBounds_toArray, List.set_cons_zero, List.set_cons_succ])
                        rintro w3 hx3
                        go_wp2_with fail
                        go_roundw
                        case rel => exact ⟨j + 1, by omega, rfl, hst, hx2.then hx3⟩
                        case measure => simp [intOf]; omega
                      · replace hex := hex hy
                        clear hst
                        go_wp2_with fail
                        (refine wp_region_I 13 (by kernel_rfl) (by kernel_rfl) ?_; simp only [List.toList_toArray, List.take_succ_cons, List.take_zero, List.drop_succ_cons, List.drop_zero])
                        (repeat (first | (refine walkI_no rfl (by simp) rfl rfl rfl ?_ ?_; (focus (simp [undef]; done)); (try simp only [List.nil_append, List.cons_append])) | (refine walkI_is (u := ?_) rfl (by simp) rfl ?_ ?_; rotate_left; (focus (intro A w' hS hA K hK; (simp only [List.map_cons, List.map_nil, knows, Is, Op.operands, Call.operands, List.lookup_cons, List.lookup_nil, Nat.reduceBEq, Bool.false_eq_true, if_false, if_true, Act.eval, Array.getD_eq_getD_getElem?, List.getElem?_toArray, List.getElem?_cons_succ, List.getElem?_cons_zero, Option.getD_some, and_true, true_and, List.append_toArray, List.nil_append, List.cons_append, List.toList_toArray, Array.toList_append, Option.toArray, List.append_nil] at hA); first | fail | (obtain ⟨hSc, hSf, hSs⟩ := hS.cells; go_simp; exact hK _ (by repeat (first | (with_reducible assumption) | (with_reducible exact Ext.rfl' _) | (with_reducible exact Ext.new _ _) | (with_reducible refine Ext.alloc' ?_ _) | (with_reducible refine Ext.drew' ?_) | (with_reducible refine Ext.drewN' ?_ _) | (with_reducible refine Ext.set' ?_ ?_ _; rotate_left; (focus (first | omega | (simp; done) | (simp; omega)))) | (with_reducible refine Ext.then (b := ?_) ?_ ?_; rotate_left; rotate_left; (with_reducible assumption))))))); (try simp only [List.nil_append, List.cons_append])) | (refine walkI_yesis (u := ?_) rfl (by simp) rfl rfl rfl ?_ ?_; rotate_left; (focus (intro A w' hS hA K hK; (simp only [List.map_cons, List.map_nil, knows, Is, Op.operands, Call.operands, List.lookup_cons, List.lookup_nil, Nat.reduceBEq, Bool.false_eq_true, if_false, if_true, Act.eval, Array.getD_eq_getD_getElem?, List.getElem?_toArray, List.getElem?_cons_succ, List.getElem?_cons_zero, Option.getD_some, and_true, true_and, List.append_toArray, List.nil_append, List.cons_append, List.toList_toArray, Array.toList_append, Option.toArray, List.append_nil] at hA); first | fail | (obtain ⟨hSc, hSf, hSs⟩ := hS.cells; go_simp; exact hK _ (by repeat (first | (with_reducible assumption) | (with_reducible exact Ext.rfl' _) | (with_reducible exact Ext.new _ _) | (with_reducible refine Ext.alloc' ?_ _) | (with_reducible refine Ext.drew' ?_) | (with_reducible refine Ext.drewN' ?_ _) | (with_reducible refine Ext.set' ?_ ?_ _; rotate_left; (focus (first | omega | (simp; done) | (simp; omega)))) | (with_reducible refine Ext.then (b := ?_) ?_ ?_; rotate_left; rotate_left; (with_reducible assumption))))))); (try simp only [List.nil_append, List.cons_append]))))
                        (refine walkI_nil ?_; simp only [List.nil_append, List.cons_append, fins, Is, forall_eq, Act.put, List.setIfInBounds_toArray, List.set_cons_zero, List.set_cons_succ])
                        rintro w3 hx3
                        go_wp2_with fail
                        go_meet
                        case rel => exact ⟨j, hj, rfl, hex, hx2.then hx3⟩
                    · have hex := Lib.hid (insS_at hj hall.out (.inl (by omega)))
                      have hja : decide (j < l.length) = false := by simpa using hjl
                      go_wp2_with fail
                      (refine wp_region_I 13 (by kernel_rfl) (by kernel_rfl) ?_; simp only [List.toList_toArray, List.take_succ_cons, List.take_zero, List.drop_succ_cons, List.drop_zero])
                      (repeat (first | (refine walkI_no rfl (by simp) rfl rfl rfl ?_ ?_; (focus (simp [undef]; done)); (try simp only [List.nil_append, List.cons_append])) | (refine walkI_is (u := ?_) rfl (by simp) rfl ?_ ?_; rotate_left; (focus (intro A w' hS hA K hK; (simp only [List.map_cons, List.map_nil, knows, Is, Op.operands, Call.operands, List.lookup_cons, List.lookup_nil, Nat.reduceBEq, Bool.false_eq_true, if_false, if_true, Act.eval, Array.getD_eq_getD_getElem?, List.getElem?_toArray, List.getElem?_cons_succ, List.getElem?_cons_zero, Option.getD_some, and_true, true_and, List.append_toArray, List.nil_append, List.cons_append, List.toList_toArray, Array.toList_append, Option.toArray, List.append_nil] at hA); first | fail | (obtain ⟨hSc, hSf, hSs⟩ := hS.cells; go_simp; exact hK _ (by repeat (first | (with_reducible assumption) | (with_reducible exact Ext.rfl' _) | (with_reducible exact Ext.new _ _) | (with_reducible refine Ext.alloc' ?_ _) | (with_reducible refine Ext.drew' ?_) | (with_reducible refine Ext.drewN' ?_ _) | (with_reducible refine Ext.set' ?_ ?_ _; rotate_left; (focus (first | omega | (simp; done) | (simp; omega)))) | (with_reducible refine Ext.then (b := ?_) ?_ ?_; rotate_left; rotate_left; (with_reducible assumption))))))); (try simp only [List.nil_append, List.cons_append])) | (refine walkI_yesis (u := ?_) rfl (by simp) rfl rfl rfl ?_ ?_; rotate_left; (focus (intro A w' hS hA K hK; (simp only [List.map_cons, List.map_nil, knows, Is, Op.operands, Call.operands, List.lookup_cons, List.lookup_nil, Nat.reduceBEq, Bool.false_eq_true, if_false, if_true, Act.eval, Array.getD_eq_getD_getElem?, List.getElem?_toArray, List.getElem?_cons_succ, List.getElem?_cons_zero, Option.getD_some, and_true, true_and, List.append_toArray, List.nil_append, List.cons_append, List.toList_toArray, Array.toList_append, Option.toArray, List.append_nil] at hA); first | fail | (obtain ⟨hSc, hSf, hSs⟩ := hS.cells; go_simp; exact hK _ (by repeat (first | (with_reducible assumption) | (with_reducible exact Ext.rfl' _) | (with_reducible exact Ext.new _ _) | (with_reducible refine Ext.alloc' ?_ _) | (with_reducible refine Ext.drew' ?_) | (with_reducible refine Ext.drewN' ?_ _) | (with_reducible refine Ext.set' ?_ ?_ _; rotate_left; (focus (first | omega | (simp; done) | (simp; omega)))) | (with_reducible refine Ext.then (b := ?_) ?_ ?_; rotate_left; rotate_left; (with_reducible assumption))))))); (try simp only [List.nil_append, List.cons_append]))))
                      (refine walkI_nil ?_; simp only [List.nil_append, List.cons_append, fins, Is, forall_eq, Act.put, List.setIfInBounds_toArray, List.set_cons_zero, List.set_cons_succ])
                      rintro w3 hx3
                      go_wp2_with fail
                      go_meet
                      case rel => exact ⟨j, hj, rfl, hex, hx2.then hx3⟩
                case rest =>
                  obtain ⟨j, hj, rfl, hins, hx2⟩ := hcut
                  have hMy := (hMx.ext hx2).nil mono_IntR 1 3
                  simp only [List.cons_append, List.nil_append] at hMy
                  have q1' := hx2.cell1 q1
                  have hxd : I64 x.day := by unfold I64; omega
                  have hl1 : (insS l x.day).length = l.length + 1 := insS_len l x.day
                  clear q1 hMx hAx hszx
                  have hOC : OwnC noH wc IntR 1 3 (.slice ba l.length bc) l := hMy.ok 0 _ rfl
                  rcases hOC with ⟨hv, rfl⟩ | ⟨g, cap, cur, hv, k1, k2, k3, k4, k5⟩
                  · cases hv
                    obtain rfl : j = 0 := by simpa using hj
                    have hlit := fun (w : World) (j : Nat) => (Proofs.YtcmdekhhclgdcaaDoor.Own.new w #[Value.int .i64 x.day] 3).facts.1 j
                    go_wp2_with (at_builtin; refine wpList_append_MG (ys := ([] : List Int)) 1 rfl _ _ 22 rfl Tryd.underlying22 infoInt rfl rfl rfl hMy rfl ⟨none, 0, rfl, Nat.le_refl _, .inl rfl⟩ one_IntR (by first | (simp; done) | (simp; omega)) (by first | (simp; done) | (simp; omega)) ?a7)
                    case a7 =>
                      intro v1 w5 hM5 hg5
                      try simp only [List.set_cons_succ, List.set_cons_zero] at hM5
                      obtain ⟨a1, c1, rfl, -⟩ := hM5.form 1 rfl
                      have q1 := cell_kept q1' hg5 (fun r e => by cases e)
                      clear hg5 q1'
                      have hM5' := hM5.allocN (.cells #[.int .i64 x.day] 3)
                      have hS5 := Src.lit1 (w := w5.alloc (.cells #[.int .i64 x.day] 3)) (b := w5.heap.size) (sz := 1) (E := IntR) (H := noH) (x := x.day) (cs := [.int .i64 x.day]) ⟨rfl, hxd⟩ rfl (fun j => by rw [hlit]; simp)
                      go_wp2_with (at_builtin; refine wpList_append_M 1 rfl _ _ 22 rfl Tryd.underlying22 infoInt rfl rfl rfl hM5' rfl hS5 one_IntR (by first | (simp; done) | (simp; omega)) (by first | (simp; done) | (simp; omega)) ?b7)
                      case b7 =>
                        intro v2 w6 hM6
                        try simp only [List.set_cons_succ, List.set_cons_zero] at hM6
                        obtain ⟨a2, c2, rfl, -⟩ := hM6.form 1 rfl
                        clear hS5 hM5' hM5 q1
                        go_wp2_with (at_builtin; refine wpList_append_M (ys := ([] : List Int)) 1 rfl _ _ 22 rfl Tryd.underlying22 infoInt rfl rfl rfl hM6 rfl ⟨none, 0, rfl, Nat.le_refl _, .inl rfl⟩ one_IntR (by first | (simp; done) | (simp; omega)) (by first | (simp; done) | (simp; omega)) ?d7)
                        case d7 =>
                          intro v3 w7 hM7
                          try simp only [List.set_cons_succ, List.set_cons_zero] at hM7
                          have hM8 := hM7.pick [1] (by decide)
                          simp only [List.map_cons, List.map_nil, List.getElem?_cons_zero, List.getElem?_cons_succ, Option.getD_some] at hM8
                          go_wp2_with fail
                          go_roundw
                          case rel => exact ⟨k + 1, by omega, rfl, _, hr, by rw [hins.out]; simpa using hM8⟩
                          case measure => simp [intOf]; omega
                  · cases hv
                    have hjl : j ≤ bc := Nat.le_trans hj k2
                    by_cases hjc : bc = j
                    · obtain rfl := hjc
                      have k2' : l.length ≤ bc := k2
                      have hlit := fun (w : World) (j : Nat) => (Proofs.YtcmdekhhclgdcaaDoor.Own.new w #[Value.int .i64 x.day] 3).facts.1 j
                      go_wp2_with (at_builtin; refine wpList_append_MG 1 rfl _ _ 22 rfl Tryd.underlying22 infoInt rfl rfl rfl hMy rfl (OwnC.srcTake (hMy.ok 0 _ rfl) hj bc hjl) one_IntR (by first | (simp; done) | (simp; omega)) (by first | (simp; done) | (simp; omega)) ?a6)
                      case a6 =>
                        intro v1 w5 hM5 hg5
                        try simp only [List.set_cons_succ, List.set_cons_zero] at hM5
                        obtain ⟨a1, c1, rfl, -⟩ := hM5.form 1 rfl
                        have q1 := cell_kept q1' hg5 (fun r e => by cases e)
                        clear hg5 q1'
                        have hM5' := hM5.allocN (.cells #[.int .i64 x.day] 3)
                        have hS5 := Src.lit1 (w := w5.alloc (.cells #[.int .i64 x.day] 3)) (b := w5.heap.size) (sz := 1) (E := IntR) (H := noH) (x := x.day) (cs := [.int .i64 x.day]) ⟨rfl, hxd⟩ rfl (fun j => by rw [hlit]; simp)
                        go_wp2_with (at_builtin; refine wpList_append_M 1 rfl _ _ 22 rfl Tryd.underlying22 infoInt rfl rfl rfl hM5' rfl hS5 one_IntR (by first | (simp; done) | (simp; omega)) (by first | (simp; done) | (simp; omega)) ?b6)
                        case b6 =>
                          intro v2 w6 hM6
                          try simp only [List.set_cons_succ, List.set_cons_zero] at hM6
                          obtain ⟨a2, c2, rfl, -⟩ := hM6.form 1 rfl
                          clear hS5 hM5' hM5 q1
                          go_wp2_with (at_builtin; refine wpList_append_M 1 rfl _ _ 22 rfl Tryd.underlying22 infoInt rfl rfl rfl hM6 rfl (OwnC.srcDrop (o := 0) (hM6.ok 0 _ rfl) hj _ _ (by omega) (by omega) (fun h => by omega)) one_IntR (by first | (simp; done) | (simp; omega)) (by first | (simp; done) | (simp; omega)) ?d6)
                          case d6 =>
                            intro v3 w7 hM7
                            try simp only [List.set_cons_succ, List.set_cons_zero] at hM7
                            have hM8 := hM7.pick [1] (by decide)
                            simp only [List.map_cons, List.map_nil, List.getElem?_cons_zero, List.getElem?_cons_succ, Option.getD_some] at hM8
                            go_wp2_with fail
                            go_roundw
                            case rel => exact ⟨k + 1, by omega, rfl, _, hr, by rw [hins.out]; simpa using hM8⟩
                            case measure => simp [intOf]; omega
                    · have hjc' : j < bc := by omega
                      have k2' : l.length ≤ bc := k2
                      have hlit := fun (w : World) (j : Nat) => (Proofs.YtcmdekhhclgdcaaDoor.Own.new w #[Value.int .i64 x.day] 3).facts.1 j
                      go_wp2_with (at_builtin; refine wpList_append_MG 1 rfl _ _ 22 rfl Tryd.underlying22 infoInt rfl rfl rfl hMy rfl (OwnC.srcTake (hMy.ok 0 _ rfl) hj bc hjl) one_IntR (by first | (simp; done) | (simp; omega)) (by first | (simp; done) | (simp; omega)) ?a5)
                      case a5 =>
                        intro v1 w5 hM5 hg5
                        try simp only [List.set_cons_succ, List.set_cons_zero] at hM5
                        obtain ⟨a1, c1, rfl, -⟩ := hM5.form 1 rfl
                        have q1 := cell_kept q1' hg5 (fun r e => by cases e)
                        clear hg5 q1'
                        have hM5' := hM5.allocN (.cells #[.int .i64 x.day] 3)
                        have hS5 := Src.lit1 (w := w5.alloc (.cells #[.int .i64 x.day] 3)) (b := w5.heap.size) (sz := 1) (E := IntR) (H := noH) (x := x.day) (cs := [.int .i64 x.day]) ⟨rfl, hxd⟩ rfl (fun j => by rw [hlit]; simp)
                        go_wp2_with (at_builtin; refine wpList_append_M 1 rfl _ _ 22 rfl Tryd.underlying22 infoInt rfl rfl rfl hM5' rfl hS5 one_IntR (by first | (simp; done) | (simp; omega)) (by first | (simp; done) | (simp; omega)) ?b5)
                        case b5 =>
                          intro v2 w6 hM6
                          try simp only [List.set_cons_succ, List.set_cons_zero] at hM6
                          obtain ⟨a2, c2, rfl, -⟩ := hM6.form 1 rfl
                          clear hS5 hM5' hM5 q1
                          go_wp2_with (at_builtin; refine wpList_append_M 1 rfl _ _ 22 rfl Tryd.underlying22 infoInt rfl rfl rfl hM6 rfl (OwnC.srcDrop (hM6.ok 0 _ rfl) hj _ _ rfl (by omega) (fun _ => by omega)) one_IntR (by first | (simp; done) | (simp; omega)) (by first | (simp; done) | (simp; omega)) ?d5)
                          case d5 =>
                            intro v3 w7 hM7
                            try simp only [List.set_cons_succ, List.set_cons_zero] at hM7
                            have hM8 := hM7.pick [1] (by decide)
                            simp only [List.map_cons, List.map_nil, List.getElem?_cons_zero, List.getElem?_cons_succ, Option.getD_some] at hM8
                            go_wp2_with fail
                            go_roundw
                            case rel => exact ⟨k + 1, by omega, rfl, _, hr, by rw [hins.out]; simpa using hM8⟩
                            case measure => simp [intOf]; omega
          · have b3 : decide (x.number < x.day) = true := by simpa using h3
            have hr := hno (.inl (by unfold begB ivB; simp [h3]))
            clear h1 h2 hyes hno hI
            go_wp2_with (first | (refine wpList_load_mid rfl 63 _ rfl _ _ rfl (actC _) _ gc Tryd.underlying63 rfl (by kernel_rfl) ?_) | (refine wpList_store_new rfl 63 _ _ rfl (actC _).toArray rfl rfl 63 _ (by kernel_rfl) rfl (one_act _) ?_))
            go_roundw
            case rel => exact ⟨k + 1, by omega, rfl, l, hr, hMx⟩
            case measure => simp [intOf]; omega
        · have b2 : (x.file != file) = true := by simpa using h2
          have hr := hno (.inl (by unfold begB ivB; simp [h2]))
          clear h1 h2 hyes hno hI
          go_wp2_with (first | (refine wpList_load_mid rfl 63 _ rfl _ _ rfl (actC _) _ gc Tryd.underlying63 rfl (by kernel_rfl) ?_) | (refine wpList_store_new rfl 63 _ _ rfl (actC _).toArray rfl rfl 63 _ (by kernel_rfl) rfl (one_act _) ?_))
          go_roundw
          case rel => exact ⟨k + 1, by omega, rfl, l, hr, hMx⟩
          case measure => simp [intOf]; omega
      · have b1 : (x.kind != 9) = true := by simpa using h1
        have hr := hno (.inl (by unfold begB ivB; simp [h1]))
        clear h1 hyes hno hI
        go_wp2_with (first | (refine wpList_load_mid rfl 63 _ rfl _ _ rfl (actC _) _ gc Tryd.underlying63 rfl (by kernel_rfl) ?_) | (refine wpList_store_new rfl 63 _ _ rfl (actC _).toArray rfl rfl 63 _ (by kernel_rfl) rfl (one_act _) ?_))
        go_roundw
        case rel => exact ⟨k + 1, by omega, rfl, l, hr, hMx⟩
        case measure => simp [intOf]; omega
    · obtain rfl : k = xs.length := by omega
      rw [List.take_length] at hB
      have hll := hB.2.2
      replace hll : l.length ≤ 100000 := by omega
      replace hfin := fun out h2 h3 => hfin l out hB h2 h3
      have hAw := hA.mono mono_ActR hM.ex.ple
      have hbr : ∀ d ∈ l, brokB file xs d = true := by
        intro d hd
        obtain ⟨a, ha, h1, rfl⟩ := (hB.2.1 d).1 hd
        refine List.any_eq_true.2 ⟨a, ha, ?_⟩
        unfold begB ivB at h1
        unfold brkB
        simp at h1 ⊢
        exact h1.1
      clear hB hiv
      replace hM := hM.nil mono_IvR 2 34
      simp only [List.cons_append, List.nil_append] at hM
      go_wp2_with fail
      go_loopw [10, 11] (fun vo i wr => ∃ k : Nat, k ≤ l.length ∧ i = .int .i64 k ∧ ∃ out : List Iv, out.map Prod.fst = l.take k ∧ Hid (∀ x ∈ out, RunOk (brokB file xs) x.1 x.2) ∧ Mem w noH [own mono_IntR 1 3 (.slice ba l.length bc) l, own mono_IvR 2 34 vo out] noH wr) (fun _ i _ => l.length - (intOf i).toNat)
      case atStart => exact ⟨0, by omega, rfl, [], rfl, Lib.hid (by simp), hM⟩
      case round =>
        clear hM
        obtain ⟨k, hk, rfl, out, ho, hR, hM⟩ := hrel
        obtain ⟨oa, oc, rfl, -⟩ := hM.form 1 rfl
        have hol : out.length ≤ 100000 := by have := congrArg List.length ho; simp at this; omega
        by_cases hlt : k < l.length
        · obtain ⟨g, cap, cs, hv, hcs, hc, ⟨rfl, hi⟩, hg⟩ := hM.get 0 rfl k hlt
          cases hv
          have q := hc 0 (by omega)
          simp only [Nat.mul_one, Nat.add_zero, List.getD_cons_zero] at q
          have hts := take_snoc l k hlt
          have hb1 := hbr l[k] (List.getElem_mem hlt)
          have hAr := hA.mono mono_ActR hM.ex.ple
          clear hc hcs hbr hfin
          generalize l[k] = b at *
          go_wp2_with fail
          go_loopw [12] (fun y w2 => ∃ z : Int, y = .int .i64 z ∧ b ≤ z ∧ Hid (∀ d, b ≤ d → d ≤ z → brokB file xs d = true) ∧ w2 = wr) (fun y _ => (131074 - intOf y).toNat)
          case atStart => exact ⟨b, rfl, Int.le_refl _, Lib.hid (fun d h1 h2 => (by have e : d = b := (by omega); rw [e]; exact hb1)), rfl⟩
          case round =>
            obtain ⟨z, rfl, hbz, hall, rfl⟩ := hrel
            obtain ⟨z0, z1⟩ := hbd z (hall.out z hbz (Int.le_refl _))
            obtain ⟨y0, y1⟩ := hbd b (hall.out b (Int.le_refl _) hbz)
            have hbc := rbroken_c file (z + 1) xs _ _ hAr
            cases hq : brokB file xs (z + 1) with
            | true =>
              rw [hq] at hbc
              have hall2 : Hid (∀ d, b ≤ d → d ≤ z + 1 → brokB file xs d = true) := by
                intro d h1 h2
                by_cases h3 : d = z + 1
                · rw [h3]; exact hq
                · exact hall.out d h1 (by omega)
              clear hall hq hts hb1 ho
              go_wp2_with fail
              refine RetP_at hbc ?_
              go_wp2_with fail
              go_roundw
              case rel => exact ⟨z + 1, rfl, by omega, hall2, trivial⟩
              case measure => simp [intOf]; omega
            | false =>
              rw [hq] at hbc
              have hRn : Hid (∀ x ∈ out ++ [(b, z)], RunOk (brokB file xs) x.1 x.2) := by
                intro x hx
                rcases List.mem_append.1 hx with hx | hx
                · exact hR.out x hx
                · rw [List.mem_singleton.1 hx]; exact ⟨hbz, hall.out, hq⟩
              have hon : Hid ((out ++ [(b, z)]).map Prod.fst = l.take (k + 1)) := by
                show _ = _
                rw [List.map_append, ho, hts]; rfl
              have hMa := hM.allocN (.cells #[.int .i64 b, .int .i64 z] 34)
              have hIx : IvR noH [.int .i64 b, .int .i64 z] (b, z) := ⟨rfl, by unfold I64; dsimp only; omega⟩
              have hS := Src.lit1 (w := wr.alloc (.cells #[.int .i64 b, .int .i64 z] 34)) (b := wr.heap.size) (sz := 2) hIx rfl (fun j => by rw [(Proofs.YtcmdekhhclgdcaaDoor.Own.new wr #[.int .i64 b, .int .i64 z] 34).facts.1 j]; simp)
              clear hall hq hts hb1 ho hR
              go_wp2_with fail
              refine RetP_at hbc ?_
              go_wp2_with (at_builtin; refine wpList_append_M 1 rfl _ _ 28 rfl Tryd.underlying28 infoIv rfl rfl rfl hMa rfl hS one_IvR (by simp; omega) (by simp; omega) ?e5)
              case e5 =>
                intro v' w6 hM6
                try simp only [List.set_cons_succ, List.set_cons_zero] at hM6
                obtain ⟨na, nc, rfl, -⟩ := hM6.form 1 rfl
                go_wp2_with fail
                go_roundw
                case rel => exact ⟨k + 1, by omega, rfl, _, hon.out, hRn, hM6⟩
                case measure => simp [intOf]; omega
        · obtain rfl : k = l.length := by omega
          rw [List.take_length] at ho
          have hF := hfin out ho hR.out
          clear ho hol hfin
          go_wp2_with fail
          go_ret
          exact ⟨_, out, rfl, hM.ex, hM.rep 1 rfl, hF.out⟩
end Go.Proofs.YtcmdekhhclgdcaaDoor
