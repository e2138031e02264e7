/- priorartref06.some and Some: they return some thing, of bounded bulk. -/
import Derived.Test.YtebhdjeognpljaaGen
namespace Go.Proofs.Ytebhdjeognpljaa
open Go.RowKit
set_option linter.unusedSimpArgs false
set_option linter.unusedVariables false
/-- some new thing of bulk at most b comes back -/
def NewT (w : World) (b : Nat) (cs : List Value) (w' : World) : Prop := ∃ t, ThingR (up noH w w') cs t ∧ t.bulk ≤ b
def SomeP (w : World) (b n : Nat) (e : Ending) (w' : World) : Prop :=
  ∃ (cs : List Value) (nx : Nat), e = .returned (.tuple #[.agg cs.toArray, .int .i64 nx]) ∧ NewT w b cs w' ∧ nx ≤ n + 5 ∧ Ext w w'
abbrev zeroT : Array Value := #[.slice none 0 0, .slice none 0 0, .slice none 0 0]
theorem GSu.start (w : World) : GSu w noH [(w.heap.size, zeroT)] noH ((w.alloc (.cells zeroT 29)).alloc (.cells zeroT 29)) (w.heap.size + 1) (.slice none 0 0) (.slice none 0 0) (.slice none 0 0) [] [] [] :=
  ⟨noH_le _, noH_le _, noH_le _, Own.new' _ _ _ (by simp), OwnS.nil _ _ _ _ _ _, OwnS.nil _ _ _ _ _ _, OwnS.nil _ _ _ _ _ _, by omega, rfl, by simp [Value.ownBlock],
    fun x hx => by obtain rfl := List.mem_singleton.1 hx; exact ⟨(Own.new w _ _).alloc _, by simp, by simp [Value.ownBlock], rfl⟩, (by repeat (first | (with_reducible assumption) | (with_reducible exact Ext.rfl' _) | (with_reducible exact Ext.new _ _) | (with_reducible refine Ext.alloc' ?_ _) | (with_reducible refine Ext.drew' ?_) | (with_reducible refine Ext.drewN' ?_ _) | (with_reducible refine Ext.set' ?_ ?_ _; rotate_left; (focus (first | omega | (simp; done) | (simp; omega)))) | (with_reducible refine Ext.then (b := ?_) ?_ ?_; rotate_left; rotate_left; (with_reducible assumption))))⟩
/-- a box under way, whatever it holds -/
def GS (w0 : World) (H0 : PH) (K : List (Nat × Array Value)) (w : World) (g nc nv np bk : Nat) : Prop :=
  ∃ H v1 v2 v3 c v p, GSu w0 H0 K H w g v1 v2 v3 c v p ∧ c.length ≤ nc ∧ v.length ≤ nv ∧ p.length ≤ np ∧ sumN Thing.bulk p ≤ bk
theorem infoVal : (Try.prog.info? 41).map (fun i => (i.zero, i.size, i.bytes)) = some (some (.agg #[.int .i64 0, .int .i64 0, .int .i64 0]), 3, 24) := by kernel_rfl
theorem one_ValR {h : PH} : ∀ cs x, ValR h cs x → ∀ u ∈ cs, u.oneCell' = true := by
  rintro cs x ⟨rfl, -⟩ u hu
  simp at hu
  rcases hu with rfl | rfl | rfl <;> rfl
theorem ratios8 (q : Nat) (h : q < 8) : ∃ rn rd : Int, (#[.int .i64 0, .int .i64 1, .int .i64 1, .int .i64 1, .int .i64 1, .int .i64 2, .int .i64 3, .int .i64 2, .int .i64 2, .int .i64 1, .int .i64 (-1), .int .i64 1, .int .i64 5, .int .i64 1, .int .i64 7, .int .i64 3] : Array Value)[q * 2]? = some (.int .i64 rn) ∧
    (#[.int .i64 0, .int .i64 1, .int .i64 1, .int .i64 1, .int .i64 1, .int .i64 2, .int .i64 3, .int .i64 2, .int .i64 2, .int .i64 1, .int .i64 (-1), .int .i64 1, .int .i64 5, .int .i64 1, .int .i64 7, .int .i64 3] : Array Value)[q * 2 + 1]? = some (.int .i64 rd) ∧ I64 rn ∧ I64 rd := by
  unfold I64
  match q, h with
  | 0, _ => exact ⟨_, _, rfl, rfl, by omega, by omega⟩
  | 1, _ => exact ⟨_, _, rfl, rfl, by omega, by omega⟩
  | 2, _ => exact ⟨_, _, rfl, rfl, by omega, by omega⟩
  | 3, _ => exact ⟨_, _, rfl, rfl, by omega, by omega⟩
  | 4, _ => exact ⟨_, _, rfl, rfl, by omega, by omega⟩
  | 5, _ => exact ⟨_, _, rfl, rfl, by omega, by omega⟩
  | 6, _ => exact ⟨_, _, rfl, rfl, by omega, by omega⟩
  | 7, _ => exact ⟨_, _, rfl, rfl, by omega, by omega⟩
theorem infoThing : (Try.prog.info? 29).map (fun i => (i.zero, i.size, i.bytes)) = some (some (.agg #[.slice none 0 0, .slice none 0 0, .slice none 0 0]), 3, 72) := by kernel_rfl
theorem one_ThingR {h : PH} : ∀ cs x, ThingR h cs x → ∀ u ∈ cs, u.oneCell' = true := by
  intro cs x hr u hu
  obtain ⟨a1, c1, a2, c2, a3, c3, rfl, -⟩ := hr.form
  simp at hu
  rcases hu with rfl | rfl | rfl <;> rfl
theorem up_noH {H : PH} {w w' : World} : PLe (up noH w w') (up H w w') := up_mono (noH_le H)
theorem some_bulk {d k : Nat} {c : List Int} {v : List Val} {p : List Thing} (q1 : c.length ≤ 64) (q2 : v.length ≤ 3) (q4 : sumN Thing.bulk p ≤ k * (68 * 4 ^ (d - 1))) (hk : k ≤ 3) (hkd : k = 0 ∨ 1 < d) : (Thing.mk c v p).bulk ≤ 68 * 4 ^ d := by
  rw [Thing.bulk_eq]
  simp only [Thing.cls, Thing.vals, Thing.parts]
  have hp : 0 < 4 ^ d := Nat.pow_pos (by omega)
  rcases hkd with rfl | h1
  · omega
  · obtain ⟨e, rfl⟩ : ∃ e, d = e + 1 := ⟨d - 1, by omega⟩
    rw [Nat.add_sub_cancel] at q4
    rw [Nat.pow_succ]
    have hp : 0 < 4 ^ e := Nat.pow_pos (by omega)
    generalize 4 ^ e = x at *
    have : k * (68 * x) ≤ 3 * (68 * x) := Nat.mul_le_mul_right _ hk
    omega
theorem sumN_snoc {α : Type} (f : α → Nat) (l : List α) (x : α) : sumN f (l ++ [x]) = sumN f l + f x := by
  induction l with
  | nil => simp [sumN]
  | cons y ys ih => simp only [List.cons_append, sumN, ih]; omega
theorem GSu.setK {w0 : World} {H0 : PH} {H : PH} {w : World} {g b : Nat} {cb : Array Value} {v1 v2 v3 : Value} {c : List Int} {v : List Val} {p : List Thing} (h : GSu w0 H0 [(b, cb)] H w g v1 v2 v3 c v p) (hb : w0.heap.size ≤ b) (j : Nat) (u : Value) :
    GSu w0 H0 [(b, cb.setIfInBounds j u)] H (w.setCell ⟨b, j, none⟩ u) g v1 v2 v3 c v p := by
  obtain ⟨k1, k2, k3, k4⟩ := h.kk _ (List.mem_singleton.2 rfl)
  have h1 : v1.ownBlock ≠ some b := fun e2 => by
    obtain ⟨cur, h1⟩ := h.o1.ty e2
    exact ty_ne k1 h1 (by decide) rfl
  have h2 : v2.ownBlock ≠ some b := fun e2 => by
    obtain ⟨cur, h1⟩ := h.o2.ty e2
    exact ty_ne k1 h1 (by decide) rfl
  refine ⟨h.l0, h.le, ?_, h.ow.setOther (Ne.symm k2) u, h.o1.put h1, h.o2.put h2, h.o3.put k3, h.bg, h.ng, h.n3, fun x hx => ?_, h.ex.set' hb u⟩
  · intro k o hk
    have h1 := h.ub k o hk
    unfold Proofs.Ytebhdjeognpljaa.up at *
    split
    · rename_i hl; rw [if_pos hl] at h1; exact h1
    · rename_i hl; rw [if_neg hl] at h1
      show (w.setCell ⟨b, j, none⟩ u).heap[k]? = some o
      rw [Below.heap_setCell _ _ _ _ (fun he => by rw [he] at hk; rw [k4] at hk; cases hk)]
      exact h1
  · obtain rfl := List.mem_singleton.1 hx
    exact ⟨k1.set j u, k2, k3, k4⟩
theorem GSu.gs {w0 : World} {H0 : PH} {K : List (Nat × Array Value)} {H : PH} {w : World} {g nc nv np bk : Nat} {v1 v2 v3 : Value} {c : List Int} {v : List Val} {p : List Thing} (h : GSu w0 H0 K H w g v1 v2 v3 c v p) (q1 : c.length ≤ nc) (q2 : v.length ≤ nv) (q3 : p.length ≤ np) (q4 : sumN Thing.bulk p ≤ bk) : GS w0 H0 K w g nc nv np bk :=
  ⟨H, v1, v2, v3, c, v, p, h, q1, q2, q3, q4⟩
set_option maxRecDepth 100000 in
set_option maxHeartbeats 2000000 in
theorem some_c (l : List Int) (vl : Value) (hlen : l.length ≤ 140737488355328) (d : Nat) : d ≤ 4 → ∀ (at_ : Nat) (cl : Int) (w : World), IntsR (ph w) vl l → 0 ≤ cl → cl ≤ 64 → at_ ≤ l.length →
    Calls Try.prog 64 #[vl, .int .i64 at_, .int .i64 cl, .int .i64 d] w (SomeP w (68 * 4 ^ d) l.length) := by
  induction d using Nat.strongRecOn with
  | ind d ih =>
    intro hd at_ cl w hl hc0 hc1 hat
    have HI := Lib.hid (fun h : 1 < d => ih (d - 1) (by omega) (by omega)); clear ih
    obtain ⟨a, c, rfl, hll, hl⟩ := hl.form
    have hS := GSu.start w
    go_enter Try.func64, Try.ntmps64
    go_wp2_with fail
    refine (pick_c l _ at_ 1048576 _ (hl.mono mono_IntR (Ext.ple (by repeat (first | (with_reducible assumption) | (with_reducible exact Ext.rfl' _) | (with_reducible exact Ext.new _ _) | (with_reducible refine Ext.alloc' ?_ _) | (with_reducible refine Ext.drew' ?_) | (with_reducible refine Ext.drewN' ?_ _) | (with_reducible refine Ext.set' ?_ ?_ _; rotate_left; (focus (first | omega | (simp; done) | (simp; omega)))) | (with_reducible refine Ext.then (b := ?_) ?_ ?_; rotate_left; rotate_left; (with_reducible assumption)))))) (by unfold I64; omega) (by omega) (by omega)).mono ?_
    rintro e w1 ⟨n, rfl, hn0, hn1, hb1⟩
    replace hS := hS.ext hb1
    clear hb1
    go_wp2_with fail
    go_loopw [12] (fun i wr => ∃ k : Nat, (k : Int) ≤ cl ∧ i = .int .i64 k ∧ GS w noH [(w.heap.size, zeroT)] wr (w.heap.size + 1) k 0 0 0) (fun i _ => 64 - (intOf i).toNat)
    case atStart => exact ⟨0, by omega, rfl, _, _, _, _, _, _, _, hS, by simp, by simp, by simp, by simp [sumN]⟩
    case round =>
      clear hS
      obtain ⟨k, hk, rfl, H, v1, v2, v3, cs, vs, ps, hS, q1, q2, q3, q4⟩ := hrel
      by_cases hlt : (k : Int) < cl
      · obtain ⟨a1, c1, rfl, l1⟩ := hS.o1.form
        obtain ⟨hoc, hof⟩ := hS.ow.facts
        have hgl := hS.ow.lt
        cases hq : ((n / 2 ^ (k % 20)).tmod 3 == 1) with
        | true =>
          go_wp2_with (at_builtin; refine wpList_append_S (E := IntR) (H := H) (base := w.heap.size) (ys := [(k : Int)]) rfl _ _ 22 3 rfl (.int .i64 0) 8 Try.underlying22 infoInt rfl rfl rfl (hS.o1.keep (by repeat (first | (with_reducible assumption) | (with_reducible exact Ext.rfl' _) | (with_reducible exact Ext.new _ _) | (with_reducible refine Ext.alloc' ?_ _) | (with_reducible refine Ext.drew' ?_) | (with_reducible refine Ext.drewN' ?_ _) | (with_reducible refine Ext.set' ?_ ?_ _; rotate_left; (focus (first | omega | (simp; done) | (simp; omega)))) | (with_reducible refine Ext.then (b := ?_) ?_ ?_; rotate_left; rotate_left; (with_reducible assumption))))) (Src.lit1 ⟨rfl, by unfold I64; omega⟩ rfl (fun j => by simp [go_sem])) (hS.ple.trans (Ext.ple (by repeat (first | (with_reducible assumption) | (with_reducible exact Ext.rfl' _) | (with_reducible exact Ext.new _ _) | (with_reducible refine Ext.alloc' ?_ _) | (with_reducible refine Ext.drew' ?_) | (with_reducible refine Ext.drewN' ?_ _) | (with_reducible refine Ext.set' ?_ ?_ _; rotate_left; (focus (first | omega | (simp; done) | (simp; omega)))) | (with_reducible refine Ext.then (b := ?_) ?_ ?_; rotate_left; rotate_left; (with_reducible assumption)))))) ?c2 one_IntR ?c3 ?c4 ?c5)
          case c2 => have := hS.ex.size; simp; omega
          case c3 => simp; omega
          case c4 => simp; omega
          case c5 =>
            intro l' w2 hl1 hg1 hn1
            obtain ⟨hO2, hR⟩ := hS.set1 (Ext.new _ _) hl1 hg1
            obtain ⟨a', c', rfl, -⟩ := hl1.form
            obtain ⟨hoc2, hof2⟩ := hO2.facts
            have hgl2 := hO2.lt
            clear hS hg1 hn1 hoc hof hl1
            go_wp2_with fail
            go_roundw
            case rel =>
              have hR2 := hR.out
              rw [List.length_append, List.length_singleton] at hR2
              exact ⟨k + 1, by omega, by go_num, hR2.gs (by simp; omega) q2 q3 q4⟩
            case measure => simp [intOf]; omega
        | false =>
          go_wp2_with fail
          go_roundw
          case rel => exact ⟨k + 1, by omega, by go_num, hS.gs (by omega) q2 q3 q4⟩
          case measure => simp [intOf]; omega
      · have hc : cs.length ≤ 64 := by omega
        clear q1 hk
        go_wp2_with fail
        go_loopw [1, 13] (fun i j wr => ∃ k : Nat, k ≤ 3 ∧ i = .int .i64 (at_ + 1 + k : Nat) ∧ j = .int .i64 k ∧ GS w noH [(w.heap.size, zeroT)] wr (w.heap.size + 1) 64 k 0 0) (fun _ j _ => 3 - (intOf j).toNat)
        case atStart => exact ⟨0, by omega, by go_num, rfl, hS.gs hc q2 q3 q4⟩
        case round =>
          clear hS hc q2 q3 q4
          obtain ⟨k, hk, rfl, rfl, H, v1, v2, v3, cs, vs, ps, hS, q1, q2, q3, q4⟩ := hrel
          by_cases hlt : k < 3
          · have hx := hS.ex
            go_wp2_with fail
            refine (pick_c l _ (at_ + 1 + k : Nat) 1048576 _ (hl.mono mono_IntR (Ext.ple (by repeat (first | (with_reducible assumption) | (with_reducible exact Ext.rfl' _) | (with_reducible exact Ext.new _ _) | (with_reducible refine Ext.alloc' ?_ _) | (with_reducible refine Ext.drew' ?_) | (with_reducible refine Ext.drewN' ?_ _) | (with_reducible refine Ext.set' ?_ ?_ _; rotate_left; (focus (first | omega | (simp; done) | (simp; omega)))) | (with_reducible refine Ext.then (b := ?_) ?_ ?_; rotate_left; rotate_left; (with_reducible assumption)))))) (by unfold I64; omega) (by omega) (by omega)).mono ?_
            rintro e w2 ⟨m, rfl, hm0, hm1, hb2⟩
            replace hS := hS.ext hb2
            clear hb2 hx
            obtain ⟨a1, c1, rfl, l1⟩ := hS.o2.form
            obtain ⟨hoc, hof⟩ := hS.ow.facts
            have hgl := hS.ow.lt
            have hgl3 : w.heap.size < w2.heap.size := by omega
            cases hq : (m % 3 == 0) with
            | true =>
              have ik : I64 (k : Int) := by unfold I64; omega
              obtain ⟨rn, rd, hr0, hr1, i0, i1⟩ := ratios8 (m / 3 % 8).toNat (by omega)
              have hr2 : (w2.alloc (.cells #[.int .i64 0, .int .i64 1, .int .i64 1, .int .i64 1, .int .i64 1, .int .i64 2, .int .i64 3, .int .i64 2, .int .i64 2, .int .i64 1, .int .i64 (-1), .int .i64 1, .int .i64 5, .int .i64 1, .int .i64 7, .int .i64 3] 32)).cell? ⟨w2.heap.size, (m / 3 % 8).toNat * 2, none⟩ = some (.int .i64 rn) := by rw [(Own.new _ _ _).facts.1]; exact hr0
              have hr3 : (w2.alloc (.cells #[.int .i64 0, .int .i64 1, .int .i64 1, .int .i64 1, .int .i64 1, .int .i64 2, .int .i64 3, .int .i64 2, .int .i64 2, .int .i64 1, .int .i64 (-1), .int .i64 1, .int .i64 5, .int .i64 1, .int .i64 7, .int .i64 3] 32)).cell? ⟨w2.heap.size, (m / 3 % 8).toNat * 2 + 1, none⟩ = some (.int .i64 rd) := by rw [(Own.new _ _ _).facts.1]; exact hr1
              clear hr0 hr1
              go_wp2_with (at_builtin; refine wpList_append_S (E := ValR) (H := H) (base := w.heap.size) (ys := [⟨k, ⟨rn, rd⟩⟩]) rfl _ _ 27 41 rfl (.agg #[.int .i64 0, .int .i64 0, .int .i64 0]) 24 Try.underlying27 infoVal rfl rfl rfl (hS.o2.keep (by repeat (first | (with_reducible assumption) | (with_reducible exact Ext.rfl' _) | (with_reducible exact Ext.new _ _) | (with_reducible refine Ext.alloc' ?_ _) | (with_reducible refine Ext.drew' ?_) | (with_reducible refine Ext.drewN' ?_ _) | (with_reducible refine Ext.set' ?_ ?_ _; rotate_left; (focus (first | omega | (simp; done) | (simp; omega)))) | (with_reducible refine Ext.then (b := ?_) ?_ ?_; rotate_left; rotate_left; (with_reducible assumption))))) (Src.lit1 ⟨rfl, ik, i0, i1⟩ rfl (fun j => by simp [go_sem])) (hS.ple.trans (Ext.ple (by repeat (first | (with_reducible assumption) | (with_reducible exact Ext.rfl' _) | (with_reducible exact Ext.new _ _) | (with_reducible refine Ext.alloc' ?_ _) | (with_reducible refine Ext.drew' ?_) | (with_reducible refine Ext.drewN' ?_ _) | (with_reducible refine Ext.set' ?_ ?_ _; rotate_left; (focus (first | omega | (simp; done) | (simp; omega)))) | (with_reducible refine Ext.then (b := ?_) ?_ ?_; rotate_left; rotate_left; (with_reducible assumption)))))) ?c2 one_ValR ?c3 ?c4 ?c5)
              case c2 => have := hS.ex.size; simp; omega
              case c3 => simp; omega
              case c4 => simp; omega
              case c5 =>
                intro l' w3 hl1 hg1 hn1
                obtain ⟨hO2, hR⟩ := hS.set2 (w1 := ((w2.alloc _).alloc _).alloc _) (by repeat (first | (with_reducible assumption) | (with_reducible exact Ext.rfl' _) | (with_reducible exact Ext.new _ _) | (with_reducible refine Ext.alloc' ?_ _) | (with_reducible refine Ext.drew' ?_) | (with_reducible refine Ext.drewN' ?_ _) | (with_reducible refine Ext.set' ?_ ?_ _; rotate_left; (focus (first | omega | (simp; done) | (simp; omega)))) | (with_reducible refine Ext.then (b := ?_) ?_ ?_; rotate_left; rotate_left; (with_reducible assumption)))) hl1 hg1
                obtain ⟨a', c', rfl, -⟩ := hl1.form
                obtain ⟨hoc2, hof2⟩ := hO2.facts
                have hgl2 := hO2.lt
                clear hS hg1 hn1 hoc hof hl1 hr2 hr3
                go_wp2_with fail
                go_roundw
                case rel =>
                  have hR2 := hR.out
                  rw [List.length_append, List.length_singleton] at hR2
                  exact ⟨k + 1, by omega, by go_num, by go_num, hR2.gs q1 (by simp; omega) q3 q4⟩
                case measure => simp [intOf]; omega
            | false =>
              go_wp2_with fail
              go_roundw
              case rel => exact ⟨k + 1, by omega, by go_num, by go_num, hS.gs q1 (by omega) q3 q4⟩
              case measure => simp [intOf]; omega
          · obtain rfl : k = 3 := by omega
            have hx := hS.ex
            go_wp2_with fail
            refine (pick_c l _ (at_ + 1 + 3 : Nat) 4 _ (hl.mono mono_IntR (Ext.ple (by repeat (first | (with_reducible assumption) | (with_reducible exact Ext.rfl' _) | (with_reducible exact Ext.new _ _) | (with_reducible refine Ext.alloc' ?_ _) | (with_reducible refine Ext.drew' ?_) | (with_reducible refine Ext.drewN' ?_ _) | (with_reducible refine Ext.set' ?_ ?_ _; rotate_left; (focus (first | omega | (simp; done) | (simp; omega)))) | (with_reducible refine Ext.then (b := ?_) ?_ ?_; rotate_left; rotate_left; (with_reducible assumption)))))) (by unfold I64; omega) (by omega) (by omega)).mono ?_
            rintro e w2 ⟨m, rfl, hm0, hm1, hb2⟩
            replace hS := hS.ext hb2
            clear hb2 hx
            go_wp2_with fail
            go_loopw [1, 17] (fun i j wr => ∃ at2 k : Nat, at2 ≤ l.length + 5 ∧ (k : Int) ≤ m ∧ (k = 0 ∨ 1 < d) ∧ i = .int .i64 at2 ∧ j = .int .i64 k ∧ GS w noH [(w.heap.size, zeroT)] wr (w.heap.size + 1) 64 3 k (k * (68 * 4 ^ (d - 1)))) (fun _ j _ => 4 - (intOf j).toNat)
            case atStart => exact ⟨at_ + 1 + 3 + 1, 0, by omega, by omega, .inl rfl, by go_num, rfl, hS.gs q1 q2 q3 (by omega)⟩
            case round =>
              clear hS q1 q2 q3 q4
              obtain ⟨at2, k, hat2, hk, hkd, rfl, rfl, H, v1, v2, v3, cs, vs, ps, hS, q1, q2, q3, q4⟩ := hrel
              have hbk := Lib.hid (some_bulk q1 q2 q4 (by omega) hkd)
              obtain ⟨hoc, hof⟩ := hS.ow.facts
              have hgl := hS.ow.lt
              have hgl3 : w.heap.size < wr.heap.size := by omega
              by_cases hgo : (k : Int) < m ∧ 1 < (d : Int) ∧ (at2 : Int) < l.length
              · obtain ⟨g1, g2, g3⟩ := hgo
                have hx := hS.ex
                have hdd : ((d : Int) - 1) = ((d - 1 : Nat) : Int) := by omega
                go_wp2_with fail
                refine (HI.out (by omega) at2 cl _ (hl.mono mono_IntR (Ext.ple (by repeat (first | (with_reducible assumption) | (with_reducible exact Ext.rfl' _) | (with_reducible exact Ext.new _ _) | (with_reducible refine Ext.alloc' ?_ _) | (with_reducible refine Ext.drew' ?_) | (with_reducible refine Ext.drewN' ?_ _) | (with_reducible refine Ext.set' ?_ ?_ _; rotate_left; (focus (first | omega | (simp; done) | (simp; omega)))) | (with_reducible refine Ext.then (b := ?_) ?_ ?_; rotate_left; rotate_left; (with_reducible assumption)))))) hc0 hc1 (by omega)).mono ?_
                rintro e w3 ⟨cs', nx, rfl, ⟨t, hT, hTb⟩, hnx, hb3⟩
                obtain ⟨b1, d1, b2, d2, b3, d3, rfl, -⟩ := hT.form
                replace hT : ThingR (up H wr w3) _ t := mono_ThingR _ _ _ _ up_noH hT
                replace hS := hS.up hb3
                clear hoc hof hgl hgl3 hx hb3
                obtain ⟨hoc, hof⟩ := hS.ow.facts
                have hgl := hS.ow.lt
                have hgl3 : w.heap.size < w3.heap.size := by omega
                obtain ⟨p1, p2, rfl, l3⟩ := hS.o3.form
                have q4' : sumN Thing.bulk (ps ++ [t]) ≤ (k + 1) * (68 * 4 ^ (d - 1)) := by
                  rw [Nat.add_mul]
                  have := sumN_snoc Thing.bulk ps t
                  omega
                replace q4' := Lib.hid q4'
                go_wp2_with (at_builtin; refine wpList_append_S (E := ThingR) (H := up H wr w3) (base := w.heap.size) (ys := [t]) rfl _ _ 23 29 rfl (.agg #[.slice none 0 0, .slice none 0 0, .slice none 0 0]) 72 Try.underlying23 infoThing rfl rfl rfl (hS.o3.keep (by repeat (first | (with_reducible assumption) | (with_reducible exact Ext.rfl' _) | (with_reducible exact Ext.new _ _) | (with_reducible refine Ext.alloc' ?_ _) | (with_reducible refine Ext.drew' ?_) | (with_reducible refine Ext.drewN' ?_ _) | (with_reducible refine Ext.set' ?_ ?_ _; rotate_left; (focus (first | omega | (simp; done) | (simp; omega)))) | (with_reducible refine Ext.then (b := ?_) ?_ ?_; rotate_left; rotate_left; (with_reducible assumption))))) (Src.lit1 hT rfl (fun j => by simp [go_sem])) (hS.ple.trans (Ext.ple (by repeat (first | (with_reducible assumption) | (with_reducible exact Ext.rfl' _) | (with_reducible exact Ext.new _ _) | (with_reducible refine Ext.alloc' ?_ _) | (with_reducible refine Ext.drew' ?_) | (with_reducible refine Ext.drewN' ?_ _) | (with_reducible refine Ext.set' ?_ ?_ _; rotate_left; (focus (first | omega | (simp; done) | (simp; omega)))) | (with_reducible refine Ext.then (b := ?_) ?_ ?_; rotate_left; rotate_left; (with_reducible assumption)))))) ?c2 one_ThingR ?c3 ?c4 ?c5)
                case c2 => have := hS.ex.size; simp; omega
                case c3 => simp; omega
                case c4 => simp; omega
                case c5 =>
                  intro l' w4 hl1 hg1 hn1
                  obtain ⟨hO2, hR⟩ := hS.set3 (w1 := (w3.alloc _).alloc _) (by repeat (first | (with_reducible assumption) | (with_reducible exact Ext.rfl' _) | (with_reducible exact Ext.new _ _) | (with_reducible refine Ext.alloc' ?_ _) | (with_reducible refine Ext.drew' ?_) | (with_reducible refine Ext.drewN' ?_ _) | (with_reducible refine Ext.set' ?_ ?_ _; rotate_left; (focus (first | omega | (simp; done) | (simp; omega)))) | (with_reducible refine Ext.then (b := ?_) ?_ ?_; rotate_left; rotate_left; (with_reducible assumption)))) hl1 hg1 (by simpa using hn1)
                  obtain ⟨a', c', rfl, -⟩ := hl1.form
                  obtain ⟨hoc2, hof2⟩ := hO2.facts
                  have hgl2 := hO2.lt
                  clear hS hg1 hn1 hoc hof hl1
                  go_wp2_with fail
                  go_roundw
                  case rel =>
                    have hR2 := hR.out
                    rw [List.length_append, List.length_singleton] at hR2
                    exact ⟨nx, k + 1, hnx, by omega, .inr (by omega), rfl, by go_num, hR2.gs q1 q2 (by simp; omega) q4'.out⟩
                  case measure => simp [intOf]; omega
              · obtain ⟨hKo, -, -, -⟩ := hS.kk _ (List.mem_singleton.2 rfl)
                have hKl := hKo.lt
                have h3 : ¬ (k : Int) < m ∨ (k : Int) < m ∧ ¬ 1 < (d : Int) ∨ (k : Int) < m ∧ 1 < (d : Int) ∧ ¬ (at2 : Int) < l.length := by omega
                obtain ⟨a1, c1, rfl, -⟩ := hS.o1.form
                obtain ⟨a2, c2, rfl, -⟩ := hS.o2.form
                obtain ⟨a3, c3, rfl, -⟩ := hS.o3.form
                obtain ⟨hKc, hKf⟩ := hKo.facts
                have hx := hS.ex
                have hfin := ((hS.setK (Nat.le_refl _) 0 (.slice a1 cs.length c1)).setK (Nat.le_refl _) 1 (.slice a2 vs.length c2)).setK (Nat.le_refl _) 2 (.slice a3 ps.length c3)
                have hrep := Lib.hid hfin.rep
                have hex := Lib.hid hfin.ex
                rcases h3 with g1 | ⟨g1, g2⟩ | ⟨g1, g2, g3⟩
                all_goals
                  go_wp2_with fail
                  exact bodyPost_ret (v := .tuple #[.agg #[.slice a1 cs.length c1, .slice a2 vs.length c2, .slice a3 ps.length c3], .int .i64 at2]) (by simp [results, Try.results64, go_sem, hKc, hKf, hKl]) rfl
                    ⟨[_, _, _], at2, rfl, ⟨_, hrep.out, hbk.out⟩, hat2, hex.out⟩
theorem up_noH_mono {w wc w1 w2 : World} (h : w.heap.size ≤ wc.heap.size) (hs : ∀ k, wc.heap.size ≤ k → k < w1.heap.size → w2.heap[k]? = w1.heap[k]?) : PLe (up noH wc w1) (up noH w w2) := by
  intro k o hk
  unfold up at *
  by_cases hl : k < wc.heap.size
  · rw [if_pos hl] at hk; cases hk
  · rw [if_neg hl] at hk
    rw [if_neg (by omega)]
    show w2.heap[k]? = some o
    rw [hs k (by omega) (ph_lt hk)]
    exact hk
def SomeTP (w : World) (b : Nat) (e : Ending) (w' : World) : Prop := ∃ cs : List Value, e = .returned (.agg cs.toArray) ∧ NewT w b cs w' ∧ Ext w w'
set_option maxHeartbeats 400000 in
theorem someT_c (l : List Int) (vl : Value) (cl : Int) (d : Nat) (w : World) (hlen : l.length ≤ 140737488355328) (hd : d ≤ 4) (hl : IntsR (ph w) vl l) (hc0 : 0 ≤ cl) (hc1 : cl ≤ 64) :
    Calls Try.prog 36 #[vl, .int .i64 cl, .int .i64 d] w (SomeTP w (68 * 4 ^ d)) := by
  obtain ⟨a, c, rfl, hll, hl⟩ := hl.form
  go_enter Try.func36, Try.ntmps36
  go_wp2_with fail
  refine (some_c l _ hlen d hd 0 cl _ (hl.mono mono_IntR (Ext.ple (by repeat (first | (with_reducible assumption) | (with_reducible exact Ext.rfl' _) | (with_reducible exact Ext.new _ _) | (with_reducible refine Ext.alloc' ?_ _) | (with_reducible refine Ext.drew' ?_) | (with_reducible refine Ext.drewN' ?_ _) | (with_reducible refine Ext.set' ?_ ?_ _; rotate_left; (focus (first | omega | (simp; done) | (simp; omega)))) | (with_reducible refine Ext.then (b := ?_) ?_ ?_; rotate_left; rotate_left; (with_reducible assumption)))))) hc0 hc1 (by omega)).mono ?_
  rintro e w1 ⟨cs, nx, rfl, ⟨t, hT, hTb⟩, hnx, hb1⟩
  obtain ⟨b1, d1, b2, d2, b3, d3, rfl, -⟩ := hT.form
  have hO : Own w1 w.heap.size zeroT 29 := Own.keep (Own.new _ _ _) hb1
  have hb : Ext w w1 := (by repeat (first | (with_reducible assumption) | (with_reducible exact Ext.rfl' _) | (with_reducible exact Ext.new _ _) | (with_reducible refine Ext.alloc' ?_ _) | (with_reducible refine Ext.drew' ?_) | (with_reducible refine Ext.drewN' ?_ _) | (with_reducible refine Ext.set' ?_ ?_ _; rotate_left; (focus (first | omega | (simp; done) | (simp; omega)))) | (with_reducible refine Ext.then (b := ?_) ?_ ?_; rotate_left; rotate_left; (with_reducible assumption))))
  have hs1 : w.heap.size + 1 ≤ w1.heap.size := by have := hb1.size; simpa using this
  obtain ⟨hoc, hof⟩ := hO.facts
  have hol := hO.lt
  generalize hB : 68 * 4 ^ d = bb at *
  clear hb1 hB
  go_wp2_with fail
  refine bodyPost_ret (v := .agg #[.slice b1 t.cls.length d1, .slice b2 t.vals.length d2, .slice b3 t.parts.length d3]) (by simp [results, Try.results36, go_sem, hoc, hof, hol]) rfl
    ⟨[_, _, _], rfl, ⟨t, mono_ThingR _ _ _ _ (up_noH_mono (by simp) fun k h1 h2 => ?_) hT, hTb⟩, (by repeat (first | (with_reducible assumption) | (with_reducible exact Ext.rfl' _) | (with_reducible exact Ext.new _ _) | (with_reducible refine Ext.alloc' ?_ _) | (with_reducible refine Ext.drew' ?_) | (with_reducible refine Ext.drewN' ?_ _) | (with_reducible refine Ext.set' ?_ ?_ _; rotate_left; (focus (first | omega | (simp; done) | (simp; omega)))) | (with_reducible refine Ext.then (b := ?_) ?_ ?_; rotate_left; rotate_left; (with_reducible assumption))))⟩
  have h1' : w.heap.size + 1 ≤ k := by simpa using h1
  rw [(Ext.new _ _).block k (by simpa using h2), Below.heap_setCell _ _ _ _ (by simp; omega), Below.heap_setCell _ _ _ _ (by simp; omega), Below.heap_setCell _ _ _ _ (by simp; omega)]
end Go.Proofs.Ytebhdjeognpljaa
