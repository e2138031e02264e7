/- the reference of package span: Cells. -/
import Derived.Deep.CutBlock
import Derived.Test.YtmbkefgmiehdiaaSpCv
namespace Go.Proofs.Ytmbkefgmiehdiaa
open Go.RowKit Go.Shelf
set_option linter.unusedSimpArgs false
set_option linter.unusedVariables false
def cellsL (l : List Itv) (ps : List Rat2) : List Bool := (starts ps).map fun e => covB l e
theorem cellsL_len (l : List Itv) (ps : List Rat2) : (cellsL l ps).length = 2 * ps.length + 1 := by unfold cellsL; rw [List.length_map, starts_len]
def BoolsP (w : World) (l : List Bool) (e : Ending) (w' : World) : Prop := ∃ v, e = .returned v ∧ Ext w w' ∧ BoolsR (ph w') v l
theorem any_take {l : List Itv} {e : En} {i : Nat} (h : i < l.length) : (l.take (i + 1)).any (fun x => insB x e) = ((l.take i).any (fun x => insB x e) || insB l[i] e) := by
  rw [List.take_succ_eq_append_getElem h, List.any_append]; simp
set_option maxRecDepth 100000 in
set_option maxHeartbeats 8000000 in
theorem cells_c (vl vp : Value) (l0 l : List Itv) (ps : List Rat2) (w : World) (hl : ItvsR (ph w) vl l) (hr : RatsR (ph w) vp ps) (hp : Pts l0 ps) (hsub : ∀ x ∈ l, x ∈ l0) (hg : ∀ x ∈ l, goodB x = true) (hlen : ps.length ≤ 100000) :
    Calls Try.prog 43 #[vl, vp] w (BoolsP w (cellsL l ps)) := by
  have hcv := fun (c : Nat) (e : En) (he : (starts ps)[c]? = some e) (i : Nat) (h : i < l.length) (w' : World) (hx : Ext w w') => covers_c l[i] vp ps l0 c e w' (hr.mono mono_RatR hx.ple) hp (hsub _ (List.getElem_mem h)) (hg _ (List.getElem_mem h)) he hlen
  obtain ⟨a, cl, rfl, hll, hl⟩ := hl.form
  obtain ⟨pa, pc, rfl, -, -⟩ := hr.form
  obtain ⟨n, hn⟩ : ∃ n, ps.length = n := ⟨_, rfl⟩
  have hcl := cellsL_len l ps
  have hsl := starts_len ps
  rw [hn] at hcv hlen hcl hsl ⊢
  obtain ⟨N, hN⟩ : ∃ N, l.length = N := ⟨_, rfl⟩
  rw [hN] at hl hll ⊢
  replace hcv := Lib.hid hcv
  replace hcl := Lib.hid hcl
  replace hsl := Lib.hid hsl
  replace hN := Lib.hid hN
  replace hn := Lib.hid hn
  have hM0 := (Mem.start w noH (noH_le _)).nil mono_BoolR 1 4
  simp only [List.nil_append] at hM0
  clear hr hp hg
  go_enter Try.func43, Try.ntmps43
  go_wp2_with fail
  go_loopw [5, 6] (fun vo vc wr => ∃ (c : Nat) (bs : List Bool), c ≤ 2 * n + 1 ∧ vc = .int .i64 c ∧ Hid (bs = (cellsL l ps).take c) ∧ Mem w noH [own mono_BoolR 1 4 vo bs] noH wr) (fun _ vc _ => 2 * n + 1 - (intOf vc).toNat)
  case atStart => exact ⟨0, [], by omega, rfl, Lib.hid (by simp), hM0⟩
  case round =>
    clear hM0
    obtain ⟨c, bs, hc, rfl, hbs, hM⟩ := hrel
    by_cases hlt : c < 2 * n + 1
    · have hi1 : (c : Int) ≤ 2 * (n : Int) := by omega
      have hw2 : IntKind.i64.wrap (2 * (n : Int)) = 2 * (n : Int) := wrap_id (by omega) (by omega)
      have hcs : c < (starts ps).length := by rw [hsl.out]; exact hlt
      obtain ⟨e, he⟩ : ∃ e, (starts ps)[c]? = some e := ⟨_, List.getElem?_eq_getElem hcs⟩
      have hbs2 : Hid (bs ++ [covB l e] = (cellsL l ps).take (c + 1)) := Lib.hid (by
        rw [hbs.out, List.take_add_one]
        congr 1
        unfold cellsL
        rw [List.getElem?_map, he]; rfl)
      have hbl : bs.length ≤ 300000 := by rw [hbs.out, List.length_take]; omega
      have hce := hcv.out c e he
      replace hce := Lib.hid hce
      obtain ⟨va, vc, rfl, -⟩ := hM.form 0 rfl
      have hcovd : Hid (covB l e = (l.take N).any fun x => insB x e) := Lib.hid (by rw [List.take_of_length_le (by rw [hN.out]; exact Nat.le_refl _)]; rfl)
      have hany := fun i (h : i < l.length) => any_take (e := e) h
      replace hany := Lib.hid hany
      go_upto_block 2 with (fail)
      go_cut [7] (fun vf wx => vf = .bool (covB l e) ∧ Ext wr wx)
      case first =>
        go_wp2_with fail
        go_loopw [7, 8] (fun vf vi wi => ∃ i : Nat, i ≤ N ∧ vi = .int .i64 i ∧ vf = .bool ((l.take i).any fun x => insB x e) ∧ Ext wr wi) (fun _ vi _ => N - (intOf vi).toNat)
        case atStart => exact ⟨0, by omega, rfl, rfl, Ext.rfl' _⟩
        case round =>
          obtain ⟨i, hi, rfl, rfl, hx⟩ := hrel
          have hxw := hM.ex.then hx
          by_cases hlti : i < N
          · obtain ⟨b, o, rfl, x0, x1, x2, x3, x4, x5, x6, x7, hbl2, hxI⟩ := ItvsR.at (hl.mono mono_ItvR hxw.ple) i (by rw [hN.out]; exact hlti)
            have hjb : decide (i < N) = true := decide_eq_true hlti
            have hcx := hce.out i (by rw [hN.out]; exact hlti) wr hxw
            have ha := hany.out i (by rw [hN.out]; exact hlti)
            generalize insB (l[i]'(by rw [hN.out]; exact hlti)) e = q at *
            generalize (l[i]'(by rw [hN.out]; exact hlti)) = x at *
            obtain ⟨⟨p1, p2⟩, ⟨p3, p4⟩, lO, rO, lI, rI⟩ := x
            unfold itA at hcx
            dsimp only at *
            generalize ((l.take i).any fun x => insB x e) = f0 at *
            replace hcx := Lib.hid hcx
            replace ha := Lib.hid ha
            go_wp2_with fail
            refine RetV_at hcx.out ?_
            intro w5 hx5
            cases f0 with
            | true =>
              go_wp2_with fail
              go_roundw
              case rel => exact ⟨i + 1, by omega, by go_num, by rw [ha.out]; simp, hx.then hx5⟩
              case measure => simp [intOf]; omega
            | false =>
              go_wp2_with fail
              go_roundw
              case rel => exact ⟨i + 1, by omega, by go_num, by rw [ha.out]; simp, hx.then hx5⟩
              case measure => simp [intOf]; omega
          · have hjb : decide (i < N) = false := by simpa using hlti
            have hiN : i = N := by omega
            subst hiN
            rw [← hcovd.out]
            go_wp2_with fail
            go_meet
            case rel => exact ⟨rfl, hx⟩
      case rest =>
        obtain ⟨rfl, hx⟩ := hcut
        generalize covB l e = cb at *
        have hM5 := (hM.ext hx).ext (Ext.new wc (.cells #[.bool cb] 4))
        have hS := Src.lit1 (H := noH) (E := BoolR) (sz := 1) (w := wc.alloc (.cells #[.bool cb] 4)) (b := wc.heap.size) (x := cb) (cs := [.bool cb]) rfl rfl (fun j => by rw [(Proofs.Ytmbkefgmiehdiaa.Own.new wc _ _).facts.1]; simp)
        clear hM
        go_wp2_with (first | (at_builtin; refine wpList_append_M 0 rfl _ _ 67 rfl Try.underlying67 infoBool rfl rfl rfl hM5 rfl hS one_BoolR (by simp; omega) (by simp; omega) ?e5))
        case e5 =>
          intro v' w' hM6
          try simp only [List.set_cons_zero, List.set_cons_succ] at hM6
          rw [hbs2.out] at hM6
          obtain ⟨a7, c7, rfl, -⟩ := hM6.form 0 rfl
          clear hM5 hS
          go_wp2_with fail
          go_roundw
          case rel => exact ⟨c + 1, _, by omega, by go_num, Lib.hid rfl, hM6⟩
          case measure => simp [intOf]; omega
    · have hi1 : ¬ (c : Int) ≤ 2 * (n : Int) := by omega
      have hw2 : IntKind.i64.wrap (2 * (n : Int)) = 2 * (n : Int) := wrap_id (by omega) (by omega)
      have hbs2 : bs = cellsL l ps := by rw [hbs.out, List.take_of_length_le (by rw [hcl.out]; omega)]
      rw [hbs2] at hM
      obtain ⟨a7, c7, rfl, -⟩ := hM.form 0 rfl
      clear hbs2
      go_wp2_with fail
      go_ret
      exact ⟨_, rfl, hM.ex, hM.rep 0 rfl⟩
end Go.Proofs.Ytmbkefgmiehdiaa
