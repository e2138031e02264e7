/- Lemmas for CB, part 14: package claims: the alternatives of a claim, and more. -/
import Derived.Deep.CutBlock
import Derived.Test.YtnpnjcaomakehaaGreatCB04
import Derived.Test.YtnpnjcaomakehaaGreatCB05
import Derived.Test.YtnpnjcaomakehaaGreatCB08
import Derived.Test.YtnpnjcaomakehaaGreatCB12
set_option linter.unusedSimpArgs false
set_option linter.unusedVariables false
namespace Go.Proofs.YtnpnjcaomakehaaGreat
open Go.RowKit Go.Shelf
attribute [local go_sem] Oper.semAt_some
section
variable {α : Type} {E : PH → List Value → α → Prop} {hm : Mono E} {sz : Nat} {T : TypeId} {v : Value} {xs ys : List α} {w0 w : World} {H0 H : PH} {L : List Chunk}
theorem oper_append_M4 {P : Program} {o : Oper} {a : Act} {K : Act → World → Prop} {Q : Exit → Act → World → Prop} (i : Nat) (s x : Operand) (t : TypeId)
    (ho : o.op = .call { callee := .builtin .append, args := #[s, x], argTypes := #[t, t] }) {z : Value} {bytes : Nat}
    (ht : P.underlying t = some (.slice T)) (hinfo : (P.info? T).map (fun i => (i.zero, i.size, i.bytes)) = some (some z, sz, bytes)) (hzs : z.cells.size = sz)
    {vx : Value} (hs : a.eval s = v) (hx : a.eval x = vx) (hS : Mem w0 H0 L H w) (hi : L[i]? = some (own hm sz T v xs)) (hsrc : Src w H E sz vx ys)
    (hone : ∀ cs x, E H cs x → ∀ u ∈ cs, u.oneCell' = true) (hbytes : (xs.length + ys.length) * bytes ≤ 140737488355328) (hcnt : xs.length + ys.length ≤ 140737488355328)
    (hn : ∀ v' w', Mem w0 H0 (L.set i (own hm sz T v' (xs ++ ys))) H w' → w.grownBy w' v.ownBlock → (∀ k, v'.ownBlock = some k → v.ownBlock = some k ∨ w.heap.size ≤ k) → K (a.put o.dst v') w') : o.wp P a w K Q := by
  obtain ⟨i', hi', hz0, hz1, hz2⟩ := info_parts hinfo
  obtain ⟨v', w', hr, h2, h3, h4⟩ := run_append_S (P := P) (w := w) t o.type T i' z bytes ht hi' hz0 hz1 hz2 hzs (hS.ownS i hi) hsrc hS.ple hS.ex.size hone hbytes hcnt
  unfold Oper.wp execOp
  simp only [ho, resolve, invoke, builtin, Sem.run_bind, Sem.run_pure, Result.andThen_ok, List.map_toArray, List.map_cons, List.map_nil, hs, hx, hr]
  exact hn _ _ (hS.put i hi (c' := own hm sz T v' (xs ++ ys)) h2.c h4 (hS.ex.grown h3 fun k hk => (hS.fr i _ hi k hk).1) fun k hk hne => h3.block k hk (fun e => hne e.symm)) h3 h4
end
def AccL (H : PH) (acc : List (Option Value)) (ms : List (Option (List Fm))) : Prop := acc.length = ms.length ∧
  ∀ k : Nat, (∃ a c l, (acc[k]?).join = some (.slice a l.length c) ∧ (ms[k]?).join = some l ∧ FmsR H (.slice a l.length c) l) ∨ ((acc[k]?).join = none ∧ (ms[k]?).join = none)
theorem AccL.mono {H H' : PH} {acc : List (Option Value)} {ms : List (Option (List Fm))} (h : AccL H acc ms) (hl : PLe H H') : AccL H' acc ms := by
  refine ⟨h.1, fun k => ?_⟩
  rcases h.2 k with ⟨a, c, l, h1, h2, h3⟩ | h1
  · exact .inl ⟨a, c, l, h1, h2, h3.mono mono_FmR hl⟩
  · exact .inr h1
theorem AccL.nil (H : PH) : AccL H [] [] := ⟨rfl, fun k => .inr (by simp)⟩
theorem AccL.snoc {H : PH} {acc : List (Option Value)} {ms : List (Option (List Fm))} (h : AccL H acc ms) {l : List Fm} {a : Option Addr} {c : Nat} (hf : FmsR H (.slice a l.length c) l) : AccL H (acc ++ [some (.slice a l.length c)]) (ms ++ [some l]) := by
  refine ⟨by simp [h.1], fun k => ?_⟩
  rw [get_snoc, get_snoc, ← h.1]
  split
  · exact h.2 k
  · split
    · exact .inl ⟨a, c, l, rfl, rfl, hf⟩
    · exact .inr ⟨rfl, rfl⟩
theorem AccL.skip {H : PH} {acc : List (Option Value)} {ms : List (Option (List Fm))} (h : AccL H acc ms) : AccL H (acc ++ [none]) (ms ++ [none]) := by
  refine ⟨by simp [h.1], fun k => ?_⟩
  rw [get_snoc, get_snoc, ← h.1]
  split
  · exact h.2 k
  · split <;> exact .inr ⟨rfl, rfl⟩
theorem AccL.get {H : PH} {acc : List (Option Value)} {ms : List (Option (List Fm))} (h : AccL H acc ms) (r : Int) :
    (∃ l a c, at? ms r = some l ∧ ((acc[r.toNat]?).join).getD (.slice none 0 0) = .slice a l.length c ∧ ((acc[r.toNat]?).join).isSome = true ∧ FmsR H (.slice a l.length c) l) ∨
    (at? ms r = none ∧ ((acc[r.toNat]?).join).getD (.slice none 0 0) = .slice none 0 0 ∧ ((acc[r.toNat]?).join).isSome = false) := by
  rcases h.2 r.toNat with ⟨a, c, l, h1, h2, h3⟩ | ⟨h1, h2⟩
  · exact .inl ⟨l, a, c, by unfold at?; exact h2, by rw [h1]; rfl, by rw [h1]; rfl, h3⟩
  · exact .inr ⟨by unfold at?; exact h2, by rw [h1]; rfl, by rw [h1]; rfl⟩
theorem zeroFms (w : World) : (zeroValue 45).run Tryz.prog w = .ok (.slice none 0 0) w := by kernel_rfl
theorem Mem.all {w : World} {c : Chunk} (h : c.ok noH w) : Mem { w with heap := #[] } noH [c] noH w :=
  ⟨noH_le _, noH_le _, noH_le _, ⟨rfl, rfl, rfl, Nat.zero_le _, fun k hk => by simp at hk⟩, fun i d hi => by
    cases i with
    | zero => cases hi; exact h
    | succ i => simp at hi, fun i d hi k hk => ⟨Nat.zero_le _, rfl⟩, fun i j c d hij hi hj k hk hk' => by
    cases i with
    | zero => cases j with
      | zero => exact hij rfl
      | succ j => simp at hj
    | succ i => simp at hi⟩
theorem below_of_ext {w A B : World} (h : Ext w A) (k : Ext w B) (hs : A.heap.size ≤ B.heap.size) : Below w.heap.size A B :=
  ⟨k.os.trans h.os.symm, k.tape.trans h.tape.symm, k.output.trans h.output.symm, hs, fun i hi => by rw [h.block i hi]; exact k.block i hi⟩
def AltI (w : World) (H0 : PH) (cs : Array Value) (pre : List (FmA H0)) (W : World) : Prop :=
  ∃ v, Mem w H0 [box w.heap.size cs 58, box (w.heap.size + 1) #[v] 45, own mono_FmR 4 50 v (fmsOf pre)] H0 W
theorem altL_isC (w : World) (cs : Array Value) (v : Value) (l : List Fm) : ∀ c ∈ [box w.heap.size cs 58, box (w.heap.size + 1) #[v] 45, own mono_FmR 4 50 v l], c.isC := by
  intro c hc
  simp only [List.mem_cons, List.not_mem_nil, or_false] at hc
  rcases hc with rfl | rfl | rfl
  · exact isC_box _ _ _
  · exact isC_box _ _ _
  · exact isC_own _ _ _ _ _
theorem AltI.from (w : World) (H0 : PH) (cs : Array Value) (n : Nat) (hH : PLe H0 (ph w)) (hn : w.heap.size ≤ n) : OwnFrom n (AltI w H0 cs) := by
  rintro pre A B row ⟨v, hM⟩ hg hr
  exact ⟨v, hM.ownFromH (altL_isC _ _ _ _) (fun k o hk => Nat.lt_of_lt_of_le (ph_lt (hH k o hk)) hn) hn hg hr⟩
theorem alt_round {w W W5 : World} {H0 : PH} {cs : Array Value} {n : Nat} {pre : List (FmA H0)} {y : FmA H0} {v v' : Value}
    (hM : Mem w H0 [box w.heap.size cs 58, box (w.heap.size + 1) #[v] 45, own mono_FmR 4 50 v (fmsOf pre)] H0 W)
    (hM5 : Mem w H0 [box w.heap.size cs 58, box (w.heap.size + 1) #[v'] 45, own mono_FmR 4 50 v' (fmsOf pre ++ [y.1.2])] H0 W5)
    (hko : KeepsOthers W W5) (hs : W.heap.size ≤ W5.heap.size) (hk : ∀ k, k < W.heap.size → k ≠ w.heap.size + 1 → v.ownBlock ≠ some k → W5.heap[k]? = W.heap[k]?)
    (hv : ∀ k, v'.ownBlock = some k → v.ownBlock = some k ∨ W.heap.size ≤ k) : KeepsFrom n W W5 ∧ Kx w.heap.size (w.heap.size + 1) W W5 ∧ AltI w H0 cs (pre ++ [y]) W5 := by
  refine ⟨hko.from _, Kx.turn (hM.box 1 rfl) (hM5.box 1 rfl) (below_of_ext hM.ex hM5.ex hs) hs hk hv (fun k hk' => hM5.lt (i := 2) rfl hk'), v', ?_⟩
  rw [fmsOf_app]; exact hM5
abbrev zeroFc : Array Value := #[.int .i64 0, .int .i64 0, .slice none 0 0, .slice none 0 0]
theorem Mem.fillNop {w0 w w' : World} {H0 H : PH} {L : List Chunk} (h : Mem w0 H0 L H w) (i : Nat) (hi : L[i]? = some nop) (e : Ext w w') {g : Nat} {c : Array Value} {T : TypeId} (ho : Own w' g c T) (hg : w.heap.size ≤ g) : Mem w0 H0 (L.set i (Proofs.YtnpnjcaomakehaaGreat.box g c T)) H w' :=
  h.put i hi (c' := Proofs.YtnpnjcaomakehaaGreat.box g c T) ho (fun k hk => .inr (by cases hk; exact hg)) (h.ex.then e) fun k hk _ => e.block k hk
theorem prodsF_snoc (l : List Fm) (i : Nat) (h : i < l.length) (ts : List Fm) : prodsF (l.take (i + 1)) ts = prodsF (l.take i) ts ++ ts.map fun b => bothF l[i] b := by
  unfold prodsF
  rw [List.take_succ_eq_append_getElem h, List.flatMap_append]; simp
theorem both_bulk {a b : Fm} (ha : a.bulk ≤ 3168) (hb : b.bulk ≤ 3168) : (bothF a b).bulk ≤ 900000 := by
  have h : ∀ {f : Fm}, f.bulk ≤ 3168 → sumN Fm.bulk (partsF f) ≤ 3168 := by
    intro f hf
    unfold partsF
    split
    · rw [Fm.bulk_eq] at hf; omega
    · simpa [sumN] using hf
  have h1 := h ha
  have h2 := h hb
  have e : sumN Fm.bulk (partsF a ++ partsF b) = sumN Fm.bulk (partsF a) + sumN Fm.bulk (partsF b) := by
    induction partsF a with
    | nil => simp [sumN]
    | cons x xs ih => simp only [List.cons_append, sumN, ih]; omega
  unfold bothF
  rw [Fm.bulk_eq]
  simp only [Fm.inn, Fm.kids, List.length_nil]
  omega
theorem parts_len {f : Fm} (h : validF f = 0) : (partsF f).length ≤ 96 := by
  obtain ⟨h1, -, -⟩ := validF_0 h
  unfold partsF
  split
  · have := length_le_sumN Fm.size f.kids fun x _ => x.size_pos
    rw [Fm.size_eq] at h1; omega
  · simp
theorem lists2 {H : PH} {wx : World} {va vb : Value} {pa pb : List Fm} (hl : PLe H (ph wx)) (ha : FmsR H va pa) (hb : FmsR H vb pb) (T : TypeId) : SliceRep LlR 1 (up H wx (wx.alloc (.cells #[va, vb] T))) (.slice (some ⟨wx.heap.size, 0, none⟩) 2 2) [pa, pb] := by
  have hu : PLe H (up H wx (wx.alloc (.cells #[va, vb] T))) := ple_up hl
  have hM := ((Mem.start wx H hl).new' #[va, vb] T (n := wx.heap.size) rfl).asOwn 0 rfl mono_LlR (sz := 1) (xs := [pa, pb]) (n := 2) (by simp) (by simp [maxLen]) rfl ⟨[va], [vb], rfl, rfl, ⟨va, rfl, ha⟩, [vb], [], rfl, rfl, ⟨vb, rfl, hb⟩, rfl⟩
  exact hM.repUp 0 rfl
def BothJ (w : World) (H0 H3 : PH) (base : List Chunk) (pa pb : List Fm) : Pj.Inv := fun dn s wx => ∃ (H : PH) (b : Nat), PLe H3 H ∧ Mem w H0 (base ++ [if dn 7 then box b zeroFc 50 else nop]) H wx ∧ (dn 7 = true → s 17 = .pointer (some ⟨b, 0, none⟩)) ∧
  (dn 1 = true → FmsR H (s 75) pa) ∧ (dn 3 = true → FmsR H (s 77) pb) ∧ (dn 4 = true → SliceRep LlR 1 H (s 78) [pa, pb]) ∧ (dn 5 = true → FmsR H (s 79) (pa ++ pb)) ∧
  (dn 6 = true → ∃ a n c, s 80 = .agg #[.int .i64 4, .int .i64 0, .slice none 0 0, .slice a n c] ∧ FmsR H (.slice a n c) (pa ++ pb))
theorem BothJ.up {w wx w' : World} {H0 H3 : PH} {base : List Chunk} {pa pb : List Fm} {dn : Nat → Bool} {s : Pj.St} (h : BothJ w H0 H3 base pa pb dn s wx) (e : Ext wx w') : ∃ (H : PH) (b : Nat), PLe H3 H ∧ Mem w H0 (base ++ [if dn 7 then box b zeroFc 50 else nop]) (up H wx w') w' ∧ PLe H (ph wx) ∧ (dn 7 = true → s 17 = .pointer (some ⟨b, 0, none⟩)) ∧
  (dn 1 = true → FmsR H (s 75) pa) ∧ (dn 3 = true → FmsR H (s 77) pb) ∧ (dn 4 = true → SliceRep LlR 1 H (s 78) [pa, pb]) ∧ (dn 5 = true → FmsR H (s 79) (pa ++ pb)) ∧
  (dn 6 = true → ∃ a n c, s 80 = .agg #[.int .i64 4, .int .i64 0, .slice none 0 0, .slice a n c] ∧ FmsR H (.slice a n c) (pa ++ pb)) := by
  obtain ⟨H, b, h1, h2, h3⟩ := h
  exact ⟨H, b, h1, h2.up e, h2.ple, h3⟩
def AltP (w : World) (H0 : PH) (r : Option (List Fm)) (e : Ending) (w' : World) : Prop := ∃ v, e = .returned (.tuple #[v, .bool r.isSome]) ∧ Ext w w' ∧ ∀ l, r = some l → FmsR (up H0 w w') v l
set_option maxRecDepth 100000 in
set_option maxHeartbeats 8000000 in
theorem alternatives_in {H0 : PH} (x : Cl) (cs : List Value) (acc : List (Option Value)) (ms : List (Option (List Fm))) (mb : Nat) (w : World) (hH : PLe H0 (ph w)) (hr : ClR H0 cs x) (hv : validF x.body = 0) (hlen : x.refs.length ≤ 8) (hri : ∀ r ∈ x.refs, 0 ≤ r ∧ r ≤ 9223372036854775807)
    (hT : (tabM mb acc).ok noH w) (hA : AccL H0 acc ms) (hmv : ∀ r l, at? ms r = some l → l.length ≤ 64 ∧ ∀ f ∈ l, validF f = 0) :
    CallsIn Fence.wide 7 Tryz.prog 82 #[.agg cs.toArray, .map (some mb)] w (AltP w H0 (altOf ms x)) := by
  obtain ⟨a1, c1, a3, c3, a4, c4, rfl, hrl, hrf, hE⟩ := hr.form
  obtain ⟨b1, b2, b3⟩ := validF_0 hv
  have hbody := valid_bulk hv
  have htl := topsF_len x.body
  have hlow : ∀ k o, H0 k = some o → k < w.heap.size := fun k o hk => ph_lt (hH k o hk)
  refine callsIn_of_wp_marks Tryz.func82 rfl trivial ?_ rfl
  simp only [Tryz.ntmps82, List.size_toArray, List.length_cons, List.length_nil, Nat.reduceAdd, Nat.reduceSub, Array.replicate_succ, Array.replicate_zero, List.push_toArray, List.append_toArray, List.nil_append, List.cons_append]
  refine wpIn_wide.2 ?_
  unfold clC
  have hW0 : Ext w ((w.alloc (.cells #[.slice a1 x.refs.length c1, .int .i64 x.body.op, .int .i64 x.body.n, .slice a3 x.body.inn.length c3, .slice a4 x.body.kids.length c4] 58)).alloc (.cells #[.slice none 0 0] 45)) := xE
  have hM0 := (((Mem.start w H0 hH).new' #[.slice a1 x.refs.length c1, .int .i64 x.body.op, .int .i64 x.body.n, .slice a3 x.body.inn.length c3, .slice a4 x.body.kids.length c4] 58 (n := w.heap.size) rfl).new' #[.slice none 0 0] 45 (n := w.heap.size + 1) (by simp)).nil mono_FmR 4 50
  simp only [List.cons_append, List.nil_append] at hM0
  have hsz : ((w.alloc (.cells #[.slice a1 x.refs.length c1, .int .i64 x.body.op, .int .i64 x.body.n, .slice a3 x.body.inn.length c3, .slice a4 x.body.kids.length c4] 58)).alloc (.cells #[.slice none 0 0] 45)).heap.size = w.heap.size + 1 + 1 := by simp
  go_wp2_with fail
  refine (tops_p x.body _ _ (mono_FmR _ _ _ _ (hH.trans hW0.ple) hE)).mono ?_
  rintro e w' ⟨rfl, rfl⟩
  go_wp2_with fail
  refine (wpIn_wide (n := 7)).1 ?_
  generalize (w.alloc (.cells #[.slice a1 x.refs.length c1, .int .i64 x.body.op, .int .i64 x.body.n, .slice a3 x.body.inn.length c3, .slice a4 x.body.kids.length c4] 58)).alloc (.cells #[.slice none 0 0] 45) = W1 at *
  have hB2 := Proofs.YtnpnjcaomakehaaGreat.Own.new' W1 (fmC x.body a3 c3 a4 c4).toArray 50 (n := w.heap.size + 1 + 1) hsz.symm
  have hM1 := hM0.ext (Ext.new W1 (.cells (fmC x.body a3 c3 a4 c4).toArray 50))
  have hx1 : Ext w (W1.alloc (.cells (fmC x.body a3 c3 a4 c4).toArray 50)) := hM1.ex
  have hsz1 : (W1.alloc (.cells (fmC x.body a3 c3 a4 c4).toArray 50)).heap.size = w.heap.size + 1 + 1 + 1 := by simp [hsz]
  unfold fmC at hB2 hM1 hx1 hsz1 ⊢
  generalize W1.alloc _ = W0 at *
  clear hM0 hW0 hsz
  have hEE := hE
  unfold fmC at hE
  refine wpIn_rangeFunc_ownH rfl (by omega) (gf := 140) (lb := #[.pointer (some ⟨w.heap.size + 1 + 1, 0, none⟩)]) rfl trivial (enters_of Tryz.func140 (by kernel_rfl) rfl)
    (encs := fun y : FmA H0 => #[.agg y.1.1.toArray]) (Kp := Kx w.heap.size (w.heap.size + 1)) (S := fun ys => fmsOf ys = topsF x.body) (Sp := fun p => fmsOf p <+: topsF x.body) (N := (topsF x.body).length)
    (w0 := W0) (tops_seq (by omega) (Good.of (hM1.box 1 rfl) rfl) (hH.trans hx1.ple) hlow (by omega) hB2 hE) Kx.then (Kx.put (by omega) (by omega)) (Below.refl _ _) (fun _ => rfl)
    (AltI w H0 #[.slice a1 x.refs.length c1, .int .i64 x.body.op, .int .i64 x.body.n, .slice a3 x.body.inn.length c3, .slice a4 x.body.kids.length c4]) (fun c pre W => False) (AltI.from _ _ _ _ hH (by omega)) (fun c pre A B row h _ _ => h) ⟨_, hM1⟩
    (NodeA (fun y Bx => #[.agg #[.slice a1 x.refs.length c1, .int .i64 x.body.op, .int .i64 x.body.n, .slice a3 x.body.inn.length c3, .slice a4 x.body.kids.length c4], .map (some mb), .pointer (some ⟨w.heap.size, 0, none⟩), undef, .slice none 0 0, .bool false, .pointer (some ⟨w.heap.size + 1, 0, none⟩), .slice none 0 0, .pointer (some ⟨Bx, 0, none⟩), undef, undef, undef, undef, undef, undef, undef, undef, undef, .pointer (some ⟨w.heap.size, 1, none⟩), .agg #[.int .i64 x.body.op, .int .i64 x.body.n, .slice a3 x.body.inn.length c3, .slice a4 x.body.kids.length c4], .func (.func 140) #[] #[.pointer (some ⟨w.heap.size + 1 + 1, 0, none⟩)], .agg y.1.1.toArray, undef, undef, undef, undef, undef, undef, undef, undef, undef, undef, undef, undef, undef, undef, undef, undef, undef, undef, undef, undef, undef, undef, undef, undef, undef, undef, undef, undef, undef, undef, undef, undef, undef, undef, undef, undef, undef, undef, undef, undef, undef, undef, undef, undef, undef, undef, undef, undef, undef, undef, undef, undef, undef, undef, undef, undef, undef, undef, undef, undef, undef, undef, undef, undef, undef, undef, undef, undef, undef, undef])) (NodeA.from _ _) ?assign ?body ?done ?stop
  case stop => rintro D c pre W hD hpre h; exact h.elim
  case assign =>
    rintro l pre ⟨⟨cs, g⟩, hg⟩ W K ⟨v, hM⟩ hK
    replace hg : FmR H0 cs g := hg
    obtain ⟨b3, d3, b4, d4, rfl, -⟩ := hg.form
    unfold fmC at *
    have hk1 := Kx.ext (n₀ := w.heap.size) (Bo := w.heap.size + 1) (Ext.new W (.cells #[.int .i64 g.op, .int .i64 g.n, .slice b3 g.inn.length d3, .slice b4 g.kids.length d4] 50)) (hM.box 1 rfl).lt hM.ex.size
    have hM2 := hM.ext (Ext.new W (.cells #[.int .i64 g.op, .int .i64 g.n, .slice b3 g.inn.length d3, .slice b4 g.kids.length d4] 50))
    have h1 := (KeepsOthers.alloc W (.cells #[.int .i64 g.op, .int .i64 g.n, .slice b3 g.inn.length d3, .slice b4 g.kids.length d4] 50)).from W0.heap.size
    have h4 := Proofs.YtnpnjcaomakehaaGreat.Own.new W #[.int .i64 g.op, .int .i64 g.n, .slice b3 g.inn.length d3, .slice b4 g.kids.length d4] 50
    have h5 : W.heap.size < (W.alloc (.cells #[.int .i64 g.op, .int .i64 g.n, .slice b3 g.inn.length d3, .slice b4 g.kids.length d4] 50)).heap.size := by simp
    gi_wp2
    generalize W.heap.size = Bx at *
    exact hK _ _ h1 hk1 ⟨v, hM2⟩ ⟨Bx, h5, h4, rfl⟩
  case body =>
    rintro l pre ⟨⟨cs, g⟩, hg⟩ a' W hl ⟨r, hrr⟩ ⟨v, hM⟩ ⟨Bx, hBx, oX, rfl⟩ hlt
    have hg0 : FmR H0 cs g := hg
    replace hg : FmR H0 cs g := hg
    obtain ⟨b3, d3, b4, d4, rfl, -⟩ := hg.form
    unfold fmC at *
    dsimp only at oX
    obtain ⟨va, vc, rfl, -⟩ := hM.form 2 rfl
    obtain ⟨cX, -⟩ := oX.facts
    have x0 : _ = some (Value.int .i64 g.op) := cX 0
    have x1 : _ = some (Value.int .i64 g.n) := cX 1
    have x2 : _ = some (Value.slice b3 g.inn.length d3) := cX 2
    have x3 : _ = some (Value.slice b4 g.kids.length d4) := cX 3
    have c6 : _ = some (Value.slice va (fmsOf pre).length vc) := (hM.box 1 rfl).facts.1 0
    have ul := (hM.box 1 rfl).lt
    have hpl : (fmsOf pre).length ≤ 96 := by rw [fmsOf_len]; omega
    have hy : ∀ (h : FmR H0 [.int .i64 g.op, .int .i64 g.n, .slice b3 g.inn.length d3, .slice b4 g.kids.length d4] g), (⟨([.int .i64 g.op, .int .i64 g.n, .slice b3 g.inn.length d3, .slice b4 g.kids.length d4], g), h⟩ : FmA H0).1.2 = g := fun _ => rfl
    clear cX hr
    gi_wp2
    refine wpIn_region_any (by kernel_rfl) (wpAny_in (noDefer_of (by kernel_rfl)) _ _ _ _ (wpAny_region_J 4 (by kernel_rfl) ?_))
    simp only [List.toList_toArray, List.take_succ_cons, List.take_zero]
    iterate 3 (refine wiA rfl (by simp) rfl ?_; (try simp only [List.nil_append, List.cons_append]))
    (refine walkI_step (NewSl W zeroFc 50 1) rfl (by simp) rfl (stab_NewSl _ _ _ _) ?_ ?_; (focus (intro A w' hS hA K hK; (simp only [List.map_cons, List.map_nil, knows, Is, Op.operands, Call.operands, List.lookup_cons, List.lookup_nil, Nat.reduceBEq, Bool.false_eq_true, if_false, if_true, Act.eval, Array.getD_eq_getD_getElem?, List.getElem?_toArray, List.getElem?_cons_succ, List.getElem?_cons_zero, Option.getD_some, and_true, true_and, List.append_toArray, List.nil_append, List.cons_append, List.toList_toArray, Array.toList_append, Option.toArray, List.append_nil] at hA); (have hs' := hS.size; go_simp; exact hK _ _ (Ext.new _ _) ⟨_, rfl, Own.new _ _ _, by omega⟩))); (try simp only [List.nil_append, List.cons_append]))
    (refine walkI_nil ?_; simp only [List.nil_append, List.cons_append, fins, Is, forall_eq, Act.put, List.setIfInBounds_toArray, List.set_cons_zero, List.set_cons_succ])
    rintro W2 hx2 v25 ⟨gz, rfl, hoz, hgz⟩
    have hM1 := hM.ext hx2
    have hS := Src.lit1 (H := H0) (E := FmR) (sz := 4) (w := W2) (b := gz) (x := noF) (cs := fmC noF none 0 none 0) (noF_R _) rfl (fun j => by rw [hoz.facts.1]; simp [fmC, noF, Fm.op, Fm.n, Fm.inn, Fm.kids])
    refine wpAny_ready (rs := [4]) (by kernel_rfl) (by simp) ?_; refine AllReady.cons rfl (fun K hK => ?_) AllReady.nil
    refine oper_append_M4 (hm := mono_FmR) (v := .slice va (fmsOf pre).length vc) (xs := fmsOf pre) (ys := [noF]) 2 _ _ 45 rfl Tryz.underlying45 infoFm rfl rfl rfl hM1 rfl hS one_FmR (by simp; omega) (by simp; omega) ?_
    intro v' W3 hM3 hgr3 how3
    refine hK _ _ ?_
    clear hK K
    try simp only [List.set_cons_succ, List.set_cons_zero] at hM3
    obtain ⟨g3, p3, cs3, rfl, -, -, -, hg3l⟩ := hM3.get 2 rfl (fmsOf pre).length (by simp)
    obtain ⟨lg, fg, ug⟩ := hM3.row4_f 2 rfl (fmsOf pre).length (by simp)
    obtain ⟨u0, hu0⟩ := ug 0 (by omega)
    obtain ⟨u1, hu1⟩ := ug 1 (by omega)
    obtain ⟨u2, hu2⟩ := ug 2 (by omega)
    obtain ⟨u3, hu3⟩ := ug 3 (by omega)
    rw [Nat.add_zero] at hu0
    have hne3 : g3 ≠ w.heap.size + 1 := fun e => hM3.ap 2 1 _ _ (by omega) rfl rfl g3 rfl (by rw [e]; rfl)
    have hv3 : ∀ k, k < W.heap.size → k = g3 → (Value.slice va (fmsOf pre).length vc).ownBlock = some k := by
      rintro k hk rfl
      rcases how3 k rfl with h | h
      · exact h
      · have := hx2.size; omega
    have hko3 : KeepsOthers W W3 := (KeepsOthers.of_grownBy (Ext.grownG' hx2 none) (fun j o e => by cases e)).trans (hM1.keeps 2 rfl hgr3).1
    have hs3 : W.heap.size ≤ W3.heap.size := Nat.le_trans hx2.size hgr3.size
    have hb3 : ∀ k, k < W.heap.size → (Value.slice va (fmsOf pre).length vc).ownBlock ≠ some k → W3.heap[k]? = W.heap[k]? := fun k hk hn => by
      rw [hgr3.block k (Nat.lt_of_lt_of_le hk hx2.size) (fun e => hn e.symm), hx2.block k hk]
    have hll : (fmsOf pre ++ [noF]).length = (fmsOf pre).length + 1 := by simp
    have hset : (fmsOf pre ++ [noF]).set (fmsOf pre).length g = fmsOf pre ++ [g] := by rw [List.set_append_right _ _ (Nat.le_refl _)]; simp
    rw [hll] at hM3 ⊢
    generalize hN : (fmsOf pre).length = N at *
    replace hN := Lib.hid hN
    replace hll := Lib.hid hll
    clear hM1 hS hoz hgz ug hx2 x0 x1 x2 x3 oX
    have hq1 : (N : Int) < (N : Int) + 1 := by omega
    (refine wpAny_take (i := 5) (v := ?_) rfl (by kernel_rfl) (by kernel_rfl) (by kernel_rfl) (fun _ _ _ h => h) (Or.inl ⟨by rfl, ?_⟩) ?_; rotate_left; (focus ((intro w; go_simp); try (with_reducible rfl))); (try simp only [Act.put, List.setIfInBounds_toArray, List.set_cons_zero, List.set_cons_succ]))
    refine wpAny_ready (rs := [6, 7]) (by kernel_rfl) (by simp) ?_
    refine AllReady.cons rfl (fun K hK => ?_) (AllReady.cons rfl (fun K hK => ?_) AllReady.nil)
    · go_simp
      refine hK _ _ ?_
      clear hK K
      have hM4 := hM3.row4 2 rfl N (by rw [hll.out]; omega) hg0
      have hko4 := (((hko3.trans (KeepsOthers.setCell _ ⟨g3, N * 4, none⟩ (.int .i64 g.op))).trans (KeepsOthers.setCell _ ⟨g3, N * 4 + 1, none⟩ (.int .i64 g.n))).trans (KeepsOthers.setCell _ ⟨g3, N * 4 + 2, none⟩ (.slice b3 g.inn.length d3))).trans (KeepsOthers.setCell _ ⟨g3, N * 4 + 3, none⟩ (.slice b4 g.kids.length d4))
      have hs4 : ((((W3.setCell ⟨g3, N * 4, none⟩ (.int .i64 g.op)).setCell ⟨g3, N * 4 + 1, none⟩ (.int .i64 g.n)).setCell ⟨g3, N * 4 + 2, none⟩ (.slice b3 g.inn.length d3)).setCell ⟨g3, N * 4 + 3, none⟩ (.slice b4 g.kids.length d4)).heap.size = W3.heap.size := by simp
      have hb4 : ∀ k, k ≠ g3 → ((((W3.setCell ⟨g3, N * 4, none⟩ (.int .i64 g.op)).setCell ⟨g3, N * 4 + 1, none⟩ (.int .i64 g.n)).setCell ⟨g3, N * 4 + 2, none⟩ (.slice b3 g.inn.length d3)).setCell ⟨g3, N * 4 + 3, none⟩ (.slice b4 g.kids.length d4)).heap[k]? = W3.heap[k]? := fun k hk => by
        rw [Below.heap_setCell _ _ _ _ (by simpa using hk), Below.heap_setCell _ _ _ _ (by simpa using hk), Below.heap_setCell _ _ _ _ (by simpa using hk), Below.heap_setCell _ _ _ _ (by simpa using hk)]
      simp only [List.set_cons_succ, List.set_cons_zero] at hM4
      rw [hset] at hM4
      generalize ((((W3.setCell ⟨g3, N * 4, none⟩ (.int .i64 g.op)).setCell ⟨g3, N * 4 + 1, none⟩ (.int .i64 g.n)).setCell ⟨g3, N * 4 + 2, none⟩ (.slice b3 g.inn.length d3)).setCell ⟨g3, N * 4 + 3, none⟩ (.slice b4 g.kids.length d4)) = W4 at *
      clear hu0 hu1 hu2 hu3 c6 fg ul
      have c6 : _ = some (Value.slice va N vc) := (hM4.box 1 rfl).facts.1 0
      have f6 := (hM4.box 1 rfl).facts.2 0
      have ul := (hM4.box 1 rfl).lt
      (refine wpAny_ready (rs := [7]) (by kernel_rfl) (by simp) ?_; refine AllReady.cons rfl (fun K hK => ?_) AllReady.nil; go_simp; refine hK _ _ ?_; clear hK K)
      have hM5 := hM4.set 1 rfl 0 (.slice (some ⟨g3, 0, none⟩) (N + 1) p3)
      simp only [List.set_cons_succ, List.set_cons_zero, List.setIfInBounds_toArray] at hM5
      refine wpAny_done (by kernel_rfl) ?_ _
      show Exit.inBlock 1 _ .normal _ _
      gi_wp2
      refine alt_round (y := ⟨_, hg0⟩) hM hM5 (hko4.trans (KeepsOthers.setCell _ _ _)) (by simp; omega) (fun k hk h1 h2 => ?_) (fun k hk => ?_)
      · rw [Below.heap_setCell _ _ _ _ (by simpa using h1)]
        by_cases hkg : k = g3
        · exact absurd (hv3 k hk hkg) h2
        · rw [hb4 k hkg]; exact hb3 k hk h2
      · obtain rfl : g3 = k := by simpa [Value.ownBlock] using hk
        by_cases hkg : g3 < W.heap.size
        · exact .inl (hv3 g3 hkg rfl)
        · exact .inr (by omega)
    · clear c6
      have c6 : _ = some (Value.slice va N vc) := (hM3.box 1 rfl).facts.1 0
      have f6 := (hM3.box 1 rfl).facts.2 0
      have ul := (hM3.box 1 rfl).lt
      go_simp
      refine hK _ _ ?_
      clear hK K
      have hM4 := hM3.set 1 rfl 0 (.slice (some ⟨g3, 0, none⟩) (N + 1) p3)
      simp only [List.set_cons_succ, List.set_cons_zero, List.setIfInBounds_toArray] at hM4
      have hko4 := hko3.trans (KeepsOthers.setCell _ ⟨w.heap.size + 1, 0, none⟩ (.slice (some ⟨g3, 0, none⟩) (N + 1) p3))
      have hs4 : (W3.setCell ⟨w.heap.size + 1, 0, none⟩ (.slice (some ⟨g3, 0, none⟩) (N + 1) p3)).heap.size = W3.heap.size := by simp
      have hb4 : ∀ k, k ≠ w.heap.size + 1 → (W3.setCell ⟨w.heap.size + 1, 0, none⟩ (.slice (some ⟨g3, 0, none⟩) (N + 1) p3)).heap[k]? = W3.heap[k]? := fun k hk => Below.heap_setCell _ _ _ _ (by simpa using hk)
      generalize W3.setCell ⟨w.heap.size + 1, 0, none⟩ (.slice (some ⟨g3, 0, none⟩) (N + 1) p3) = W4 at *
      clear hu0 hu1 hu2 hu3 c6 fg f6 ul lg
      obtain ⟨lg, fg, ug⟩ := hM4.row4_f 2 rfl N (by rw [hll.out]; omega)
      obtain ⟨u0, hu0⟩ := ug 0 (by omega)
      obtain ⟨u1, hu1⟩ := ug 1 (by omega)
      obtain ⟨u2, hu2⟩ := ug 2 (by omega)
      obtain ⟨u3, hu3⟩ := ug 3 (by omega)
      rw [Nat.add_zero] at hu0
      clear ug
      (refine wpAny_ready (rs := [6]) (by kernel_rfl) (by simp) ?_; refine AllReady.cons rfl (fun K hK => ?_) AllReady.nil; go_simp; refine hK _ _ ?_; clear hK K)
      have hM5 := hM4.row4 2 rfl N (by rw [hll.out]; omega) hg0
      have hko5 := (((hko4.trans (KeepsOthers.setCell _ ⟨g3, N * 4, none⟩ (.int .i64 g.op))).trans (KeepsOthers.setCell _ ⟨g3, N * 4 + 1, none⟩ (.int .i64 g.n))).trans (KeepsOthers.setCell _ ⟨g3, N * 4 + 2, none⟩ (.slice b3 g.inn.length d3))).trans (KeepsOthers.setCell _ ⟨g3, N * 4 + 3, none⟩ (.slice b4 g.kids.length d4))
      have hb5 : ∀ k, k ≠ g3 → ((((W4.setCell ⟨g3, N * 4, none⟩ (.int .i64 g.op)).setCell ⟨g3, N * 4 + 1, none⟩ (.int .i64 g.n)).setCell ⟨g3, N * 4 + 2, none⟩ (.slice b3 g.inn.length d3)).setCell ⟨g3, N * 4 + 3, none⟩ (.slice b4 g.kids.length d4)).heap[k]? = W4.heap[k]? := fun k hk => by
        rw [Below.heap_setCell _ _ _ _ (by simpa using hk), Below.heap_setCell _ _ _ _ (by simpa using hk), Below.heap_setCell _ _ _ _ (by simpa using hk), Below.heap_setCell _ _ _ _ (by simpa using hk)]
      have hs5 : ((((W4.setCell ⟨g3, N * 4, none⟩ (.int .i64 g.op)).setCell ⟨g3, N * 4 + 1, none⟩ (.int .i64 g.n)).setCell ⟨g3, N * 4 + 2, none⟩ (.slice b3 g.inn.length d3)).setCell ⟨g3, N * 4 + 3, none⟩ (.slice b4 g.kids.length d4)).heap.size = W4.heap.size := by simp
      simp only [List.set_cons_succ, List.set_cons_zero] at hM5
      rw [hset] at hM5
      generalize ((((W4.setCell ⟨g3, N * 4, none⟩ (.int .i64 g.op)).setCell ⟨g3, N * 4 + 1, none⟩ (.int .i64 g.n)).setCell ⟨g3, N * 4 + 2, none⟩ (.slice b3 g.inn.length d3)).setCell ⟨g3, N * 4 + 3, none⟩ (.slice b4 g.kids.length d4)) = W5 at *
      refine wpAny_done (by kernel_rfl) ?_ _
      show Exit.inBlock 1 _ .normal _ _
      gi_wp2
      refine alt_round (y := ⟨_, hg0⟩) hM hM5 hko5 (by omega) (fun k hk h1 h2 => ?_) (fun k hk => ?_)
      · by_cases hkg : k = g3
        · exact absurd (hv3 k hk hkg) h2
        · rw [hb5 k hkg, hb4 k h1]; exact hb3 k hk h2
      · obtain rfl : g3 = k := by simpa [Value.ownBlock] using hk
        by_cases hkg : g3 < W.heap.size
        · exact .inl (hv3 g3 hkg rfl)
        · exact .inr (by omega)
  case done =>
    rintro D zs W hD hz ⟨v, hM⟩ hK
    rw [hz] at hM
    have hHD : H0 D = none := by
      cases hx : H0 D with
      | none => rfl
      | some o => have := hlow D o hx; omega
    have hN := hM.addRawH (altL_isC _ _ _ _) (by omega) hHD hK rfl
    simp only [List.cons_append, List.nil_append] at hN
    obtain ⟨va, vc, rfl, -⟩ := hN.form 2 rfl
    have hao : Hid (altOf ms x = if x.refs = [] then (if (topsF x.body).length ≤ 64 then some (topsF x.body) else none) else altGo ms (topsF x.body) [] x.refs) := rfl
    have htv : ∀ f ∈ topsF x.body, validF f = 0 := fun f hf => validF_pre hv (topsF_mem _ f hf)
    have htl2 : (topsF x.body).length ≤ 96 := by omega
    clear hz hM hE hEE hM1 hx1 hB2 hr hK
    generalize topsF x.body = ts at *
    have c0 : _ = some (Value.slice a1 x.refs.length c1) := (hN.box 0 rfl).facts.1 0
    have c6 : _ = some (Value.slice va ts.length vc) := (hN.box 1 rfl).facts.1 0
    have l0 := (hN.box 0 rfl).lt
    have l6 := (hN.box 1 rfl).lt
    by_cases hre : x.refs = []
    · have b1' : ((x.refs.length : Int) == 0) = true := by rw [hre]; rfl
      have hao2 : Hid (altOf ms x = if ts.length ≤ 64 then some ts else none) := by show _ = _; rw [hao.out, if_pos hre]
      clear hao hre
      gi_wp2
      go_wp2_with fail
      (refine wp_region_I 6 (by kernel_rfl) (by kernel_rfl) ?_; simp only [List.toList_toArray, List.take_succ_cons, List.take_zero, List.drop_succ_cons, List.drop_zero])
      iterate 6 (refine wiA rfl (by simp) rfl ?_; (try simp only [List.nil_append, List.cons_append]))
      (refine walkI_nil ?_; simp only [List.nil_append, List.cons_append, fins, Is, forall_eq, Act.put, List.setIfInBounds_toArray, List.set_cons_zero, List.set_cons_succ])
      intro W2 hx2
      go_wp2_with fail
      have hN2 := hN.ext hx2
      have kD : W2.heap[D]? = some (Obj.deferred (some [])) := hN2.ok 3 _ rfl
      have hP := hN2.putRaw (o' := .deferred none) 3 rfl
      simp only [List.set_cons_succ, List.set_cons_zero] at hP
      refine ⟨by simp, .inl ⟨_, _, rfl, run_takeDeferred kD, ?_⟩⟩
      refine ⟨.tuple #[.slice va ts.length vc, .bool (decide ((ts.length : Int) ≤ 64))], by simp [results, Tryz.results82, go_sem], ⟨.slice va ts.length vc, ?_, hP.ex, fun l h => ?_⟩⟩
      · rw [hao2.out]; split <;> (simp; omega)
      · rw [hao2.out] at h
        split at h
        · cases h; exact hP.repUp 2 rfl
        · cases h
    · have b1' : ((x.refs.length : Int) == 0) = false := by
        have := List.length_pos_iff.2 hre
        simp; omega
      have hao2 : Hid (altOf ms x = altGo ms ts [] x.refs) := by show _ = _; rw [hao.out, if_neg hre]
      have hN3 := hN.nil mono_FmR 4 50
      simp only [List.cons_append, List.nil_append] at hN3
      clear hao hre hN
      gi_wp2
      go_wp2_with fail
      clear c0 c6 l0 l6
      obtain ⟨CC, hCC⟩ : ∃ CC : Array Value, CC = #[.slice a1 x.refs.length c1, .int .i64 x.body.op, .int .i64 x.body.n, .slice a3 x.body.inn.length c3, .slice a4 x.body.kids.length c4] := ⟨_, rfl⟩
      rw [← hCC] at hN3
      clear hCC
      go_loopw [7, 39] (fun ov vi wr => ∃ (k : Nat) (out : List Fm) (H : PH), k ≤ x.refs.length ∧ vi = .int .i64 k ∧ Hid (altOf ms x = altGo ms ts out (x.refs.drop k)) ∧ out.length ≤ 64 ∧ Mem w H0 [box w.heap.size CC 58, box (w.heap.size + 1) #[.slice va ts.length vc] 45, own mono_FmR 4 50 (.slice va ts.length vc) ts, raw D (.deferred (some [])), own mono_FmR 4 50 ov out] H wr) (fun _ vi _ => x.refs.length - (intOf vi).toNat)
      case atStart => exact ⟨0, [], H0, Nat.zero_le _, rfl, hao2, by simp, hN3⟩
      case round =>
        clear hN3 hao2
        obtain ⟨k, out, H, hk, rfl, hgo, hol, hN⟩ := hrel
        obtain ⟨oa, oc, rfl, -⟩ := hN.form 4 rfl
        by_cases hlt : k < x.refs.length
        · obtain ⟨rb, ro, hra, r0, ri, rbl⟩ := IntsR.at (hrf.mono mono_IntR (hN.le.trans hN.ple)) k hlt
          have hr0 := hri _ (List.getElem_mem hlt)
          have hst : x.refs.drop k = x.refs[k] :: x.refs.drop (k + 1) := List.drop_eq_getElem_cons hlt
          rw [hst] at hgo
          have hTw : (tabM mb acc).ok noH wr := (tabM mb acc).loc hT fun b e => hN.ex.block b ((tabM mb acc).lt hT e)
          have hget := hA.get x.refs[k]
          have hmk := hmv x.refs[k]
          subst hra
          generalize x.refs[k] = r at *
          clear hst
          rcases hget with ⟨lr, la, lc, g1, g2, g3, gR⟩ | ⟨g1, g2, g3⟩
          · obtain ⟨m1, m2⟩ := hmk lr g1
            have hgo2 : Hid (altOf ms x = if 64 < out.length + lr.length * ts.length then none else if (prodsF lr ts).all (fun f => decide (validF f = 0)) then altGo ms ts (out ++ prodsF lr ts) (x.refs.drop (k + 1)) else none) := by show _ = _; rw [hgo.out, altGo, g1]
            have hmul : lr.length * ts.length ≤ 64 * 96 := Nat.mul_le_mul m1 htl2
            obtain ⟨pr, hpr⟩ : ∃ pr : Nat, pr = lr.length * ts.length := ⟨_, rfl⟩
            have hpi : (lr.length : Int) * (ts.length : Int) = (pr : Int) := by rw [hpr]; simp
            rw [← hpr] at hgo2 hmul
            have hpw : IntKind.i64.wrap ((lr.length : Int) * (ts.length : Int)) = (pr : Int) := by rw [hpi]; exact wrap_id (by omega) (by omega)
            have hpw2 : IntKind.i64.wrap ((out.length : Int) + (pr : Int)) = (out.length : Int) + (pr : Int) := wrap_id (by omega) (by omega)
            have c6 : _ = some (Value.slice va ts.length vc) := (hN.box 1 rfl).facts.1 0
            have l6 := (hN.box 1 rfl).lt
            replace hpr := Lib.hid hpr
            clear hgo g1 hmk
            by_cases h64 : 64 < out.length + pr
            · have b64 : decide (64 < (out.length : Int) + (pr : Int)) = true := by simp; omega
              have hno : Hid (altOf ms x = none) := by show _ = _; rw [hgo2.out, if_pos h64]
              clear hgo2
              go_wp2_with (first | (at_lookup; refine wpList_look_T 0 rfl _ _ 128 45 rfl Tryz.underlying128 (zeroFms _) rfl (Mem.all hTw) rfl rfl hr0.1 hr0.2 g2 g3 ?_))
              have kD : _ = some (Obj.deferred (some [])) := (hN).ok 3 _ rfl
              have hP := (hN).putRaw (o' := .deferred none) 3 rfl
              refine ⟨by simp, .inl ⟨_, _, rfl, run_takeDeferred kD, ?_⟩⟩
              exact ⟨.tuple #[.slice none 0 0, .bool false], by simp [results, Tryz.results82, go_sem], ⟨_, by rw [hno.out]; rfl, hP.ex, fun l h => by rw [hno.out] at h; cases h⟩⟩
            · have b64 : decide (64 < (out.length : Int) + (pr : Int)) = false := by simp; omega
              have hgo3 : Hid (altOf ms x = if (prodsF lr ts).all (fun f => decide (validF f = 0)) then altGo ms ts (out ++ prodsF lr ts) (x.refs.drop (k + 1)) else none) := by show _ = _; rw [hgo2.out, if_neg h64]
              clear hgo2
              go_wp2_with (first | (at_lookup; refine wpList_look_T 0 rfl _ _ 128 45 rfl Tryz.underlying128 (zeroFms _) rfl (Mem.all hTw) rfl rfl hr0.1 hr0.2 g2 g3 ?_))
              clear c6 l6
              go_loopw [7, 64] (fun ov vi wx => ∃ (i : Nat) (out2 : List Fm) (H2 : PH), i ≤ lr.length ∧ vi = .int .i64 i ∧ Hid (out2 = out ++ prodsF (lr.take i) ts ∧ (prodsF (lr.take i) ts).all (fun f => decide (validF f = 0)) = true) ∧ out2.length ≤ 64 ∧ Mem w H0 [box w.heap.size CC 58, box (w.heap.size + 1) #[.slice va ts.length vc] 45, own mono_FmR 4 50 (.slice va ts.length vc) ts, raw D (.deferred (some [])), own mono_FmR 4 50 ov out2] H2 wx) (fun _ vi _ => lr.length - (intOf vi).toNat)
              case atStart => exact ⟨0, out, H, Nat.zero_le _, rfl, Lib.hid ⟨by simp [prodsF], by simp [prodsF]⟩, hol, hN⟩
              case round =>
                clear hN hTw
                obtain ⟨i, out2, H2, hi, rfl, ho2, hol2, hN⟩ := hrel
                obtain ⟨oa2, oc2, rfl, -⟩ := hN.form 4 rfl
                by_cases hlti : i < lr.length
                · obtain ⟨ab, ao, p3, e3, p4, e4, hla, q0, q1, q2, q3, qR, qbl⟩ := FmsR.atH gR (hN.le.trans hN.ple) i hlti
                  have hva := m2 _ (List.getElem_mem hlti)
                  have hAb := valid_bulk hva
                  have hsn := Lib.hid (prodsF_snoc lr i hlti ts)
                  have hin : Hid (∀ b ∈ ts, bothF lr[i] b ∈ prodsF lr ts) := Lib.hid fun b hb => List.mem_flatMap.2 ⟨lr[i], List.getElem_mem hlti, List.mem_map.2 ⟨b, hb, rfl⟩⟩
                  subst hla
                  generalize lr[i] = fa at *
                  unfold fmC at qR
                  have hN1 := hN.new' #[.int .i64 fa.op, .int .i64 fa.n, .slice p3 fa.inn.length e3, .slice p4 fa.kids.length e4] 50 (n := wr.heap.size) rfl
                  simp only [List.cons_append, List.nil_append] at hN1
                  have c6 : _ = some (Value.slice va ts.length vc) := (hN.box 1 rfl).facts.1 0
                  have l6 := (hN.box 1 rfl).lt
                  go_wp2_with fail
                  clear c6 l6 q0 q1 q2 q3 qbl
                  generalize wr.heap.size = GA at *
                  go_loopw [7, 70] (fun ov vj wy => ∃ (j : Nat) (out3 : List Fm) (H3 : PH), j ≤ ts.length ∧ vj = .int .i64 j ∧ Hid (out3 = out2 ++ (ts.take j).map (bothF fa) ∧ ((ts.take j).map (bothF fa)).all (fun f => decide (validF f = 0)) = true) ∧ out3.length ≤ 64 + j ∧ Mem w H0 [box w.heap.size CC 58, box (w.heap.size + 1) #[.slice va ts.length vc] 45, own mono_FmR 4 50 (.slice va ts.length vc) ts, raw D (.deferred (some [])), own mono_FmR 4 50 ov out3, box GA #[.int .i64 fa.op, .int .i64 fa.n, .slice p3 fa.inn.length e3, .slice p4 fa.kids.length e4] 50] H3 wy) (fun _ vj _ => ts.length - (intOf vj).toNat)
                  case atStart => exact ⟨0, out2, H2, Nat.zero_le _, rfl, Lib.hid ⟨by simp, by simp⟩, by omega, hN1⟩
                  case round =>
                    clear hN hN1
                    obtain ⟨j, out3, H3, hj, rfl, ho3, hol3, hN⟩ := hrel
                    obtain ⟨oa3, oc3, rfl, -⟩ := hN.form 4 rfl
                    by_cases hltj : j < ts.length
                    · obtain ⟨gb, gcap, gcs, e1, gl, gc, hRB, gbl⟩ := hN.get 2 rfl j hltj
                      cases e1
                      have hvb := htv _ (List.getElem_mem hltj)
                      have hBb := valid_bulk hvb
                      have htk : Hid ((ts.take (j + 1)).map (bothF fa) = (ts.take j).map (bothF fa) ++ [bothF fa ts[j]]) := by show _ = _; rw [List.take_succ_eq_append_getElem hltj, List.map_append]; rfl
                      have hinB := hin.out _ (List.getElem_mem hltj)
                      obtain ⟨r3, f3, r4, f4, rfl, -⟩ := hRB.form
                      have s0 : wr.cell? ⟨gb, j * 4, none⟩ = some (.int .i64 ts[j].op) := gc 0 (by omega)
                      have s1 : wr.cell? ⟨gb, j * 4 + 1, none⟩ = some (.int .i64 ts[j].n) := gc 1 (by omega)
                      have s2 : wr.cell? ⟨gb, j * 4 + 2, none⟩ = some (.slice r3 ts[j].inn.length f3) := gc 2 (by omega)
                      have s3 : wr.cell? ⟨gb, j * 4 + 3, none⟩ = some (.slice r4 ts[j].kids.length f4) := gc 3 (by omega)
                      generalize ts[j] = fb at *
                      unfold fmC at hRB
                      have hN2 := hN.new' #[.int .i64 fb.op, .int .i64 fb.n, .slice r3 fb.inn.length f3, .slice r4 fb.kids.length f4] 50 (n := wr.heap.size) rfl
                      simp only [List.cons_append, List.nil_append] at hN2
                      have hRA := mono_FmR _ _ _ _ hN.le qR
                      clear gc gl hN
                      go_upto_region 19 with (fail)
                      generalize wr.heap.size = GB at *
                      generalize wr.alloc _ = W at *
                      obtain ⟨uc, -⟩ := (hN2.box 5 rfl).facts
                      have y0 : _ = some (Value.int .i64 fa.op) := uc 0
                      have y1 : _ = some (Value.int .i64 fa.n) := uc 1
                      have y2 : _ = some (Value.slice p3 fa.inn.length e3) := uc 2
                      have y3 : _ = some (Value.slice p4 fa.kids.length e4) := uc 3
                      obtain ⟨vc', -⟩ := (hN2.box 6 rfl).facts
                      have z0 : _ = some (Value.int .i64 fb.op) := vc' 0
                      have z1 : _ = some (Value.int .i64 fb.n) := vc' 1
                      have z2 : _ = some (Value.slice r3 fb.inn.length f3) := vc' 2
                      have z3 : _ = some (Value.slice r4 fb.kids.length f4) := vc' 3
                      have yl := (hN2.box 5 rfl).lt
                      have zl := (hN2.box 6 rfl).lt
                      clear uc vc' s0 s1 s2 s3
                      have hpl := hN2.pick [0, 1, 2, 3, 4, 5, 6, 7] (by decide)
                      simp only [List.map_cons, List.map_nil, List.getElem?_cons_zero, List.getElem?_cons_succ, List.getElem?_nil, Option.getD_some, Option.getD_none] at hpl
                      have hJ0 : ∀ s, BothJ w H0 H3 [box w.heap.size CC 58, box (w.heap.size + 1) #[.slice (some ⟨gb, 0, none⟩) ts.length vc] 45, own mono_FmR 4 50 (.slice (some ⟨gb, 0, none⟩) ts.length vc) ts, raw D (.deferred (some [])), own mono_FmR 4 50 (.slice oa3 out3.length oc3) out3, box GA #[.int .i64 fa.op, .int .i64 fa.n, .slice p3 fa.inn.length e3, .slice p4 fa.kids.length e4] 50, box GB #[.int .i64 fb.op, .int .i64 fb.n, .slice r3 fb.inn.length f3, .slice r4 fb.kids.length f4] 50] (partsF fa) (partsF fb) (fun _ => false) s W.drew := fun s => ⟨H3, 0, (fun _ _ h => h), hpl.ext (Ext.rfl' W).drew', by simp, by simp, by simp, by simp, by simp, by simp⟩
                      clear hpl
                      have hpa := parts_len hva
                      have hpb := parts_len hvb
                      (refine Pj.wp_region_J 8 (BothJ w H0 H3 [box w.heap.size CC 58, box (w.heap.size + 1) #[.slice (some ⟨gb, 0, none⟩) ts.length vc] 45, own mono_FmR 4 50 (.slice (some ⟨gb, 0, none⟩) ts.length vc) ts, raw D (.deferred (some [])), own mono_FmR 4 50 (.slice oa3 out3.length oc3) out3, box GA #[.int .i64 fa.op, .int .i64 fa.n, .slice p3 fa.inn.length e3, .slice p4 fa.kids.length e4] 50, box GB #[.int .i64 fb.op, .int .i64 fb.n, .slice r3 fb.inn.length f3, .slice r4 fb.kids.length f4] 50] (partsF fa) (partsF fb)) (by kernel_rfl) (by kernel_rfl) (hJ0 _) ?_; simp only [List.toList_toArray, List.take_succ_cons, List.take_zero, List.drop_succ_cons, List.drop_zero])
                      clear hJ0
                      (refine Pj.walkI_is (u := ?_) rfl (by simp) rfl (fun dn s w h => h) ?_ ?_; rotate_left; (focus (intro A w' dn hS hJ hdn hA K hK; (try simp only [List.map_cons, List.map_nil, Pj.knows, Pj.Is, Pj.Any, Op.operands, Call.operands, List.lookup_cons, List.lookup_nil, Nat.reduceBEq, Bool.false_eq_true, if_false, if_true, Act.eval, Array.getD_eq_getD_getElem?, List.getElem?_toArray, List.getElem?_cons_succ, List.getElem?_cons_zero, Option.getD_some, and_true, true_and, List.append_toArray, List.nil_append, List.cons_append, List.toList_toArray, Array.toList_append, Option.toArray, List.append_nil] at hA); (obtain ⟨hSc, hSf, hSs⟩ := hS.cells; go_simp; exact hK))); (try simp only [List.nil_append, List.cons_append]))
                      (refine Pj.walkI_step rfl (by simp) rfl ?_ ?_; (focus (intro A w' dn hS hJ hd0 hdn hA K hK; (try simp only [List.map_cons, List.map_nil, Pj.knows, Pj.Is, Pj.Any, Op.operands, Call.operands, List.lookup_cons, List.lookup_nil, Nat.reduceBEq, Bool.false_eq_true, if_false, if_true, Act.eval, Array.getD_eq_getD_getElem?, List.getElem?_toArray, List.getElem?_cons_succ, List.getElem?_cons_zero, Option.getD_some, and_true, true_and, List.append_toArray, List.nil_append, List.cons_append, List.toList_toArray, Array.toList_append, Option.toArray, List.append_nil] at hA); (go_simp; obtain ⟨H, b, i1, i2, i7, j1, j3, j4, j5, j6⟩ := hJ; refine (parts_c fa _ _ i2.ple (mono_FmR _ _ _ _ i1 hRA)).mono ?_; rintro e w6 ⟨v1, rfl, hx6, hr6⟩; have hu := ple_up (w' := w6) i2.ple; exact hK _ _ (hS.then hx6) ⟨up H w' w6, b, i1.trans hu, i2.up hx6, i7, fun _ => hr6, fun h => (j3 h).mono mono_FmR hu, fun h => (j4 h).mono mono_LlR hu, fun h => (j5 h).mono mono_FmR hu, fun h => (j6 h).imp fun a h => h.imp fun n h => h.imp fun c h => ⟨h.1, h.2.mono mono_FmR hu⟩⟩))); (try simp only [List.nil_append, List.cons_append]))
                      (refine Pj.walkI_is (u := ?_) rfl (by simp) rfl (fun dn s w h => h) ?_ ?_; rotate_left; (focus (intro A w' dn hS hJ hdn hA K hK; (try simp only [List.map_cons, List.map_nil, Pj.knows, Pj.Is, Pj.Any, Op.operands, Call.operands, List.lookup_cons, List.lookup_nil, Nat.reduceBEq, Bool.false_eq_true, if_false, if_true, Act.eval, Array.getD_eq_getD_getElem?, List.getElem?_toArray, List.getElem?_cons_succ, List.getElem?_cons_zero, Option.getD_some, and_true, true_and, List.append_toArray, List.nil_append, List.cons_append, List.toList_toArray, Array.toList_append, Option.toArray, List.append_nil] at hA); (obtain ⟨hSc, hSf, hSs⟩ := hS.cells; go_simp; exact hK))); (try simp only [List.nil_append, List.cons_append]))
                      (refine Pj.walkI_step rfl (by simp) rfl ?_ ?_; (focus (intro A w' dn hS hJ hd0 hdn hA K hK; (try simp only [List.map_cons, List.map_nil, Pj.knows, Pj.Is, Pj.Any, Op.operands, Call.operands, List.lookup_cons, List.lookup_nil, Nat.reduceBEq, Bool.false_eq_true, if_false, if_true, Act.eval, Array.getD_eq_getD_getElem?, List.getElem?_toArray, List.getElem?_cons_succ, List.getElem?_cons_zero, Option.getD_some, and_true, true_and, List.append_toArray, List.nil_append, List.cons_append, List.toList_toArray, Array.toList_append, Option.toArray, List.append_nil] at hA); (go_simp; obtain ⟨H, b, i1, i2, i7, j1, j3, j4, j5, j6⟩ := hJ; refine (parts_c fb _ _ i2.ple (mono_FmR _ _ _ _ i1 hRB)).mono ?_; rintro e w6 ⟨v1, rfl, hx6, hr6⟩; have hu := ple_up (w' := w6) i2.ple; exact hK _ _ (hS.then hx6) ⟨up H w' w6, b, i1.trans hu, i2.up hx6, i7, fun h => (j1 h).mono mono_FmR hu, fun _ => hr6, fun h => (j4 h).mono mono_LlR hu, fun h => (j5 h).mono mono_FmR hu, fun h => (j6 h).imp fun a h => h.imp fun n h => h.imp fun c h => ⟨h.1, h.2.mono mono_FmR hu⟩⟩))); (try simp only [List.nil_append, List.cons_append]))
                      (refine Pj.walkI_step rfl (by simp) rfl ?_ ?_; (focus (intro A w' dn hS hJ hd0 hdn hA K hK; (try simp only [List.map_cons, List.map_nil, Pj.knows, Pj.Is, Pj.Any, Op.operands, Call.operands, List.lookup_cons, List.lookup_nil, Nat.reduceBEq, Bool.false_eq_true, if_false, if_true, Act.eval, Array.getD_eq_getD_getElem?, List.getElem?_toArray, List.getElem?_cons_succ, List.getElem?_cons_zero, Option.getD_some, and_true, true_and, List.append_toArray, List.nil_append, List.cons_append, List.toList_toArray, Array.toList_append, Option.toArray, List.append_nil] at hA); (obtain ⟨H, b, i1, i2, i7, j1, j3, j4, j5, j6⟩ := hJ; have k1 := j1 (hdn 1 (List.contains_iff_mem.1 (by kernel_rfl))); have k3 := j3 (hdn 3 (List.contains_iff_mem.1 (by kernel_rfl))); obtain ⟨ua, uc, eu, -, k1⟩ := k1.form; obtain ⟨ta, tc, et, -, k3⟩ := k3.form; unfold Pj.sl at eu et; simp only [Array.getD_eq_getD_getElem?] at eu et; go_simp; have hu := ple_up (w' := w'.alloc (.cells #[.slice ua (partsF fa).length uc, .slice ta (partsF fb).length tc] 45)) i2.ple; exact hK _ _ (hS.alloc' _) ⟨_, b, i1.trans hu, i2.up (Ext.new _ _), i7, fun h => (j1 h).mono mono_FmR hu, fun h => (j3 h).mono mono_FmR hu, fun _ => lists2 i2.ple k1 k3 _, fun h => (j5 h).mono mono_FmR hu, fun h => (j6 h).imp fun a h => h.imp fun n h => h.imp fun c h => ⟨h.1, h.2.mono mono_FmR hu⟩⟩))); (try simp only [List.nil_append, List.cons_append]))
                      (refine Pj.walkI_step rfl (by simp) rfl ?_ ?_; (focus (intro A w' dn hS hJ hd0 hdn hA K hK; (try simp only [List.map_cons, List.map_nil, Pj.knows, Pj.Is, Pj.Any, Op.operands, Call.operands, List.lookup_cons, List.lookup_nil, Nat.reduceBEq, Bool.false_eq_true, if_false, if_true, Act.eval, Array.getD_eq_getD_getElem?, List.getElem?_toArray, List.getElem?_cons_succ, List.getElem?_cons_zero, Option.getD_some, and_true, true_and, List.append_toArray, List.nil_append, List.cons_append, List.toList_toArray, Array.toList_append, Option.toArray, List.append_nil] at hA); (obtain ⟨H, b, i1, i2, i7, j1, j3, j4, j5, j6⟩ := hJ; have k4 := j4 (hdn 4 (List.contains_iff_mem.1 (by kernel_rfl))); unfold Pj.sl at k4; simp only [Array.getD_eq_getD_getElem?] at k4; go_simp; refine (concat_c _ _ _ i2.ple k4 (by simp; omega)).mono ?_; rintro e w6 ⟨v1, rfl, hx6, hr6⟩; have hu := ple_up (w' := w6) i2.ple; have hr7 : FmsR (up H w' w6) v1 (partsF fa ++ partsF fb) := (by simpa using hr6); exact hK _ _ (hS.then hx6) ⟨up H w' w6, b, i1.trans hu, i2.up hx6, i7, fun h => (j1 h).mono mono_FmR hu, fun h => (j3 h).mono mono_FmR hu, fun h => (j4 h).mono mono_LlR hu, fun _ => hr7, fun h => (j6 h).imp fun a h => h.imp fun n h => h.imp fun c h => ⟨h.1, h.2.mono mono_FmR hu⟩⟩))); (try simp only [List.nil_append, List.cons_append]))
                      (refine Pj.walkI_step rfl (by simp) rfl ?_ ?_; (focus (intro A w' dn hS hJ hd0 hdn hA K hK; (try simp only [List.map_cons, List.map_nil, Pj.knows, Pj.Is, Pj.Any, Op.operands, Call.operands, List.lookup_cons, List.lookup_nil, Nat.reduceBEq, Bool.false_eq_true, if_false, if_true, Act.eval, Array.getD_eq_getD_getElem?, List.getElem?_toArray, List.getElem?_cons_succ, List.getElem?_cons_zero, Option.getD_some, and_true, true_and, List.append_toArray, List.nil_append, List.cons_append, List.toList_toArray, Array.toList_append, Option.toArray, List.append_nil] at hA); (obtain ⟨H, b, i1, i2, i7, j1, j3, j4, j5, j6⟩ := hJ; have k5 := j5 (hdn 5 (List.contains_iff_mem.1 (by kernel_rfl))); obtain ⟨ua, uc, eu, -, k5⟩ := k5.form; unfold Pj.sl at eu; simp only [Array.getD_eq_getD_getElem?] at eu; have k6 : FmsR H (.slice ua ((partsF fa).length + (partsF fb).length) uc) (partsF fa ++ partsF fb) := (by simpa using k5); go_simp; exact hK _ _ hS ⟨H, b, i1, i2, i7, j1, j3, j4, j5, fun _ => ⟨ua, _, uc, rfl, k6⟩⟩))); (try simp only [List.nil_append, List.cons_append]))
                      (refine Pj.walkI_step rfl (by simp) rfl ?_ ?_; (focus (intro A w' dn hS hJ hd0 hdn hA K hK; (try simp only [List.map_cons, List.map_nil, Pj.knows, Pj.Is, Pj.Any, Op.operands, Call.operands, List.lookup_cons, List.lookup_nil, Nat.reduceBEq, Bool.false_eq_true, if_false, if_true, Act.eval, Array.getD_eq_getD_getElem?, List.getElem?_toArray, List.getElem?_cons_succ, List.getElem?_cons_zero, Option.getD_some, and_true, true_and, List.append_toArray, List.nil_append, List.cons_append, List.toList_toArray, Array.toList_append, Option.toArray, List.append_nil] at hA); (obtain ⟨H, b, i1, i2, i7, j1, j3, j4, j5, j6⟩ := hJ; have hd7 : dn 7 = false := hd0; rw [hd7] at i2; have i3 := i2.fillNop 7 rfl (Ext.new w' (.cells zeroFc 50)) (Own.new w' zeroFc 50) (Nat.le_refl _); go_simp; exact hK _ _ (hS.alloc' _) ⟨H, w'.heap.size, i1, i3, fun _ => rfl, j1, j3, j4, j5, j6⟩))); (try simp only [List.nil_append, List.cons_append]))
                      (refine Pj.walkI_nil ?_; simp only [List.nil_append, List.cons_append, Pj.fins, Pj.Is, Pj.Any, forall_eq, true_implies, Act.put, List.setIfInBounds_toArray, List.set_cons_zero, List.set_cons_succ])
                      intro W2 hx2 v75 v77 v78 v79 v80 v17 hJ
                      obtain ⟨H4, b, i1, i2, i7, -, -, -, -, j6⟩ := hJ
                      have e17 : v17 = .pointer (some ⟨b, 0, none⟩) := i7 rfl
                      obtain ⟨na, nn, nc, e80, hR⟩ := j6 rfl
                      have e80' : v80 = .agg #[.int .i64 4, .int .i64 0, .slice none 0 0, .slice na nn nc] := e80
                      have hN3 : Mem w H0 [box w.heap.size CC 58, box (w.heap.size + 1) #[.slice (some ⟨gb, 0, none⟩) ts.length vc] 45, own mono_FmR 4 50 (.slice (some ⟨gb, 0, none⟩) ts.length vc) ts, raw D (.deferred (some [])), own mono_FmR 4 50 (.slice oa3 out3.length oc3) out3, box GA #[.int .i64 fa.op, .int .i64 fa.n, .slice p3 fa.inn.length e3, .slice p4 fa.kids.length e4] 50, box GB #[.int .i64 fb.op, .int .i64 fb.n, .slice r3 fb.inn.length f3, .slice r4 fb.kids.length f4] 50, box b zeroFc 50] H4 W2 := i2
                      clear i2 i7 j6 e80 hN2
                      subst e17 e80'
                      have hbf : Hid (bothF fa fb = .mk 4 0 [] (partsF fa ++ partsF fb)) := rfl
                      generalize partsF fa ++ partsF fb = PP at *
                      obtain ⟨na', nc', e, -, hR⟩ := hR.form
                      cases e
                      obtain ⟨uc, uf⟩ := (hN3.box 7 rfl).facts
                      have u0 : _ = some (Value.int .i64 0) := uc 0
                      have u1 : _ = some (Value.int .i64 0) := uc 1
                      have u2 : _ = some (Value.slice none 0 0) := uc 2
                      have u3 : _ = some (Value.slice none 0 0) := uc 3
                      have ul := (hN3.box 7 rfl).lt
                      have hN4 := hN3.set4 7 rfl (.int .i64 4) (.int .i64 0) (.slice none 0 0) (.slice na PP.length nc)
                      simp only [List.set_cons_succ, List.set_cons_zero] at hN4
                      have hFR : FmR H4 (fmC (.mk 4 0 [] PP) none 0 na nc) (.mk 4 0 [] PP) := FmR.of (by simp [Fm.op, I64]) (by simp [Fm.n, I64]) (SliceRep.nil _ _ _) hR
                      have hFb : (Fm.mk 4 0 [] PP).bulk ≤ 900000 := by rw [← hbf.out]; exact both_bulk hAb hBb
                      clear uc hN3 y0 y1 y2 y3 z0 z1 z2 z3 yl zl hR hpa hpb
                      go_upto_region 20 with (fail)
                      generalize ((((W2.setCell _ _).setCell _ _).setCell _ _).setCell _ _) = W3 at *
                      clear u0 u1 u2 u3 uf ul
                      obtain ⟨uc, uf⟩ := (hN4.box 7 rfl).facts
                      have u0 : _ = some (Value.int .i64 4) := uc 0
                      have u1 : _ = some (Value.int .i64 0) := uc 1
                      have u2 : _ = some (Value.slice none 0 0) := uc 2
                      have u3 : _ = some (Value.slice na PP.length nc) := uc 3
                      have ul := (hN4.box 7 rfl).lt
                      clear uc uf
                      go_wp2_with fail
                      refine RetV_at (fvalid_c (.mk 4 0 [] PP) _ _ (mono_FmR _ _ _ _ hN4.ple hFR) hFb) ?_
                      intro W4 hx4
                      replace hN4 := hN4.ext hx4
                      clear u0 u1 u2 u3 ul
                      by_cases hvf : validF (.mk 4 0 [] PP) = 0
                      · rw [hvf]
                        obtain ⟨uc, uf⟩ := (hN4.box 7 rfl).facts
                        have u0 : _ = some (Value.int .i64 4) := uc 0
                        have u1 : _ = some (Value.int .i64 0) := uc 1
                        have u2 : _ = some (Value.slice none 0 0) := uc 2
                        have u3 : _ = some (Value.slice na PP.length nc) := uc 3
                        have ul := (hN4.box 7 rfl).lt
                        have hN5 := (hN4.ext (Ext.new W4 (.cells #[.int .i64 4, .int .i64 0, .slice none 0 0, .slice na PP.length nc] 50))).pick [0, 1, 2, 3, 4, 5] (by decide)
                        simp only [List.map_cons, List.map_nil, List.getElem?_cons_zero, List.getElem?_cons_succ, Option.getD_some] at hN5
                        have hS := Src.lit1 (H := H4) (E := FmR) (sz := 4) (w := W4.alloc (.cells #[.int .i64 4, .int .i64 0, .slice none 0 0, .slice na PP.length nc] 50)) (b := W4.heap.size) hFR rfl (fun j => by rw [(Proofs.YtnpnjcaomakehaaGreat.Own.new _ _ _).facts.1]; simp [fmC, Fm.op, Fm.n, Fm.inn, Fm.kids])
                        clear uc uf hN4
                        go_wp2_with (first | (at_builtin; refine wpList_append_M 4 rfl _ _ 45 rfl Tryz.underlying45 infoFm rfl rfl rfl (hN5) rfl (hS) one_FmR ?c3 ?c4 ?c5))
                        case c3 => simp; omega
                        case c4 => simp; omega
                        case c5 =>
                        intro v' W5 hN6
                        try simp only [List.set_cons_zero, List.set_cons_succ] at hN6
                        clear hN5 hS u0 u1 u2 u3 ul
                        go_wp2_with fail
                        go_roundw
                        case rel =>
                          refine ⟨j + 1, _, H4, by omega, by go_num, Lib.hid ⟨?_, ?_⟩, by simp; omega, hN6⟩
                          · rw [htk.out, ho3.out.1, List.append_assoc, hbf.out]
                          · rw [htk.out, List.all_append, ho3.out.2, hbf.out]; simp [hvf]
                        case measure => simp [intOf]; omega
                      · have bv : (validF (.mk 4 0 [] PP) != 0) = true := by simpa using hvf
                        have hno : Hid (altOf ms x = none) := by
                          show _ = _
                          rw [hgo3.out, if_neg]
                          intro h
                          have := List.all_eq_true.1 h _ hinB
                          rw [hbf.out] at this
                          exact hvf (by simpa using this)
                        go_wp2_with fail
                        have kD : _ = some (Obj.deferred (some [])) := (hN4).ok 3 _ rfl
                        have hP := (hN4).putRaw (o' := .deferred none) 3 rfl
                        refine ⟨by simp, .inl ⟨_, _, rfl, run_takeDeferred kD, ?_⟩⟩
                        exact ⟨.tuple #[.slice none 0 0, .bool false], by simp [results, Tryz.results82, go_sem], ⟨_, by rw [hno.out]; rfl, hP.ex, fun l h => by rw [hno.out] at h; cases h⟩⟩
                    · obtain rfl : j = ts.length := by omega
                      have ho4 : Hid (out3 = out ++ prodsF (lr.take (i + 1)) ts ∧ (prodsF (lr.take (i + 1)) ts).all (fun f => decide (validF f = 0)) = true) := by
                        obtain ⟨k1, k2⟩ := ho3.out
                        obtain ⟨l1, l2⟩ := ho2.out
                        rw [List.take_length] at k1 k2
                        refine ⟨?_, ?_⟩
                        · rw [hsn.out, k1, l1, List.append_assoc]
                        · rw [hsn.out, List.all_append, l2, k2]; rfl
                      have hbo : out3.length ≤ 64 := by
                        rw [ho4.out.1, List.length_append, prodsF_len, List.length_take]
                        have : min (i + 1) lr.length * ts.length ≤ lr.length * ts.length := Nat.mul_le_mul_right _ (Nat.min_le_right _ _)
                        have := hpr.out
                        omega
                      have hN7 := hN.pick [0, 1, 2, 3, 4] (by decide)
                      simp only [List.map_cons, List.map_nil, List.getElem?_cons_zero, List.getElem?_cons_succ, Option.getD_some] at hN7
                      clear hN ho3
                      go_wp2_with fail
                      go_roundw
                      case rel => exact ⟨i + 1, out3, H3, by omega, by go_num, ho4, hbo, hN7⟩
                      case measure => simp [intOf]; omega
                · obtain rfl : i = lr.length := by omega
                  have hgo4 : Hid (altOf ms x = altGo ms ts out2 (x.refs.drop (k + 1))) := by
                    obtain ⟨l1, l2⟩ := ho2.out
                    rw [List.take_length] at l1 l2
                    show _ = _
                    rw [hgo3.out, if_pos l2, l1]
                  clear ho2
                  go_wp2_with fail
                  go_roundw
                  case rel => exact ⟨k + 1, out2, H2, by omega, by go_num, hgo4, hol2, hN⟩
                  case measure => simp [intOf]; omega
          · have hno : Hid (altOf ms x = none) := by show _ = _; rw [hgo.out, altGo, g1]
            clear hgo g1 hmk
            go_wp2_with (first | (at_lookup; refine wpList_look_T 0 rfl _ _ 128 45 rfl Tryz.underlying128 (zeroFms _) rfl (Mem.all hTw) rfl rfl hr0.1 hr0.2 g2 g3 ?_))
            have kD : _ = some (Obj.deferred (some [])) := (hN).ok 3 _ rfl
            have hP := (hN).putRaw (o' := .deferred none) 3 rfl
            refine ⟨by simp, .inl ⟨_, _, rfl, run_takeDeferred kD, ?_⟩⟩
            exact ⟨.tuple #[.slice none 0 0, .bool false], by simp [results, Tryz.results82, go_sem], ⟨_, by rw [hno.out]; rfl, hP.ex, fun l h => by rw [hno.out] at h; cases h⟩⟩
        · obtain rfl : k = x.refs.length := by omega
          have hso : Hid (altOf ms x = some out) := by show _ = _; rw [hgo.out, List.drop_length, altGo]
          clear hgo
          go_wp2_with fail
          have kD : wr.heap[D]? = some (Obj.deferred (some [])) := hN.ok 3 _ rfl
          have hP := hN.putRaw (o' := .deferred none) 3 rfl
          simp only [List.set_cons_succ, List.set_cons_zero] at hP
          refine ⟨by simp, .inl ⟨_, _, rfl, run_takeDeferred kD, ?_⟩⟩
          refine ⟨.tuple #[.slice oa out.length oc, .bool true], by simp [results, Tryz.results82, go_sem], ⟨_, by rw [hso.out]; rfl, hP.ex, fun l h => ?_⟩⟩
          rw [hso.out] at h; cases h; exact hP.repUp 4 rfl
theorem alternatives_c {H0 : PH} (x : Cl) (cs : List Value) (acc : List (Option Value)) (ms : List (Option (List Fm))) (mb : Nat) (w : World) (hH : PLe H0 (ph w)) (hr : ClR H0 cs x) (hv : validF x.body = 0) (hlen : x.refs.length ≤ 8) (hri : ∀ r ∈ x.refs, 0 ≤ r ∧ r ≤ 9223372036854775807)
    (hT : (tabM mb acc).ok noH w) (hA : AccL H0 acc ms) (hmv : ∀ r l, at? ms r = some l → l.length ≤ 64 ∧ ∀ f ∈ l, validF f = 0) :
    Calls Tryz.prog 82 #[.agg cs.toArray, .map (some mb)] w (AltP w H0 (altOf ms x)) := (callsIn_wide (n := 7)).1 (alternatives_in x cs acc ms mb w hH hr hv hlen hri hT hA hmv)
end Go.Proofs.YtnpnjcaomakehaaGreat
namespace Go.Proofs.YtnpnjcaomakehaaGreat
open Go.RowKit Go.Shelf
theorem take_snocA (l : List Cl) (k : Nat) (h : k < l.length) : altsL (l.take (k + 1)) = altsL (l.take k) ++ [altOf (altsL (l.take k)) l[k]] := by
  rw [List.take_succ_eq_append_getElem h]
  exact tabl_snoc _ _
theorem alts_valid {l : List Cl} (hv : validC l = 0) (r : Int) {fs : List Fm} (h : at? (altsL l) r = some fs) : fs.length ≤ 64 ∧ ∀ f ∈ fs, validF f = 0 := by
  have hr : r.toNat < l.length := by
    unfold at? at h
    by_cases h1 : r.toNat < l.length
    · exact h1
    · rw [List.getElem?_eq_none (by unfold altsL; rw [tabl_len]; omega)] at h; cases h
  have h2 : altC l r.toNat = some fs := by
    unfold altC
    unfold at? at *
    rw [Int.toNat_natCast]; exact h
  exact ⟨altC_len hv _ hr h2, altC_valid hv _ hr h2⟩
def altsE (l : List Cl) (i : Int) : List Fm × Int := if checkC l i ≠ 0 then ([], checkC l i) else match altC l i.toNat with | some fs => (fs, 0) | none => ([], 4)
def AlE (w : World) (r : List Fm × Int) (e : Ending) (w' : World) : Prop := ∃ v, e = .returned (.tuple #[v, .int .i64 r.2]) ∧ Ext w w' ∧ FmsR (ph w') v r.1
set_option maxRecDepth 100000 in
set_option maxHeartbeats 2000000 in
theorem alts_c (v : Value) (l : List Cl) (i : Int) (w : World) (hr : ClsR (ph w) v l) (hs : ∀ c ∈ l, c.body.bulk ≤ 900000) : Calls Tryz.prog 50 #[v, .int .i64 i] w (AlE w (altsE l i)) := by
  have hr' := hr
  obtain ⟨a, c, rfl, hlen, hr⟩ := hr.form
  have hc : l.length ≤ c := by obtain ⟨a', c', h1, h2, -⟩ := hr; cases h1; exact h2
  have hc64 : c ≤ 9223372036854775807 := by obtain ⟨a', c', h1, -, h2, -⟩ := hr; cases h1; unfold maxLen at h2; omega
  have hmm := @run_makeMap Tryz.prog
  go_enter Tryz.func50, Tryz.ntmps50
  go_wp2_with fail
  refine RetV_at (ccheck_c _ l i _ hr' hs) ?_
  intro w1 hx1
  by_cases he : checkC l i = 0
  · obtain ⟨hv, h0, h1⟩ := checkC_0 he
    have hm : Hid (altsE l i = match altC l i.toNat with | some f => (f, 0) | none => ([], 4)) := by show _ = _; unfold altsE; rw [if_neg (by simpa using he)]
    obtain ⟨n, rfl⟩ : ∃ n : Nat, i = (n : Int) := ⟨i.toNat, by omega⟩
    have hn : n < l.length := by omega
    have hmax := validC_0 hv
    rw [he]
    rw [Int.toNat_natCast] at hm
    have hw1 : IntKind.i64.wrap ((n : Int) + 1) = (n : Int) + 1 := wrap_id (by omega) (by omega)
    have hM0 := ((Mem.start w (ph w) (fun _ _ h => h)).ext hx1).newMap
    simp only [List.nil_append] at hM0
    clear he hr' hx1
    go_wp2_with fail
    clear hmm
    go_loopw [26] (fun vi wr => ∃ (k : Nat) (acc : List (Option Value)) (H : PH), k ≤ n + 1 ∧ vi = .int .i64 k ∧ Mem w (ph w) [tabM w1.heap.size acc] H wr ∧ AccL H acc (altsL (l.take k))) (fun vi _ => n + 1 - (intOf vi).toNat)
    case atStart => exact ⟨0, [], _, Nat.zero_le _, rfl, hM0, AccL.nil _⟩
    case round =>
      clear hM0
      obtain ⟨k, acc, H, hk, rfl, hM, hA⟩ := hrel
      have hal : acc.length = k := by rw [hA.1]; unfold altsL; rw [tabl_len, List.length_take]; omega
      by_cases hlt : k < n + 1
      · have hkl : k < l.length := by omega
        have b0 : decide ((k : Int) < (n : Int) + 1) = true := by simp; omega
        obtain ⟨b, o, a1, c1, a3, c3, a4, c4, rfl, h0, h1, h2, h3, h4, hbl, hrl, hri, hE⟩ := ClsR.atH hr (hM.le.trans hM.ple) k hkl
        obtain ⟨v1, v2, v3⟩ := hmax.2 k hkl
        have hcl : ClR H (clC l[k] a1 c1 a3 c3 a4 c4) l[k] := mono_ClR _ _ _ _ hM.le (ClR.of hri hE)
        have hsn := Lib.hid (take_snocA l k hkl)
        have hmv := fun r fs => alts_valid (l := l.take k) (r := r) (fs := fs) (by
          refine validC_of (by rw [List.length_take]; omega) fun q hq => ?_
          rw [List.length_take] at hq
          rw [List.getElem_take]; exact hmax.2 q (by omega))
        have hBd : ∀ r ∈ l[k].refs, 0 ≤ r ∧ r ≤ 9223372036854775807 := fun r hr => by have := refsB_mem v2 r hr; omega
        generalize altsL (l.take k) = ms at *
        generalize l[k] = x at *
        unfold clC at hcl
        have hM1 := hM.ext (Ext.new wr (.cells #[.slice a1 x.refs.length c1, .int .i64 x.body.op, .int .i64 x.body.n, .slice a3 x.body.inn.length c3, .slice a4 x.body.kids.length c4] 58))
        have hAC := Lib.hid (alternatives_c x _ acc ms w1.heap.size _ hM1.ple hcl v3 v1 hBd (hM1.ok 0 _ rfl) hA (fun r fs h => hmv r fs h))
        clear hmv hBd
        go_wp2_with fail
        refine hAC.out.mono ?_
        rintro e w2 ⟨v2', rfl, hx2, hF⟩
        have hM2 := hM1.up hx2
        have hA2 := hA.mono (ple_up (w' := w2) hM1.ple)
        clear hAC hM1 hx2
        generalize up H _ w2 = H2 at *
        cases hq : altOf ms x with
        | some fs =>
          obtain ⟨fa, fc, rfl, -, hR⟩ := (hF fs hq).form
          have hA3 := hA2.snoc hR
          rw [← hq, ← hsn.out] at hA3
          replace hA3 := Lib.hid hA3
          clear hq hF hA hA2
          go_wp2_with (at_mapUpdate; refine wpList_put_T 0 rfl _ _ _ 128 45 rfl Tryz.underlying128 rfl hM2 rfl (by rw [hal]; rfl) (by unfold maxLen; omega) rfl ?_; intro w3 hM3)
          try simp only [List.set_cons_succ, List.set_cons_zero] at hM3
          go_roundw
          case rel => exact ⟨k + 1, _, H2, by omega, by go_num, hM3, hA3.out⟩
          case measure => simp [intOf]; omega
        | none =>
          have hA3 := hA2.skip
          rw [← hq, ← hsn.out] at hA3
          have hM3 := hM2.skipT 0 rfl
          simp only [List.set_cons_zero] at hM3
          replace hA3 := Lib.hid hA3
          clear hq hF hA hA2
          go_wp2_with fail
          go_roundw
          case rel => exact ⟨k + 1, _, H2, by omega, by go_num, hM3, hA3.out⟩
          case measure => simp [intOf]; omega
      · obtain rfl : k = n + 1 := by omega
        have b0 : decide (((n + 1 : Nat) : Int) < (n : Int) + 1) = false := by simp
        have hat : at? (altsL (l.take (n + 1))) (n : Int) = altC l n := by
          unfold altC altsL
          rw [tabl_take, at?_take _ _ _ (by omega) (by omega)]
        rcases hA.get (n : Int) with ⟨fs, fa, fc, g1, g2, g3, gR⟩ | ⟨g1, g2, g3⟩
        · rw [hat] at g1
          have hE : Hid (altsE l n = (fs, 0)) := by show _ = _; rw [hm.out, g1]
          clear g1 hat hm
          go_wp2_with (at_lookup; refine wpList_look_T 0 rfl _ _ 128 45 rfl Tryz.underlying128 (zeroFms _) rfl hM rfl rfl (by omega) (by omega) g2 g3 ?_)
          refine bodyPost_ret (v := .tuple #[.slice fa fs.length fc, .int .i64 0]) (by simp [results, Tryz.results50, go_sem]) rfl ?_
          exact ⟨_, by rw [hE.out], hM.ex, by rw [hE.out]; exact gR.mono mono_FmR hM.ple⟩
        · rw [hat] at g1
          have hE : Hid (altsE l n = ([], 4)) := by show _ = _; rw [hm.out, g1]
          clear g1 hat hm
          go_wp2_with (at_lookup; refine wpList_look_T 0 rfl _ _ 128 45 rfl Tryz.underlying128 (zeroFms _) rfl hM rfl rfl (by omega) (by omega) g2 g3 ?_)
          refine bodyPost_ret (v := .tuple #[.slice none 0 0, .int .i64 4]) (by simp [results, Tryz.results50, go_sem]) rfl ?_
          exact ⟨_, by rw [hE.out], hM.ex, by rw [hE.out]; exact SliceRep.nil _ _ _⟩
  · have hm : altsE l i = ([], checkC l i) := by unfold altsE; rw [if_pos he]
    have b3 : (checkC l i != 0) = true := by simpa using he
    replace hm := Lib.hid hm
    generalize checkC l i = e at *
    clear hmm
    go_wp2_with fail
    refine bodyPost_ret (v := .tuple #[.slice none 0 0, .int .i64 e]) (by simp [results, Tryz.results50, go_sem]) rfl ?_
    exact ⟨_, by rw [hm.out], hx1, by rw [hm.out]; exact SliceRep.nil _ _ _⟩
end Go.Proofs.YtnpnjcaomakehaaGreat
